/- Part of the proof of QueryTells: walks and plain words, merged. -/
import Derived.Test.YtdaojihnaajfeaaBQueryTellsc
import Derived.Test.YtdaojihnaajfeaaBQueryTellsb
set_option linter.unusedVariables false
set_option linter.unusedSimpArgs false

set_option linter.unusedVariables false
set_option linter.unusedSimpArgs false
namespace Go.Proofs.YtdaojihnaajfeaaX
open Go Go.RowKit Go.Proofs
set_option maxRecDepth 100000
attribute [local go_sem ↓] stepsK_build stepsK_bs appendS
attribute [local go_sem] String.reduceEq String.reduceNe reduceCtorEq Int.reduceEq Nat.reduceAdd Nat.reduceSub Nat.reduceMul Nat.reduceLT Nat.reduceLeDiff Nat.reduceEqDiff Nat.reduceBEq Int.reduceToNat Int.reduceLT Int.reduceLE Int.reduceGT Int.reduceGE Int.reduceAdd Int.reduceSub Int.reduceMul Int.reduceNeg Int.reduceBEq Int.reduceBNe Int.reducePow Int.reduceDiv Int.reduceMod Int.reduceTDiv Int.reduceTMod Int.reduceNatCast
/-! ### query.Canon -/
def F9_S3 (x2 : List ((List UInt8) × (List UInt8))) (x9 : Int) (v8 : List ((List UInt8) × (List UInt8))) (x17 : Bool) (x18 : List (Int)) : St := ⟨[.junk, .junk, .junk, .junk, .junk, .junk, .ref 1 0 0 0, .junk, .ref 3 0 0 0, .junk, .junk, .junk, .junk, .junk, .junk, .junk, .junk, .junk, .junk, .junk, .junk, .junk, .junk, .junk, .junk, .junk, .junk, .junk, .rsl 0 2 0 x2.length, .imm (.int .i64 (x2.length : Int)), .imm (.int .i64 x9), .junk, .junk, .junk, .junk, .junk, .junk, .junk, .junk, .junk, .junk, .junk, .junk, .junk, .junk, .junk, .junk], [some (.buf 39 2 (List.map eT38 v8) 0), some (.box 51 (.agg [adT x17 1, .rsl 2 1 0 x18.length]) false), some (.buf 5 1 (List.map byteT x18) 0), some (.box 39 (.agg [.imm (.string (bs ((v8.getD x9.toNat default).1))), .imm (.string (bs ((v8.getD x9.toNat default).2)))]) false)]⟩
def F9_S2 (x2 : List ((List UInt8) × (List UInt8))) (v8 : List ((List UInt8) × (List UInt8))) (x9 : Int) (x10 : Bool) (x11 : List (Int)) : St := ⟨[.junk, .junk, .junk, .junk, .junk, .junk, .ref 1 0 0 0, .junk, .junk, .junk, .junk, .junk, .junk, .junk, .junk, .junk, .junk, .junk, .junk, .junk, .junk, .junk, .junk, .junk, .junk, .junk, .junk, .junk, .rsl 0 2 0 x2.length, .imm (.int .i64 (x2.length : Int)), .imm (.int .i64 x9), .junk, .junk, .junk, .junk, .junk, .junk, .junk, .junk, .junk, .junk, .junk, .junk, .junk, .junk, .junk, .junk], [some (.buf 39 2 (List.map eT38 v8) 0), some (.box 51 (.agg [adT x10 1, .rsl 2 1 0 x11.length]) false), some (.buf 5 1 (List.map byteT x11) 0)]⟩
def F9_S1 (a0 : List ((List UInt8) × (List UInt8))) (x1 : Int) (x2 : List ((List UInt8) × (List UInt8))) : St := ⟨[.junk, .junk, .junk, .rsl 0 2 0 x2.length, .junk, .junk, .junk, .junk, .junk, .sl 2 false (List.map eT38 a0), .imm (.int .i64 (a0.length : Int)), .imm (.int .i64 x1), .junk, .junk, .junk, .junk, .junk, .junk, .junk, .junk, .junk, .junk, .junk, .junk, .junk, .junk, .junk, .junk, .junk, .junk, .junk, .junk, .junk, .junk, .junk, .junk, .junk, .junk, .junk, .junk, .junk, .junk, .junk, .junk, .junk, .junk, .junk], [some (.buf 39 2 (List.map eT38 x2) 0)]⟩
mutual
def F9_J3 (m2 : Nat) (x2 : List ((List UInt8) × (List UInt8))) (x9 : Int) (v8 : List ((List UInt8) × (List UInt8))) (x17 : Bool) (x18 : List (Int)) : Option (List UInt8) := grd (((v8.getD x9.toNat default).1).length + 1 ≤ 9223372036854775807) (grd ((((v8.getD x9.toNat default).1).length + 1) + ((v8.getD x9.toNat default).2).length ≤ 9223372036854775807) ((F20 m2 (x17, x18) ((((v8.getD x9.toNat default).1) ++ ([61] : List UInt8)) ++ ((v8.getD x9.toNat default).2))).bind fun v21 => F9_L2 m2 x2 v8 (IntKind.wrap .i64 (x9 + (1 : Int))) v21.2.2.1 v21.2.2.2))
def F9_L2 : Nat → (List ((List UInt8) × (List UInt8))) → (List ((List UInt8) × (List UInt8))) → (Int) → (Bool) → (List (Int)) → Option (List UInt8)
 | 0, _, _, _, _, _ => none
 | m2 + 1, x2, v8, x9, x10, x11 => iteB (decide (x9 < (x2.length : Int))) (grd (0 ≤ x9 ∧ x9 < (x2.length : Int)) (grd (x9.toNat < v8.length) (iteB (decide ((0 : Int) < x9)) ((F20 m2 (x10, x11) ([38] : List UInt8)).bind fun v16 => F9_J3 m2 x2 x9 v8 v16.2.2.1 v16.2.2.2) (F9_J3 m2 x2 x9 v8 x10 x11)))) ((F21 m2 (x10, x11)).bind fun v22 => some v22.1)
def F9_L1 : Nat → (List ((List UInt8) × (List UInt8))) → (Int) → (List ((List UInt8) × (List UInt8))) → Option (List UInt8)
 | 0, _, _, _ => none
 | m1 + 1, a0, x1, x2 => iteB (decide (x1 < (a0.length : Int))) (grd (0 ≤ x1 ∧ x1 < (a0.length : Int)) ((F16 m1 ((a0.getD x1.toNat default).1) false).bind fun v5 => (F16 m1 ((a0.getD x1.toNat default).2) false).bind fun v6 => grd ((x2.length + 1) ≤ 549755813888) (F9_L1 m1 a0 (IntKind.wrap .i64 (x1 + (1 : Int))) (x2 ++ [(v5, v6)])))) ((F17 m1 x2).bind fun v8 => F9_L2 m1 x2 v8 (0 : Int) false [])
end
def F9 (n : Nat) (a0 : List ((List UInt8) × (List UInt8))) : Option (List UInt8) := F9_L1 n a0 (0 : Int) []
set_option maxHeartbeats 4000000 in
theorem F9_ok : ∀ (n : Nat) (a0 : List ((List UInt8) × (List UInt8))) (r : List UInt8), F9 n a0 = some r → FnC Try.prog 9 [.sl 2 false (List.map eT38 a0)] (.imm (.string (bs r)))
 | n, a0, r, h => by
  unfold F9 at h
  refine FnC.goX mixed Try.func9 (by kernel_rfl) rfl ?_
  simp only [Try.ntmps9, List.length_cons, List.length_nil, List.replicate, List.cons_append, List.nil_append, Nat.reduceAdd, Nat.reduceSub]
  refine runX_seq ?_
  refine runX_regionC fun C hC => ?_
  try simp -implicitDefEqProofs (maxSteps := 4000000) (disch := first | omega | decide | (simp only [go_sem]; omega)) only [go_sem, ↓reduceIte]
  repeat (with_reducible refine And.intro (by first | assumption | omega | (simp; done) | (simp; omega)) ?_)
  refine toEnd hC ?_
  refine endX_seq ?_
  refine runX_seq ?_
  refine runX_regionC fun C hC => ?_
  try simp -implicitDefEqProofs (maxSteps := 4000000) (disch := first | omega | decide | (simp only [go_sem]; omega)) only [go_sem, ↓reduceIte]
  repeat (with_reducible refine And.intro (by first | assumption | omega | (simp; done) | (simp; omega)) ?_)
  refine toEnd hC ?_
  refine endX_seq ?_
  refine runX_seq ?_
  refine runX_seq ?_
  refine runX_regionC fun C hC => ?_
  try simp -implicitDefEqProofs (maxSteps := 4000000) (disch := first | omega | decide | (simp only [go_sem]; omega)) only [go_sem, ↓reduceIte]
  repeat (with_reducible refine And.intro (by first | assumption | omega | (simp; done) | (simp; omega)) ?_)
  refine toEnd hC ?_
  refine endX_seq ?_
  refine runX_block ?_
  refine runX_loop [3, 9, 10, 11] (fun m S => ∃ (x1 : Int) (x2 : List ((List UInt8) × (List UInt8))), S = F9_S1 a0 x1 x2 ∧ m ≤ n ∧ F9_L1 m a0 x1 x2 = some r) n ⟨F9_S1 a0 (0 : Int) [], ?_, (0 : Int), [], rfl, Nat.le_refl _, h⟩ ?_
  ·(try simp -implicitDefEqProofs (maxSteps := 4000000) (disch := first | omega | decide | (simp only [go_sem]; omega)) only [go_sem, ↓reduceIte])
   simp only [F9_S1]
   refine leS_trans (leS_pad _ _ 1) ?_
   simp only [List.replicate, List.cons_append, List.nil_append]
   refine leS_virt 0 39 2 rfl ?_ ?_ rfl
   ·repeat (first | exact leL_refl _ | refine leL_cons (by first | exact leT_refl _ | exact leT_virt | exact leT_junk _ | exact leT_sl | exact leT_sln | exact leT_nil | (refine leT_agg (by repeat (first | exact leL_refl _ | refine leL_cons (by first | exact leT_refl _ | exact leT_sl | exact leT_sln | exact leT_nil) ?_)))) ?_)
   ·repeat (first | exact leOs_refl _ | refine leOs.cons (by first | exact leO.same _ | (refine leO.box (leT_agg (by repeat (first | exact leL_refl _ | refine leL_cons (by first | exact leT_refl _ | exact leT_virt | exact leT_junk _ | exact leT_sl | exact leT_sln | exact leT_nil | (refine leT_agg (by repeat (first | exact leL_refl _ | refine leL_cons (by first | exact leT_refl _ | exact leT_sl | exact leT_sln | exact leT_nil) ?_)))) ?_))) rfl) | (refine leO.box (by first | exact leT_virt | exact leT_sl | exact leT_sln) rfl)) ?_)
  ·clear h
   rintro m1 S ⟨x1, x2, rfl, hm1, h⟩
   cases m1 with
   | zero => first | cases (show (none : Option _) = some _ from h) | (rw [F9_L1] at h; cases h)
   | succ m1 =>
    rw [F9_L1] at h
    simp only [F9_S1]
    refine runX_seq ?_
    refine runX_regionC fun C hC => ?_
    try simp -implicitDefEqProofs (maxSteps := 4000000) (disch := first | omega | decide | (simp only [go_sem]; omega)) only [go_sem, ↓reduceIte]
    repeat (with_reducible refine And.intro (by first | assumption | omega | (simp; done) | (simp; omega)) ?_)
    refine toEnd hC ?_
    refine endX_seq ?_
    refine runX_seq ?_
    rcases iteB_some h with ⟨c3, h⟩ | ⟨c3, h⟩
    ·refine runX_condT rfl c3 ?_
     refine runX_skip ?_
     refine endX_seq ?_
     refine runX_seq ?_
     refine runX_block ?_
     refine runX_seq ?_
     refine runX_regionC fun C hC => ?_
     obtain ⟨g4, h⟩ := grd_some h
     try simp -implicitDefEqProofs (maxSteps := 4000000) (disch := first | omega | decide | (simp only [go_sem]; omega)) only [go_sem, ↓reduceIte]
     repeat (with_reducible refine And.intro (by first | assumption | omega | (simp; done) | (simp; omega)) ?_)
     refine toEnd hC ?_
     refine endX_seq ?_
     refine runX_drawC mixed (by kernel_rfl) fun C hC => ?_
     obtain ⟨v5, h5, h⟩ := bnd_some h
     try simp -implicitDefEqProofs (maxSteps := 4000000) (disch := first | omega | decide | (simp only [go_sem]; omega)) only [go_sem, ↓reduceIte]
     repeat (with_reducible refine And.intro (by first | assumption | omega | (simp; done) | (simp; omega)) ?_)
     refine callD_X (F16_ok m1 ((a0.getD x1.toNat default).1) false _ h5) (by repeat (first | exact leL_refl _ | refine leL_cons (by first | exact leT_refl _ | exact leT_virt | exact leT_junk _ | exact leT_sl | exact leT_sln | exact leT_nil | (refine leT_agg (by repeat (first | exact leL_refl _ | refine leL_cons (by first | exact leT_refl _ | exact leT_sl | exact leT_sln | exact leT_nil) ?_)))) ?_)) ?_
     obtain ⟨v6, h6, h⟩ := bnd_some h
     try simp -implicitDefEqProofs (maxSteps := 4000000) (disch := first | omega | decide | (simp only [go_sem]; omega)) only [go_sem, ↓reduceIte]
     repeat (with_reducible refine And.intro (by first | assumption | omega | (simp; done) | (simp; omega)) ?_)
     refine callD_X (F16_ok m1 ((a0.getD x1.toNat default).2) false _ h6) (by repeat (first | exact leL_refl _ | refine leL_cons (by first | exact leT_refl _ | exact leT_virt | exact leT_junk _ | exact leT_sl | exact leT_sln | exact leT_nil | (refine leT_agg (by repeat (first | exact leL_refl _ | refine leL_cons (by first | exact leT_refl _ | exact leT_sl | exact leT_sln | exact leT_nil) ?_)))) ?_)) ?_
     try simp -implicitDefEqProofs (maxSteps := 4000000) (disch := first | omega | decide | (simp only [go_sem]; omega)) only [go_sem, ↓reduceIte]
     repeat (with_reducible refine And.intro (by first | assumption | omega | (simp; done) | (simp; omega)) ?_)
     refine buildW_of [.imm (.string (bs v5)), .imm (.string (bs v6))] (by kernel_rfl) ?_
     try simp -implicitDefEqProofs (maxSteps := 4000000) (disch := first | omega | decide | (simp only [go_sem]; omega)) only [go_sem, ↓reduceIte]
     repeat (with_reducible refine And.intro (by first | assumption | omega | (simp; done) | (simp; omega)) ?_)
     refine buildX_val ?_
     obtain ⟨g7, h⟩ := grd_some h
     try simp -implicitDefEqProofs (maxSteps := 4000000) (disch := first | omega | decide | (simp only [go_sem]; omega)) only [go_sem, ↓reduceIte]
     repeat (with_reducible refine And.intro (by first | assumption | omega | (simp; done) | (simp; omega)) ?_)
     refine toEnd hC ?_
     refine endX_blk ?_
     refine endX_seq ?_
     refine runX_regionC fun C hC => ?_
     try simp -implicitDefEqProofs (maxSteps := 4000000) (disch := first | omega | decide | (simp only [go_sem]; omega)) only [go_sem, ↓reduceIte]
     repeat (with_reducible refine And.intro (by first | assumption | omega | (simp; done) | (simp; omega)) ?_)
     refine toEnd hC ?_
     refine endX_q (roundQ_normal ⟨m1, by omega, F9_S1 a0 (IntKind.wrap .i64 (x1 + (1 : Int))) (x2 ++ [(v5, v6)]), ?_, (IntKind.wrap .i64 (x1 + (1 : Int))), (x2 ++ [(v5, v6)]), rfl, by omega, h⟩)
     simp only [F9_S1]
     (try simp -implicitDefEqProofs (maxSteps := 4000000) (disch := first | omega | decide | (simp only [go_sem]; omega)) only [go_sem, ↓reduceIte])
     first | exact leS_refl _ | (refine leS_le ?_ ?_ <;> first | exact leL_refl _ | exact leOs_refl _ | (simp only [List.append_assoc, List.cons_append, List.nil_append]; exact leOs_refl _) | (refine leOs.cons (by first | exact leO.same _ | (refine leO.box (leT_agg (by repeat (first | exact leL_refl _ | refine leL_cons (by first | exact leT_refl _ | exact leT_virt | exact leT_junk _ | exact leT_sl | exact leT_sln | exact leT_nil | (refine leT_agg (by repeat (first | exact leL_refl _ | refine leL_cons (by first | exact leT_refl _ | exact leT_sl | exact leT_sln | exact leT_nil) ?_)))) ?_))) rfl) | (refine leO.box (by first | exact leT_virt | exact leT_sl | exact leT_sln) rfl)) ?_; repeat (first | exact leOs_refl _ | refine leOs.cons (by first | exact leO.same _ | (refine leO.box (leT_agg (by repeat (first | exact leL_refl _ | refine leL_cons (by first | exact leT_refl _ | exact leT_virt | exact leT_junk _ | exact leT_sl | exact leT_sln | exact leT_nil | (refine leT_agg (by repeat (first | exact leL_refl _ | refine leL_cons (by first | exact leT_refl _ | exact leT_sl | exact leT_sln | exact leT_nil) ?_)))) ?_))) rfl) | (refine leO.box (by first | exact leT_virt | exact leT_sl | exact leT_sln) rfl)) ?_)) | (repeat (first | exact leL_refl _ | refine leL_cons (by first | exact leT_refl _ | exact leT_virt | exact leT_junk _ | exact leT_sl | exact leT_sln | exact leT_nil | (refine leT_agg (by repeat (first | exact leL_refl _ | refine leL_cons (by first | exact leT_refl _ | exact leT_sl | exact leT_sln | exact leT_nil) ?_)))) ?_)))
    ·refine runX_condF rfl c3 ?_
     refine runX_exit ?_
     refine endX_seqE ?_
     refine endX_q (roundQ_exit ?_)
     refine endX_blkE ?_
     refine endX_seq ?_
     refine runX_seq ?_
     refine runX_regionN fun C hC => ?_
     obtain ⟨v8, h8, h⟩ := bnd_some h
     try simp -implicitDefEqProofs (maxSteps := 4000000) (disch := first | omega | decide | (simp only [go_sem]; omega)) only [go_sem, ↓reduceIte]
     repeat (with_reducible refine And.intro (by first | assumption | omega | (simp; done) | (simp; omega)) ?_)
     refine callI_X 0 39 2 _ _ x2.length (by simp) rfl (F17_ok m1 x2 _ h8) (by first | rfl | (simp; done)) ?_
     try simp -implicitDefEqProofs (maxSteps := 4000000) (disch := first | omega | decide | (simp only [go_sem]; omega)) only [go_sem, ↓reduceIte]
     repeat (with_reducible refine And.intro (by first | assumption | omega | (simp; done) | (simp; omega)) ?_)
     refine toEnd hC ?_
     refine endX_seq ?_
     refine runX_seq ?_
     refine runX_regionC fun C hC => ?_
     try simp -implicitDefEqProofs (maxSteps := 4000000) (disch := first | omega | decide | (simp only [go_sem]; omega)) only [go_sem, ↓reduceIte]
     repeat (with_reducible refine And.intro (by first | assumption | omega | (simp; done) | (simp; omega)) ?_)
     refine toEnd hC ?_
     refine endX_seq ?_
     refine runX_seq ?_
     refine runX_seq ?_
     refine runX_regionC fun C hC => ?_
     try simp -implicitDefEqProofs (maxSteps := 4000000) (disch := first | omega | decide | (simp only [go_sem]; omega)) only [go_sem, ↓reduceIte]
     repeat (with_reducible refine And.intro (by first | assumption | omega | (simp; done) | (simp; omega)) ?_)
     refine toEnd hC ?_
     refine endX_seq ?_
     refine runX_block ?_
     refine runX_loop [6, 28, 29, 30] (fun m S => ∃ (x9 : Int) (x10 : Bool) (x11 : List (Int)), S = F9_S2 x2 v8 x9 x10 x11 ∧ m ≤ m1 ∧ F9_L2 m x2 v8 x9 x10 x11 = some r) m1 ⟨F9_S2 x2 v8 (0 : Int) false [], ?_, (0 : Int), false, [], rfl, Nat.le_refl _, h⟩ ?_
     ·(try simp -implicitDefEqProofs (maxSteps := 4000000) (disch := first | omega | decide | (simp only [go_sem]; omega)) only [go_sem, ↓reduceIte])
      simp only [F9_S2]
      refine leS_trans (leS_pad _ _ 1) ?_
      simp only [List.replicate, List.cons_append, List.nil_append]
      refine leS_virt 2 5 1 rfl ?_ ?_ rfl
      ·repeat (first | exact leL_refl _ | refine leL_cons (by first | exact leT_refl _ | exact leT_virt | exact leT_junk _ | exact leT_sl | exact leT_sln | exact leT_nil | (refine leT_agg (by repeat (first | exact leL_refl _ | refine leL_cons (by first | exact leT_refl _ | exact leT_sl | exact leT_sln | exact leT_nil) ?_)))) ?_)
      ·repeat (first | exact leOs_refl _ | refine leOs.cons (by first | exact leO.same _ | (refine leO.box (leT_agg (by repeat (first | exact leL_refl _ | refine leL_cons (by first | exact leT_refl _ | exact leT_virt | exact leT_junk _ | exact leT_sl | exact leT_sln | exact leT_nil | (refine leT_agg (by repeat (first | exact leL_refl _ | refine leL_cons (by first | exact leT_refl _ | exact leT_sl | exact leT_sln | exact leT_nil) ?_)))) ?_))) rfl) | (refine leO.box (by first | exact leT_virt | exact leT_sl | exact leT_sln) rfl)) ?_)
     ·clear h
      rintro m2 S ⟨x9, x10, x11, rfl, hm2, h⟩
      cases m2 with
      | zero => first | cases (show (none : Option _) = some _ from h) | (rw [F9_L2] at h; cases h)
      | succ m2 =>
       rw [F9_L2] at h
       simp only [F9_S2]
       refine runX_seq ?_
       refine runX_regionC fun C hC => ?_
       try simp -implicitDefEqProofs (maxSteps := 4000000) (disch := first | omega | decide | (simp only [go_sem]; omega)) only [go_sem, ↓reduceIte]
       repeat (with_reducible refine And.intro (by first | assumption | omega | (simp; done) | (simp; omega)) ?_)
       refine toEnd hC ?_
       refine endX_seq ?_
       refine runX_seq ?_
       rcases iteB_some h with ⟨c12, h⟩ | ⟨c12, h⟩
       ·refine runX_condT rfl c12 ?_
        refine runX_skip ?_
        refine endX_seq ?_
        refine runX_seq ?_
        refine runX_block ?_
        refine runX_seq ?_
        refine runX_regionC fun C hC => ?_
        obtain ⟨g13, h⟩ := grd_some h
        obtain ⟨g14, h⟩ := grd_some h
        try simp -implicitDefEqProofs (maxSteps := 4000000) (disch := first | omega | decide | (simp only [go_sem]; omega)) only [go_sem, ↓reduceIte]
        repeat (with_reducible refine And.intro (by first | assumption | omega | (simp; done) | (simp; omega)) ?_)
        refine toEnd hC ?_
        refine endX_seq ?_
        refine runX_meet [6, 8, 28, 29, 30] (fun S => ∃ (x17 : Bool) (x18 : List (Int)), S = F9_S3 x2 x9 v8 x17 x18 ∧ F9_J3 m2 x2 x9 v8 x17 x18 = some r) ?_ ?_
        ·refine runX_seq ?_
         refine runX_regionC fun C hC => ?_
         try simp -implicitDefEqProofs (maxSteps := 4000000) (disch := first | omega | decide | (simp only [go_sem]; omega)) only [go_sem, ↓reduceIte]
         repeat (with_reducible refine And.intro (by first | assumption | omega | (simp; done) | (simp; omega)) ?_)
         refine toEnd hC ?_
         refine endX_seq ?_
         rcases iteB_some h with ⟨c15, h⟩ | ⟨c15, h⟩
         ·refine runX_condT rfl c15 ?_
          refine runX_regionC fun C hC => ?_
          simp only [runK_region, runK_draw, liteL, liteL2, dstsL, gL, List.getD_cons_zero, List.getD_cons_succ]
          obtain ⟨v16, h16, h⟩ := bnd_some h
          try simp -implicitDefEqProofs (maxSteps := 4000000) (disch := first | omega | decide | (simp only [go_sem]; omega)) only [go_sem, ↓reduceIte]
          repeat (with_reducible refine And.intro (by first | assumption | omega | (simp; done) | (simp; omega)) ?_)
          refine callR_X [1, 2] (F20_ok m2 (x10, x11) ([38] : List UInt8) _ h16) (by decide) (by (try simp -implicitDefEqProofs (maxSteps := 4000000) (disch := first | omega | decide | (simp only [go_sem]; omega)) only [go_sem, ↓reduceIte]); repeat (first | exact trivial | refine And.intro ?_ ?_ | exact fun _ => trivial | exact fun _ _ => trivial | exact fun _ _ h => h | rfl | decide)) (by (try simp -implicitDefEqProofs (maxSteps := 4000000) (disch := first | omega | decide | (simp only [go_sem]; omega)) only [go_sem, ↓reduceIte]); repeat (first | exact leL_refl _ | refine leL_cons (by first | exact leT_refl _ | exact leT_virt | exact leT_junk _ | exact leT_sl | exact leT_sln | exact leT_nil | (refine leT_agg (by repeat (first | exact leL_refl _ | refine leL_cons (by first | exact leT_refl _ | exact leT_sl | exact leT_sln | exact leT_nil) ?_)))) ?_)) ?_
          try simp -implicitDefEqProofs (maxSteps := 4000000) (disch := first | omega | decide | (simp only [go_sem]; omega)) only [go_sem, ↓reduceIte]
          repeat (with_reducible refine And.intro (by first | assumption | omega | (simp; done) | (simp; omega)) ?_)
          refine toEnd hC ?_
          refine endX_q (meetQ_normal ⟨F9_S3 x2 x9 v8 v16.2.2.1 v16.2.2.2, ?_, v16.2.2.1, v16.2.2.2, rfl, h⟩)
          simp only [F9_S3]
          (try simp -implicitDefEqProofs (maxSteps := 4000000) (disch := first | omega | decide | (simp only [go_sem]; omega)) only [go_sem, ↓reduceIte])
          first | exact leS_refl _ | (refine leS_le ?_ ?_ <;> first | exact leL_refl _ | exact leOs_refl _ | (simp only [List.append_assoc, List.cons_append, List.nil_append]; exact leOs_refl _) | (refine leOs.cons (by first | exact leO.same _ | (refine leO.box (leT_agg (by repeat (first | exact leL_refl _ | refine leL_cons (by first | exact leT_refl _ | exact leT_virt | exact leT_junk _ | exact leT_sl | exact leT_sln | exact leT_nil | (refine leT_agg (by repeat (first | exact leL_refl _ | refine leL_cons (by first | exact leT_refl _ | exact leT_sl | exact leT_sln | exact leT_nil) ?_)))) ?_))) rfl) | (refine leO.box (by first | exact leT_virt | exact leT_sl | exact leT_sln) rfl)) ?_; repeat (first | exact leOs_refl _ | refine leOs.cons (by first | exact leO.same _ | (refine leO.box (leT_agg (by repeat (first | exact leL_refl _ | refine leL_cons (by first | exact leT_refl _ | exact leT_virt | exact leT_junk _ | exact leT_sl | exact leT_sln | exact leT_nil | (refine leT_agg (by repeat (first | exact leL_refl _ | refine leL_cons (by first | exact leT_refl _ | exact leT_sl | exact leT_sln | exact leT_nil) ?_)))) ?_))) rfl) | (refine leO.box (by first | exact leT_virt | exact leT_sl | exact leT_sln) rfl)) ?_)) | (repeat (first | exact leL_refl _ | refine leL_cons (by first | exact leT_refl _ | exact leT_virt | exact leT_junk _ | exact leT_sl | exact leT_sln | exact leT_nil | (refine leT_agg (by repeat (first | exact leL_refl _ | refine leL_cons (by first | exact leT_refl _ | exact leT_sl | exact leT_sln | exact leT_nil) ?_)))) ?_)))
         ·refine runX_condF rfl c15 ?_
          refine runX_skip ?_
          refine endX_q (meetQ_normal ⟨F9_S3 x2 x9 v8 x10 x11, ?_, x10, x11, rfl, h⟩)
          simp only [F9_S3]
          (try simp -implicitDefEqProofs (maxSteps := 4000000) (disch := first | omega | decide | (simp only [go_sem]; omega)) only [go_sem, ↓reduceIte])
          first | exact leS_refl _ | (refine leS_le ?_ ?_ <;> first | exact leL_refl _ | exact leOs_refl _ | (simp only [List.append_assoc, List.cons_append, List.nil_append]; exact leOs_refl _) | (refine leOs.cons (by first | exact leO.same _ | (refine leO.box (leT_agg (by repeat (first | exact leL_refl _ | refine leL_cons (by first | exact leT_refl _ | exact leT_virt | exact leT_junk _ | exact leT_sl | exact leT_sln | exact leT_nil | (refine leT_agg (by repeat (first | exact leL_refl _ | refine leL_cons (by first | exact leT_refl _ | exact leT_sl | exact leT_sln | exact leT_nil) ?_)))) ?_))) rfl) | (refine leO.box (by first | exact leT_virt | exact leT_sl | exact leT_sln) rfl)) ?_; repeat (first | exact leOs_refl _ | refine leOs.cons (by first | exact leO.same _ | (refine leO.box (leT_agg (by repeat (first | exact leL_refl _ | refine leL_cons (by first | exact leT_refl _ | exact leT_virt | exact leT_junk _ | exact leT_sl | exact leT_sln | exact leT_nil | (refine leT_agg (by repeat (first | exact leL_refl _ | refine leL_cons (by first | exact leT_refl _ | exact leT_sl | exact leT_sln | exact leT_nil) ?_)))) ?_))) rfl) | (refine leO.box (by first | exact leT_virt | exact leT_sl | exact leT_sln) rfl)) ?_)) | (repeat (first | exact leL_refl _ | refine leL_cons (by first | exact leT_refl _ | exact leT_virt | exact leT_junk _ | exact leT_sl | exact leT_sln | exact leT_nil | (refine leT_agg (by repeat (first | exact leL_refl _ | refine leL_cons (by first | exact leT_refl _ | exact leT_sl | exact leT_sln | exact leT_nil) ?_)))) ?_)))
        ·clear h
         rintro S ⟨x17, x18, rfl, h⟩
         rw [F9_J3] at h
         simp only [F9_S3]
         refine runX_regionC fun C hC => ?_
         obtain ⟨g19, h⟩ := grd_some h
         obtain ⟨g20, h⟩ := grd_some h
         obtain ⟨v21, h21, h⟩ := bnd_some h
         try simp -implicitDefEqProofs (maxSteps := 4000000) (disch := first | omega | decide | (simp only [go_sem]; omega)) only [go_sem, ↓reduceIte]
         repeat (with_reducible refine And.intro (by first | assumption | omega | (simp; done) | (simp; omega)) ?_)
         refine callR_X [1, 2] (F20_ok m2 (x17, x18) ((((v8.getD x9.toNat default).1) ++ ([61] : List UInt8)) ++ ((v8.getD x9.toNat default).2)) _ h21) (by decide) (by (try simp -implicitDefEqProofs (maxSteps := 4000000) (disch := first | omega | decide | (simp only [go_sem]; omega)) only [go_sem, ↓reduceIte]); repeat (first | exact trivial | refine And.intro ?_ ?_ | exact fun _ => trivial | exact fun _ _ => trivial | exact fun _ _ h => h | rfl | decide)) (by (try simp -implicitDefEqProofs (maxSteps := 4000000) (disch := first | omega | decide | (simp only [go_sem]; omega)) only [go_sem, ↓reduceIte]); repeat (first | exact leL_refl _ | refine leL_cons (by first | exact leT_refl _ | exact leT_virt | exact leT_junk _ | exact leT_sl | exact leT_sln | exact leT_nil | (refine leT_agg (by repeat (first | exact leL_refl _ | refine leL_cons (by first | exact leT_refl _ | exact leT_sl | exact leT_sln | exact leT_nil) ?_)))) ?_)) ?_
         try simp -implicitDefEqProofs (maxSteps := 4000000) (disch := first | omega | decide | (simp only [go_sem]; omega)) only [go_sem, ↓reduceIte]
         repeat (with_reducible refine And.intro (by first | assumption | omega | (simp; done) | (simp; omega)) ?_)
         refine toEnd hC ?_
         refine endX_blk ?_
         refine endX_seq ?_
         refine runX_regionC fun C hC => ?_
         try simp -implicitDefEqProofs (maxSteps := 4000000) (disch := first | omega | decide | (simp only [go_sem]; omega)) only [go_sem, ↓reduceIte]
         repeat (with_reducible refine And.intro (by first | assumption | omega | (simp; done) | (simp; omega)) ?_)
         refine toEnd hC ?_
         refine endX_q (roundQ_normal ⟨m2, by omega, F9_S2 x2 v8 (IntKind.wrap .i64 (x9 + (1 : Int))) v21.2.2.1 v21.2.2.2, ?_, (IntKind.wrap .i64 (x9 + (1 : Int))), v21.2.2.1, v21.2.2.2, rfl, by omega, h⟩)
         simp only [F9_S2]
         (try simp -implicitDefEqProofs (maxSteps := 4000000) (disch := first | omega | decide | (simp only [go_sem]; omega)) only [go_sem, ↓reduceIte])
         first | exact leS_refl _ | (refine leS_le ?_ ?_ <;> first | exact leL_refl _ | exact leOs_refl _ | (simp only [List.append_assoc, List.cons_append, List.nil_append]; exact leOs_refl _) | (refine leOs.cons (by first | exact leO.same _ | (refine leO.box (leT_agg (by repeat (first | exact leL_refl _ | refine leL_cons (by first | exact leT_refl _ | exact leT_virt | exact leT_junk _ | exact leT_sl | exact leT_sln | exact leT_nil | (refine leT_agg (by repeat (first | exact leL_refl _ | refine leL_cons (by first | exact leT_refl _ | exact leT_sl | exact leT_sln | exact leT_nil) ?_)))) ?_))) rfl) | (refine leO.box (by first | exact leT_virt | exact leT_sl | exact leT_sln) rfl)) ?_; repeat (first | exact leOs_refl _ | refine leOs.cons (by first | exact leO.same _ | (refine leO.box (leT_agg (by repeat (first | exact leL_refl _ | refine leL_cons (by first | exact leT_refl _ | exact leT_virt | exact leT_junk _ | exact leT_sl | exact leT_sln | exact leT_nil | (refine leT_agg (by repeat (first | exact leL_refl _ | refine leL_cons (by first | exact leT_refl _ | exact leT_sl | exact leT_sln | exact leT_nil) ?_)))) ?_))) rfl) | (refine leO.box (by first | exact leT_virt | exact leT_sl | exact leT_sln) rfl)) ?_)) | (repeat (first | exact leL_refl _ | refine leL_cons (by first | exact leT_refl _ | exact leT_virt | exact leT_junk _ | exact leT_sl | exact leT_sln | exact leT_nil | (refine leT_agg (by repeat (first | exact leL_refl _ | refine leL_cons (by first | exact leT_refl _ | exact leT_sl | exact leT_sln | exact leT_nil) ?_)))) ?_)))
       ·refine runX_condF rfl c12 ?_
        refine runX_exit ?_
        refine endX_seqE ?_
        refine endX_q (roundQ_exit ?_)
        refine endX_blkE ?_
        refine endX_seq ?_
        refine runX_seq ?_
        refine runX_regionC fun C hC => ?_
        simp only [runK_region, runK_draw, liteL, liteL2, dstsL, gL, List.getD_cons_zero, List.getD_cons_succ]
        obtain ⟨v22, h22, h⟩ := bnd_some h
        try simp -implicitDefEqProofs (maxSteps := 4000000) (disch := first | omega | decide | (simp only [go_sem]; omega)) only [go_sem, ↓reduceIte]
        repeat (with_reducible refine And.intro (by first | assumption | omega | (simp; done) | (simp; omega)) ?_)
        refine callR_X [1, 2] (F21_ok m2 (x10, x11) _ h22) (by decide) (by (try simp -implicitDefEqProofs (maxSteps := 4000000) (disch := first | omega | decide | (simp only [go_sem]; omega)) only [go_sem, ↓reduceIte]); repeat (first | exact trivial | refine And.intro ?_ ?_ | exact fun _ => trivial | exact fun _ _ => trivial | exact fun _ _ h => h | rfl | decide)) (by (try simp -implicitDefEqProofs (maxSteps := 4000000) (disch := first | omega | decide | (simp only [go_sem]; omega)) only [go_sem, ↓reduceIte]); repeat (first | exact leL_refl _ | refine leL_cons (by first | exact leT_refl _ | exact leT_virt | exact leT_junk _ | exact leT_sl | exact leT_sln | exact leT_nil | (refine leT_agg (by repeat (first | exact leL_refl _ | refine leL_cons (by first | exact leT_refl _ | exact leT_sl | exact leT_sln | exact leT_nil) ?_)))) ?_)) ?_
        try simp -implicitDefEqProofs (maxSteps := 4000000) (disch := first | omega | decide | (simp only [go_sem]; omega)) only [go_sem, ↓reduceIte]
        repeat (with_reducible refine And.intro (by first | assumption | omega | (simp; done) | (simp; omega)) ?_)
        refine toEnd hC ?_
        refine endX_seq ?_
        refine runX_ret ?_
        refine endX_q ?_
        obtain rfl := Option.some.inj h
        show RetW _ _ _ _ _
        simp only [RetW]
        (try simp -implicitDefEqProofs (maxSteps := 4000000) (disch := first | omega | decide | (simp only [go_sem]; omega)) only [go_sem, ↓reduceIte])
        (try simp (disch := omega) only [if_pos, Nat.sub_zero])
        exact leT_refl _
end Go.Proofs.YtdaojihnaajfeaaX

set_option linter.unusedVariables false
set_option linter.unusedSimpArgs false
namespace Go.Proofs.YtdaojihnaajfeaaX
open Go Go.RowKit Go.Proofs
set_option maxRecDepth 100000
attribute [local go_sem ↓] stepsK_build stepsK_bs appendS
attribute [local go_sem] String.reduceEq String.reduceNe reduceCtorEq Int.reduceEq Nat.reduceAdd Nat.reduceSub Nat.reduceMul Nat.reduceLT Nat.reduceLeDiff Nat.reduceEqDiff Nat.reduceBEq Int.reduceToNat Int.reduceLT Int.reduceLE Int.reduceGT Int.reduceGE Int.reduceAdd Int.reduceSub Int.reduceMul Int.reduceNeg Int.reduceBEq Int.reduceBNe Int.reducePow Int.reduceDiv Int.reduceMod Int.reduceTDiv Int.reduceTMod Int.reduceNatCast
/-! ### shadowboxref28.Plain -/
def F35 (n : Nat) (a0 : Int) : Option (Bool) := (F27 n a0).bind fun v1 => iteB (v1 != (0 : Int)) (some true) (iteB (a0 == (45 : Int)) (some true) (iteB (a0 == (46 : Int)) (some true) (iteB (a0 == (95 : Int)) (some true) (some (a0 == (126 : Int))))))
set_option maxHeartbeats 4000000 in
theorem F35_ok : ∀ (n : Nat) (a0 : Int) (r : Bool), F35 n a0 = some r → FnC Try.prog 35 [.imm (.int .u8 a0)] (.imm (.bool r))
 | n, a0, r, h => by
  unfold F35 at h
  refine FnC.goX mixed Try.func35 (by kernel_rfl) rfl ?_
  simp only [Try.ntmps35, List.length_cons, List.length_nil, List.replicate, List.cons_append, List.nil_append, Nat.reduceAdd, Nat.reduceSub]
  refine runX_seq ?_
  refine runX_regionC fun C hC => ?_
  try simp -implicitDefEqProofs (maxSteps := 4000000) (disch := first | omega | decide | (simp only [go_sem]; omega)) only [go_sem, ↓reduceIte]
  repeat (with_reducible refine And.intro (by first | assumption | omega | (simp; done) | (simp; omega)) ?_)
  refine toEnd hC ?_
  refine endX_seq ?_
  refine runX_seq ?_
  refine runX_regionC fun C hC => ?_
  obtain ⟨v1, h1, h⟩ := bnd_some h
  try simp -implicitDefEqProofs (maxSteps := 4000000) (disch := first | omega | decide | (simp only [go_sem]; omega)) only [go_sem, ↓reduceIte]
  repeat (with_reducible refine And.intro (by first | assumption | omega | (simp; done) | (simp; omega)) ?_)
  refine callG_X (by first | rfl | (simp only [go_sem]; done) | (simp only [closedL, closedT, Bool.and_true]; exact closedL_map _ (fun _ => by first | rfl | (simp only [go_sem]; done)) _)) (F27_ok n a0 _ h1) (by repeat (first | exact leL_refl _ | refine leL_cons (by first | exact leT_refl _ | exact leT_virt | exact leT_junk _ | exact leT_sl | exact leT_sln | exact leT_nil | (refine leT_agg (by repeat (first | exact leL_refl _ | refine leL_cons (by first | exact leT_refl _ | exact leT_sl | exact leT_sln | exact leT_nil) ?_)))) ?_)) ?_
  try simp -implicitDefEqProofs (maxSteps := 4000000) (disch := first | omega | decide | (simp only [go_sem]; omega)) only [go_sem, ↓reduceIte]
  repeat (with_reducible refine And.intro (by first | assumption | omega | (simp; done) | (simp; omega)) ?_)
  rcases iteB_some h with ⟨c2, h⟩ | ⟨c2, h⟩
  ·refine guardK_F c2 ?_
   try simp -implicitDefEqProofs (maxSteps := 4000000) (disch := first | omega | decide | (simp only [go_sem]; omega)) only [go_sem, ↓reduceIte]
   repeat (with_reducible refine And.intro (by first | assumption | omega | (simp; done) | (simp; omega)) ?_)
   refine toEnd hC ?_
   refine endX_seq ?_
   refine runX_ret ?_
   refine endX_q ?_
   obtain rfl := Option.some.inj h
   show RetW _ _ _ _ _
   simp only [RetW]
   (try simp -implicitDefEqProofs (maxSteps := 4000000) (disch := first | omega | decide | (simp only [go_sem]; omega)) only [go_sem, ↓reduceIte])
   (try simp (disch := omega) only [if_pos, Nat.sub_zero])
   exact leT_refl _
  ·refine guardK_T c2 ?_
   try simp -implicitDefEqProofs (maxSteps := 4000000) (disch := first | omega | decide | (simp only [go_sem]; omega)) only [go_sem, ↓reduceIte]
   repeat (with_reducible refine And.intro (by first | assumption | omega | (simp; done) | (simp; omega)) ?_)
   rcases iteB_some h with ⟨c3, h⟩ | ⟨c3, h⟩
   ·refine guardK_F c3 ?_
    try simp -implicitDefEqProofs (maxSteps := 4000000) (disch := first | omega | decide | (simp only [go_sem]; omega)) only [go_sem, ↓reduceIte]
    repeat (with_reducible refine And.intro (by first | assumption | omega | (simp; done) | (simp; omega)) ?_)
    refine toEnd hC ?_
    refine endX_seq ?_
    refine runX_ret ?_
    refine endX_q ?_
    obtain rfl := Option.some.inj h
    show RetW _ _ _ _ _
    simp only [RetW]
    (try simp -implicitDefEqProofs (maxSteps := 4000000) (disch := first | omega | decide | (simp only [go_sem]; omega)) only [go_sem, ↓reduceIte])
    (try simp (disch := omega) only [if_pos, Nat.sub_zero])
    exact leT_refl _
   ·refine guardK_T c3 ?_
    try simp -implicitDefEqProofs (maxSteps := 4000000) (disch := first | omega | decide | (simp only [go_sem]; omega)) only [go_sem, ↓reduceIte]
    repeat (with_reducible refine And.intro (by first | assumption | omega | (simp; done) | (simp; omega)) ?_)
    rcases iteB_some h with ⟨c4, h⟩ | ⟨c4, h⟩
    ·refine guardK_F c4 ?_
     try simp -implicitDefEqProofs (maxSteps := 4000000) (disch := first | omega | decide | (simp only [go_sem]; omega)) only [go_sem, ↓reduceIte]
     repeat (with_reducible refine And.intro (by first | assumption | omega | (simp; done) | (simp; omega)) ?_)
     refine toEnd hC ?_
     refine endX_seq ?_
     refine runX_ret ?_
     refine endX_q ?_
     obtain rfl := Option.some.inj h
     show RetW _ _ _ _ _
     simp only [RetW]
     (try simp -implicitDefEqProofs (maxSteps := 4000000) (disch := first | omega | decide | (simp only [go_sem]; omega)) only [go_sem, ↓reduceIte])
     (try simp (disch := omega) only [if_pos, Nat.sub_zero])
     exact leT_refl _
    ·refine guardK_T c4 ?_
     try simp -implicitDefEqProofs (maxSteps := 4000000) (disch := first | omega | decide | (simp only [go_sem]; omega)) only [go_sem, ↓reduceIte]
     repeat (with_reducible refine And.intro (by first | assumption | omega | (simp; done) | (simp; omega)) ?_)
     rcases iteB_some h with ⟨c5, h⟩ | ⟨c5, h⟩
     ·refine guardK_F c5 ?_
      try simp -implicitDefEqProofs (maxSteps := 4000000) (disch := first | omega | decide | (simp only [go_sem]; omega)) only [go_sem, ↓reduceIte]
      repeat (with_reducible refine And.intro (by first | assumption | omega | (simp; done) | (simp; omega)) ?_)
      refine toEnd hC ?_
      refine endX_seq ?_
      refine runX_ret ?_
      refine endX_q ?_
      obtain rfl := Option.some.inj h
      show RetW _ _ _ _ _
      simp only [RetW]
      (try simp -implicitDefEqProofs (maxSteps := 4000000) (disch := first | omega | decide | (simp only [go_sem]; omega)) only [go_sem, ↓reduceIte])
      (try simp (disch := omega) only [if_pos, Nat.sub_zero])
      exact leT_refl _
     ·refine guardK_T c5 ?_
      try simp -implicitDefEqProofs (maxSteps := 4000000) (disch := first | omega | decide | (simp only [go_sem]; omega)) only [go_sem, ↓reduceIte]
      repeat (with_reducible refine And.intro (by first | assumption | omega | (simp; done) | (simp; omega)) ?_)
      refine toEnd hC ?_
      refine endX_seq ?_
      refine runX_ret ?_
      refine endX_q ?_
      obtain rfl := Option.some.inj h
      show RetW _ _ _ _ _
      simp only [RetW]
      (try simp -implicitDefEqProofs (maxSteps := 4000000) (disch := first | omega | decide | (simp only [go_sem]; omega)) only [go_sem, ↓reduceIte])
      (try simp (disch := omega) only [if_pos, Nat.sub_zero])
      exact leT_refl _
end Go.Proofs.YtdaojihnaajfeaaX

set_option linter.unusedVariables false
set_option linter.unusedSimpArgs false
namespace Go.Proofs.YtdaojihnaajfeaaX
open Go Go.RowKit Go.Proofs
set_option maxRecDepth 100000
attribute [local go_sem ↓] stepsK_build stepsK_bs appendS
attribute [local go_sem] String.reduceEq String.reduceNe reduceCtorEq Int.reduceEq Nat.reduceAdd Nat.reduceSub Nat.reduceMul Nat.reduceLT Nat.reduceLeDiff Nat.reduceEqDiff Nat.reduceBEq Int.reduceToNat Int.reduceLT Int.reduceLE Int.reduceGT Int.reduceGE Int.reduceAdd Int.reduceSub Int.reduceMul Int.reduceNeg Int.reduceBEq Int.reduceBNe Int.reducePow Int.reduceDiv Int.reduceMod Int.reduceTDiv Int.reduceTMod Int.reduceNatCast
/-! ### shadowboxref28.Encode -/
def F22_S1 (a0 : List UInt8) (a1 : Bool) (x1 : List UInt8) (x2 : Int) : St := ⟨[.imm (.string (bs a0)), .imm (.bool a1), .junk, .junk, .junk, .imm (.string (bs x1)), .imm (.int .i64 x2), .junk, .junk, .junk, .junk, .junk, .junk, .junk, .junk, .junk, .junk, .junk, .junk, .junk, .junk, .junk, .junk, .junk, .junk, .junk, .junk, .junk, .junk, .junk, .junk, .junk, .junk, .junk, .junk, .junk, .junk, .junk, .junk, .junk, .junk, .junk, .junk, .junk, .junk, .junk, .junk, .junk, .junk, .junk, .junk, .junk, .junk, .junk, .junk, .junk, .junk, .junk], []⟩
def F22_L1 : Nat → (List UInt8) → (Bool) → (List UInt8) → (Int) → Option (List UInt8)
 | 0, _, _, _, _ => none
 | m1 + 1, a0, a1, x1, x2 => iteB (decide (x2 < (a0.length : Int))) (grd (0 ≤ x2 ∧ x2 < (a0.length : Int)) ((F35 m1 ((a0.getD x2.toNat 0).toNat : Int)).bind fun v5 => iteB v5 (grd (0 ≤ x2 ∧ x2 ≤ (IntKind.wrap .i64 (x2 + (1 : Int))) ∧ (IntKind.wrap .i64 (x2 + (1 : Int))) ≤ (a0.length : Int)) (grd (x1.length + ((a0.take (IntKind.wrap .i64 (x2 + (1 : Int))).toNat).drop x2.toNat).length ≤ 9223372036854775807) (F22_L1 m1 a0 a1 (x1 ++ ((a0.take (IntKind.wrap .i64 (x2 + (1 : Int))).toNat).drop x2.toNat)) (IntKind.wrap .i64 (x2 + (1 : Int)))))) (iteB a1 (grd (0 ≤ x2 ∧ x2 < (a0.length : Int)) (iteB (((a0.getD x2.toNat 0).toNat : Int) == (47 : Int)) (grd (0 ≤ x2 ∧ x2 ≤ (IntKind.wrap .i64 (x2 + (1 : Int))) ∧ (IntKind.wrap .i64 (x2 + (1 : Int))) ≤ (a0.length : Int)) (grd (x1.length + ((a0.take (IntKind.wrap .i64 (x2 + (1 : Int))).toNat).drop x2.toNat).length ≤ 9223372036854775807) (F22_L1 m1 a0 a1 (x1 ++ ((a0.take (IntKind.wrap .i64 (x2 + (1 : Int))).toNat).drop x2.toNat)) (IntKind.wrap .i64 (x2 + (1 : Int)))))) (grd (x1.length + 1 ≤ 9223372036854775807) (grd (0 ≤ x2 ∧ x2 < (a0.length : Int)) (grd (0 ≤ x2 ∧ x2 < (a0.length : Int)) (grd (0 ≤ (IntKind.wrap .u8 (((a0.getD x2.toNat 0).toNat : Int).tdiv (16 : Int))) ∧ (IntKind.wrap .u8 (((a0.getD x2.toNat 0).toNat : Int).tdiv (16 : Int))) ≤ (IntKind.wrap .u8 ((IntKind.wrap .u8 (((a0.getD x2.toNat 0).toNat : Int).tdiv (16 : Int))) + (1 : Int))) ∧ (IntKind.wrap .u8 ((IntKind.wrap .u8 (((a0.getD x2.toNat 0).toNat : Int).tdiv (16 : Int))) + (1 : Int))) ≤ (16 : Int)) (grd ((x1.length + 1) + ((([48, 49, 50, 51, 52, 53, 54, 55, 56, 57, 65, 66, 67, 68, 69, 70] : List UInt8).take (IntKind.wrap .u8 ((IntKind.wrap .u8 (((a0.getD x2.toNat 0).toNat : Int).tdiv (16 : Int))) + (1 : Int))).toNat).drop (IntKind.wrap .u8 (((a0.getD x2.toNat 0).toNat : Int).tdiv (16 : Int))).toNat).length ≤ 9223372036854775807) (grd (0 ≤ x2 ∧ x2 < (a0.length : Int)) (grd (0 ≤ x2 ∧ x2 < (a0.length : Int)) (grd (0 ≤ (((a0.getD x2.toNat 0).toNat : Int).tmod (16 : Int)) ∧ (((a0.getD x2.toNat 0).toNat : Int).tmod (16 : Int)) ≤ (IntKind.wrap .u8 ((((a0.getD x2.toNat 0).toNat : Int).tmod (16 : Int)) + (1 : Int))) ∧ (IntKind.wrap .u8 ((((a0.getD x2.toNat 0).toNat : Int).tmod (16 : Int)) + (1 : Int))) ≤ (16 : Int)) (grd ((x1.length + ((([48, 49, 50, 51, 52, 53, 54, 55, 56, 57, 65, 66, 67, 68, 69, 70] : List UInt8).take (IntKind.wrap .u8 ((IntKind.wrap .u8 (((a0.getD x2.toNat 0).toNat : Int).tdiv (16 : Int))) + (1 : Int))).toNat).drop (IntKind.wrap .u8 (((a0.getD x2.toNat 0).toNat : Int).tdiv (16 : Int))).toNat).length + 1) + ((([48, 49, 50, 51, 52, 53, 54, 55, 56, 57, 65, 66, 67, 68, 69, 70] : List UInt8).take (IntKind.wrap .u8 ((((a0.getD x2.toNat 0).toNat : Int).tmod (16 : Int)) + (1 : Int))).toNat).drop (((a0.getD x2.toNat 0).toNat : Int).tmod (16 : Int)).toNat).length ≤ 9223372036854775807) (F22_L1 m1 a0 a1 (((x1 ++ ([37] : List UInt8)) ++ ((([48, 49, 50, 51, 52, 53, 54, 55, 56, 57, 65, 66, 67, 68, 69, 70] : List UInt8).take (IntKind.wrap .u8 ((IntKind.wrap .u8 (((a0.getD x2.toNat 0).toNat : Int).tdiv (16 : Int))) + (1 : Int))).toNat).drop (IntKind.wrap .u8 (((a0.getD x2.toNat 0).toNat : Int).tdiv (16 : Int))).toNat)) ++ ((([48, 49, 50, 51, 52, 53, 54, 55, 56, 57, 65, 66, 67, 68, 69, 70] : List UInt8).take (IntKind.wrap .u8 ((((a0.getD x2.toNat 0).toNat : Int).tmod (16 : Int)) + (1 : Int))).toNat).drop (((a0.getD x2.toNat 0).toNat : Int).tmod (16 : Int)).toNat)) (IntKind.wrap .i64 (x2 + (1 : Int))))))))))))))) (grd (x1.length + 1 ≤ 9223372036854775807) (grd (0 ≤ x2 ∧ x2 < (a0.length : Int)) (grd (0 ≤ x2 ∧ x2 < (a0.length : Int)) (grd (0 ≤ (IntKind.wrap .u8 (((a0.getD x2.toNat 0).toNat : Int).tdiv (16 : Int))) ∧ (IntKind.wrap .u8 (((a0.getD x2.toNat 0).toNat : Int).tdiv (16 : Int))) ≤ (IntKind.wrap .u8 ((IntKind.wrap .u8 (((a0.getD x2.toNat 0).toNat : Int).tdiv (16 : Int))) + (1 : Int))) ∧ (IntKind.wrap .u8 ((IntKind.wrap .u8 (((a0.getD x2.toNat 0).toNat : Int).tdiv (16 : Int))) + (1 : Int))) ≤ (16 : Int)) (grd ((x1.length + 1) + ((([48, 49, 50, 51, 52, 53, 54, 55, 56, 57, 65, 66, 67, 68, 69, 70] : List UInt8).take (IntKind.wrap .u8 ((IntKind.wrap .u8 (((a0.getD x2.toNat 0).toNat : Int).tdiv (16 : Int))) + (1 : Int))).toNat).drop (IntKind.wrap .u8 (((a0.getD x2.toNat 0).toNat : Int).tdiv (16 : Int))).toNat).length ≤ 9223372036854775807) (grd (0 ≤ x2 ∧ x2 < (a0.length : Int)) (grd (0 ≤ x2 ∧ x2 < (a0.length : Int)) (grd (0 ≤ (((a0.getD x2.toNat 0).toNat : Int).tmod (16 : Int)) ∧ (((a0.getD x2.toNat 0).toNat : Int).tmod (16 : Int)) ≤ (IntKind.wrap .u8 ((((a0.getD x2.toNat 0).toNat : Int).tmod (16 : Int)) + (1 : Int))) ∧ (IntKind.wrap .u8 ((((a0.getD x2.toNat 0).toNat : Int).tmod (16 : Int)) + (1 : Int))) ≤ (16 : Int)) (grd ((x1.length + ((([48, 49, 50, 51, 52, 53, 54, 55, 56, 57, 65, 66, 67, 68, 69, 70] : List UInt8).take (IntKind.wrap .u8 ((IntKind.wrap .u8 (((a0.getD x2.toNat 0).toNat : Int).tdiv (16 : Int))) + (1 : Int))).toNat).drop (IntKind.wrap .u8 (((a0.getD x2.toNat 0).toNat : Int).tdiv (16 : Int))).toNat).length + 1) + ((([48, 49, 50, 51, 52, 53, 54, 55, 56, 57, 65, 66, 67, 68, 69, 70] : List UInt8).take (IntKind.wrap .u8 ((((a0.getD x2.toNat 0).toNat : Int).tmod (16 : Int)) + (1 : Int))).toNat).drop (((a0.getD x2.toNat 0).toNat : Int).tmod (16 : Int)).toNat).length ≤ 9223372036854775807) (F22_L1 m1 a0 a1 (((x1 ++ ([37] : List UInt8)) ++ ((([48, 49, 50, 51, 52, 53, 54, 55, 56, 57, 65, 66, 67, 68, 69, 70] : List UInt8).take (IntKind.wrap .u8 ((IntKind.wrap .u8 (((a0.getD x2.toNat 0).toNat : Int).tdiv (16 : Int))) + (1 : Int))).toNat).drop (IntKind.wrap .u8 (((a0.getD x2.toNat 0).toNat : Int).tdiv (16 : Int))).toNat)) ++ ((([48, 49, 50, 51, 52, 53, 54, 55, 56, 57, 65, 66, 67, 68, 69, 70] : List UInt8).take (IntKind.wrap .u8 ((((a0.getD x2.toNat 0).toNat : Int).tmod (16 : Int)) + (1 : Int))).toNat).drop (((a0.getD x2.toNat 0).toNat : Int).tmod (16 : Int)).toNat)) (IntKind.wrap .i64 (x2 + (1 : Int)))))))))))))))) (some x1)
def F22 (n : Nat) (a0 : List UInt8) (a1 : Bool) : Option (List UInt8) := F22_L1 n a0 a1 [] (0 : Int)
set_option maxHeartbeats 4000000 in
theorem F22_ok : ∀ (n : Nat) (a0 : List UInt8) (a1 : Bool) (r : List UInt8), F22 n a0 a1 = some r → FnC Try.prog 22 [.imm (.string (bs a0)), .imm (.bool a1)] (.imm (.string (bs r)))
 | n, a0, a1, r, h => by
  unfold F22 at h
  refine FnC.goX mixed Try.func22 (by kernel_rfl) rfl ?_
  simp only [Try.ntmps22, List.length_cons, List.length_nil, List.replicate, List.cons_append, List.nil_append, Nat.reduceAdd, Nat.reduceSub]
  refine runX_seq ?_
  refine runX_regionC fun C hC => ?_
  try simp -implicitDefEqProofs (maxSteps := 4000000) (disch := first | omega | decide | (simp only [go_sem]; omega)) only [go_sem, ↓reduceIte]
  repeat (with_reducible refine And.intro (by first | assumption | omega | (simp; done) | (simp; omega)) ?_)
  refine toEnd hC ?_
  refine endX_seq ?_
  refine runX_seq ?_
  refine runX_regionC fun C hC => ?_
  try simp -implicitDefEqProofs (maxSteps := 4000000) (disch := first | omega | decide | (simp only [go_sem]; omega)) only [go_sem, ↓reduceIte]
  repeat (with_reducible refine And.intro (by first | assumption | omega | (simp; done) | (simp; omega)) ?_)
  refine toEnd hC ?_
  refine endX_seq ?_
  refine runX_seq ?_
  refine runX_seq ?_
  refine runX_regionC fun C hC => ?_
  try simp -implicitDefEqProofs (maxSteps := 4000000) (disch := first | omega | decide | (simp only [go_sem]; omega)) only [go_sem, ↓reduceIte]
  repeat (with_reducible refine And.intro (by first | assumption | omega | (simp; done) | (simp; omega)) ?_)
  refine toEnd hC ?_
  refine endX_seq ?_
  refine runX_block ?_
  refine runX_loop [0, 1, 5, 6] (fun m S => ∃ (x1 : List UInt8) (x2 : Int), S = F22_S1 a0 a1 x1 x2 ∧ m ≤ n ∧ F22_L1 m a0 a1 x1 x2 = some r) n ⟨F22_S1 a0 a1 [] (0 : Int), ?_, [], (0 : Int), rfl, Nat.le_refl _, h⟩ ?_
  ·simp only [F22_S1]
   (try simp -implicitDefEqProofs (maxSteps := 4000000) (disch := first | omega | decide | (simp only [go_sem]; omega)) only [go_sem, ↓reduceIte])
   first | exact leS_refl _ | (refine leS_le ?_ ?_ <;> first | exact leL_refl _ | exact leOs_refl _ | (simp only [List.append_assoc, List.cons_append, List.nil_append]; exact leOs_refl _) | (refine leOs.cons (by first | exact leO.same _ | (refine leO.box (leT_agg (by repeat (first | exact leL_refl _ | refine leL_cons (by first | exact leT_refl _ | exact leT_virt | exact leT_junk _ | exact leT_sl | exact leT_sln | exact leT_nil | (refine leT_agg (by repeat (first | exact leL_refl _ | refine leL_cons (by first | exact leT_refl _ | exact leT_sl | exact leT_sln | exact leT_nil) ?_)))) ?_))) rfl) | (refine leO.box (by first | exact leT_virt | exact leT_sl | exact leT_sln) rfl)) ?_; repeat (first | exact leOs_refl _ | refine leOs.cons (by first | exact leO.same _ | (refine leO.box (leT_agg (by repeat (first | exact leL_refl _ | refine leL_cons (by first | exact leT_refl _ | exact leT_virt | exact leT_junk _ | exact leT_sl | exact leT_sln | exact leT_nil | (refine leT_agg (by repeat (first | exact leL_refl _ | refine leL_cons (by first | exact leT_refl _ | exact leT_sl | exact leT_sln | exact leT_nil) ?_)))) ?_))) rfl) | (refine leO.box (by first | exact leT_virt | exact leT_sl | exact leT_sln) rfl)) ?_)) | (repeat (first | exact leL_refl _ | refine leL_cons (by first | exact leT_refl _ | exact leT_virt | exact leT_junk _ | exact leT_sl | exact leT_sln | exact leT_nil | (refine leT_agg (by repeat (first | exact leL_refl _ | refine leL_cons (by first | exact leT_refl _ | exact leT_sl | exact leT_sln | exact leT_nil) ?_)))) ?_)))
  ·clear h
   rintro m1 S ⟨x1, x2, rfl, hm1, h⟩
   cases m1 with
   | zero => first | cases (show (none : Option _) = some _ from h) | (rw [F22_L1] at h; cases h)
   | succ m1 =>
    rw [F22_L1] at h
    simp only [F22_S1]
    refine runX_seq ?_
    refine runX_seq ?_
    refine runX_regionC fun C hC => ?_
    try simp -implicitDefEqProofs (maxSteps := 4000000) (disch := first | omega | decide | (simp only [go_sem]; omega)) only [go_sem, ↓reduceIte]
    repeat (with_reducible refine And.intro (by first | assumption | omega | (simp; done) | (simp; omega)) ?_)
    refine toEnd hC ?_
    refine endX_seq ?_
    rcases iteB_some h with ⟨c3, h⟩ | ⟨c3, h⟩
    ·refine runX_condT rfl c3 ?_
     refine runX_skip ?_
     refine endX_seq ?_
     refine runX_seq ?_
     refine runX_block ?_
     refine runX_seq ?_
     refine runX_regionC fun C hC => ?_
     obtain ⟨g4, h⟩ := grd_some h
     obtain ⟨v5, h5, h⟩ := bnd_some h
     try simp -implicitDefEqProofs (maxSteps := 4000000) (disch := first | omega | decide | (simp only [go_sem]; omega)) only [go_sem, ↓reduceIte]
     repeat (with_reducible refine And.intro (by first | assumption | omega | (simp; done) | (simp; omega)) ?_)
     refine callG_X (by first | rfl | (simp only [go_sem]; done) | (simp only [closedL, closedT, Bool.and_true]; exact closedL_map _ (fun _ => by first | rfl | (simp only [go_sem]; done)) _)) (F35_ok m1 ((a0.getD x2.toNat 0).toNat : Int) _ h5) (by repeat (first | exact leL_refl _ | refine leL_cons (by first | exact leT_refl _ | exact leT_virt | exact leT_junk _ | exact leT_sl | exact leT_sln | exact leT_nil | (refine leT_agg (by repeat (first | exact leL_refl _ | refine leL_cons (by first | exact leT_refl _ | exact leT_sl | exact leT_sln | exact leT_nil) ?_)))) ?_)) ?_
     try simp -implicitDefEqProofs (maxSteps := 4000000) (disch := first | omega | decide | (simp only [go_sem]; omega)) only [go_sem, ↓reduceIte]
     repeat (with_reducible refine And.intro (by first | assumption | omega | (simp; done) | (simp; omega)) ?_)
     rcases iteB_some h with ⟨c6, h⟩ | ⟨c6, h⟩
     ·refine guardK_F c6 ?_
      try simp -implicitDefEqProofs (maxSteps := 4000000) (disch := first | omega | decide | (simp only [go_sem]; omega)) only [go_sem, ↓reduceIte]
      repeat (with_reducible refine And.intro (by first | assumption | omega | (simp; done) | (simp; omega)) ?_)
      refine toEnd hC ?_
      refine endX_seq ?_
      refine runX_condT rfl rfl ?_
      refine runX_regionC fun C hC => ?_
      obtain ⟨g7, h⟩ := grd_some h
      obtain ⟨g8, h⟩ := grd_some h
      try simp -implicitDefEqProofs (maxSteps := 4000000) (disch := first | omega | decide | (simp only [go_sem]; omega)) only [go_sem, ↓reduceIte]
      repeat (with_reducible refine And.intro (by first | assumption | omega | (simp; done) | (simp; omega)) ?_)
      refine toEnd hC ?_
      refine endX_blk ?_
      refine endX_seq ?_
      refine runX_regionC fun C hC => ?_
      try simp -implicitDefEqProofs (maxSteps := 4000000) (disch := first | omega | decide | (simp only [go_sem]; omega)) only [go_sem, ↓reduceIte]
      repeat (with_reducible refine And.intro (by first | assumption | omega | (simp; done) | (simp; omega)) ?_)
      refine toEnd hC ?_
      refine endX_q (roundQ_normal ⟨m1, by omega, F22_S1 a0 a1 (x1 ++ ((a0.take (IntKind.wrap .i64 (x2 + (1 : Int))).toNat).drop x2.toNat)) (IntKind.wrap .i64 (x2 + (1 : Int))), ?_, (x1 ++ ((a0.take (IntKind.wrap .i64 (x2 + (1 : Int))).toNat).drop x2.toNat)), (IntKind.wrap .i64 (x2 + (1 : Int))), rfl, by omega, h⟩)
      simp only [F22_S1]
      (try simp -implicitDefEqProofs (maxSteps := 4000000) (disch := first | omega | decide | (simp only [go_sem]; omega)) only [go_sem, ↓reduceIte])
      first | exact leS_refl _ | (refine leS_le ?_ ?_ <;> first | exact leL_refl _ | exact leOs_refl _ | (simp only [List.append_assoc, List.cons_append, List.nil_append]; exact leOs_refl _) | (refine leOs.cons (by first | exact leO.same _ | (refine leO.box (leT_agg (by repeat (first | exact leL_refl _ | refine leL_cons (by first | exact leT_refl _ | exact leT_virt | exact leT_junk _ | exact leT_sl | exact leT_sln | exact leT_nil | (refine leT_agg (by repeat (first | exact leL_refl _ | refine leL_cons (by first | exact leT_refl _ | exact leT_sl | exact leT_sln | exact leT_nil) ?_)))) ?_))) rfl) | (refine leO.box (by first | exact leT_virt | exact leT_sl | exact leT_sln) rfl)) ?_; repeat (first | exact leOs_refl _ | refine leOs.cons (by first | exact leO.same _ | (refine leO.box (leT_agg (by repeat (first | exact leL_refl _ | refine leL_cons (by first | exact leT_refl _ | exact leT_virt | exact leT_junk _ | exact leT_sl | exact leT_sln | exact leT_nil | (refine leT_agg (by repeat (first | exact leL_refl _ | refine leL_cons (by first | exact leT_refl _ | exact leT_sl | exact leT_sln | exact leT_nil) ?_)))) ?_))) rfl) | (refine leO.box (by first | exact leT_virt | exact leT_sl | exact leT_sln) rfl)) ?_)) | (repeat (first | exact leL_refl _ | refine leL_cons (by first | exact leT_refl _ | exact leT_virt | exact leT_junk _ | exact leT_sl | exact leT_sln | exact leT_nil | (refine leT_agg (by repeat (first | exact leL_refl _ | refine leL_cons (by first | exact leT_refl _ | exact leT_sl | exact leT_sln | exact leT_nil) ?_)))) ?_)))
     ·refine guardK_T c6 ?_
      try simp -implicitDefEqProofs (maxSteps := 4000000) (disch := first | omega | decide | (simp only [go_sem]; omega)) only [go_sem, ↓reduceIte]
      repeat (with_reducible refine And.intro (by first | assumption | omega | (simp; done) | (simp; omega)) ?_)
      rcases iteB_some h with ⟨c9, h⟩ | ⟨c9, h⟩
      ·refine guardK_T c9 ?_
       obtain ⟨g10, h⟩ := grd_some h
       try simp -implicitDefEqProofs (maxSteps := 4000000) (disch := first | omega | decide | (simp only [go_sem]; omega)) only [go_sem, ↓reduceIte]
       repeat (with_reducible refine And.intro (by first | assumption | omega | (simp; done) | (simp; omega)) ?_)
       refine toEnd hC ?_
       refine endX_seq ?_
       rcases iteB_some h with ⟨c11, h⟩ | ⟨c11, h⟩
       ·refine runX_condT rfl c11 ?_
        refine runX_regionC fun C hC => ?_
        obtain ⟨g12, h⟩ := grd_some h
        obtain ⟨g13, h⟩ := grd_some h
        try simp -implicitDefEqProofs (maxSteps := 4000000) (disch := first | omega | decide | (simp only [go_sem]; omega)) only [go_sem, ↓reduceIte]
        repeat (with_reducible refine And.intro (by first | assumption | omega | (simp; done) | (simp; omega)) ?_)
        refine toEnd hC ?_
        refine endX_blk ?_
        refine endX_seq ?_
        refine runX_regionC fun C hC => ?_
        try simp -implicitDefEqProofs (maxSteps := 4000000) (disch := first | omega | decide | (simp only [go_sem]; omega)) only [go_sem, ↓reduceIte]
        repeat (with_reducible refine And.intro (by first | assumption | omega | (simp; done) | (simp; omega)) ?_)
        refine toEnd hC ?_
        refine endX_q (roundQ_normal ⟨m1, by omega, F22_S1 a0 a1 (x1 ++ ((a0.take (IntKind.wrap .i64 (x2 + (1 : Int))).toNat).drop x2.toNat)) (IntKind.wrap .i64 (x2 + (1 : Int))), ?_, (x1 ++ ((a0.take (IntKind.wrap .i64 (x2 + (1 : Int))).toNat).drop x2.toNat)), (IntKind.wrap .i64 (x2 + (1 : Int))), rfl, by omega, h⟩)
        simp only [F22_S1]
        (try simp -implicitDefEqProofs (maxSteps := 4000000) (disch := first | omega | decide | (simp only [go_sem]; omega)) only [go_sem, ↓reduceIte])
        first | exact leS_refl _ | (refine leS_le ?_ ?_ <;> first | exact leL_refl _ | exact leOs_refl _ | (simp only [List.append_assoc, List.cons_append, List.nil_append]; exact leOs_refl _) | (refine leOs.cons (by first | exact leO.same _ | (refine leO.box (leT_agg (by repeat (first | exact leL_refl _ | refine leL_cons (by first | exact leT_refl _ | exact leT_virt | exact leT_junk _ | exact leT_sl | exact leT_sln | exact leT_nil | (refine leT_agg (by repeat (first | exact leL_refl _ | refine leL_cons (by first | exact leT_refl _ | exact leT_sl | exact leT_sln | exact leT_nil) ?_)))) ?_))) rfl) | (refine leO.box (by first | exact leT_virt | exact leT_sl | exact leT_sln) rfl)) ?_; repeat (first | exact leOs_refl _ | refine leOs.cons (by first | exact leO.same _ | (refine leO.box (leT_agg (by repeat (first | exact leL_refl _ | refine leL_cons (by first | exact leT_refl _ | exact leT_virt | exact leT_junk _ | exact leT_sl | exact leT_sln | exact leT_nil | (refine leT_agg (by repeat (first | exact leL_refl _ | refine leL_cons (by first | exact leT_refl _ | exact leT_sl | exact leT_sln | exact leT_nil) ?_)))) ?_))) rfl) | (refine leO.box (by first | exact leT_virt | exact leT_sl | exact leT_sln) rfl)) ?_)) | (repeat (first | exact leL_refl _ | refine leL_cons (by first | exact leT_refl _ | exact leT_virt | exact leT_junk _ | exact leT_sl | exact leT_sln | exact leT_nil | (refine leT_agg (by repeat (first | exact leL_refl _ | refine leL_cons (by first | exact leT_refl _ | exact leT_sl | exact leT_sln | exact leT_nil) ?_)))) ?_)))
       ·refine runX_condF rfl c11 ?_
        refine runX_drawC mixed (by kernel_rfl) fun C hC => ?_
        obtain ⟨g14, h⟩ := grd_some h
        obtain ⟨g15, h⟩ := grd_some h
        obtain ⟨g16, h⟩ := grd_some h
        obtain ⟨g17, h⟩ := grd_some h
        obtain ⟨g18, h⟩ := grd_some h
        obtain ⟨g19, h⟩ := grd_some h
        obtain ⟨g20, h⟩ := grd_some h
        obtain ⟨g21, h⟩ := grd_some h
        obtain ⟨g22, h⟩ := grd_some h
        try simp -implicitDefEqProofs (maxSteps := 4000000) (disch := first | omega | decide | (simp only [go_sem]; omega)) only [go_sem, ↓reduceIte]
        repeat (with_reducible refine And.intro (by first | assumption | omega | (simp; done) | (simp; omega)) ?_)
        refine toEnd hC ?_
        refine endX_blk ?_
        refine endX_seq ?_
        refine runX_regionC fun C hC => ?_
        try simp -implicitDefEqProofs (maxSteps := 4000000) (disch := first | omega | decide | (simp only [go_sem]; omega)) only [go_sem, ↓reduceIte]
        repeat (with_reducible refine And.intro (by first | assumption | omega | (simp; done) | (simp; omega)) ?_)
        refine toEnd hC ?_
        refine endX_q (roundQ_normal ⟨m1, by omega, F22_S1 a0 a1 (((x1 ++ ([37] : List UInt8)) ++ ((([48, 49, 50, 51, 52, 53, 54, 55, 56, 57, 65, 66, 67, 68, 69, 70] : List UInt8).take (IntKind.wrap .u8 ((IntKind.wrap .u8 (((a0.getD x2.toNat 0).toNat : Int).tdiv (16 : Int))) + (1 : Int))).toNat).drop (IntKind.wrap .u8 (((a0.getD x2.toNat 0).toNat : Int).tdiv (16 : Int))).toNat)) ++ ((([48, 49, 50, 51, 52, 53, 54, 55, 56, 57, 65, 66, 67, 68, 69, 70] : List UInt8).take (IntKind.wrap .u8 ((((a0.getD x2.toNat 0).toNat : Int).tmod (16 : Int)) + (1 : Int))).toNat).drop (((a0.getD x2.toNat 0).toNat : Int).tmod (16 : Int)).toNat)) (IntKind.wrap .i64 (x2 + (1 : Int))), ?_, (((x1 ++ ([37] : List UInt8)) ++ ((([48, 49, 50, 51, 52, 53, 54, 55, 56, 57, 65, 66, 67, 68, 69, 70] : List UInt8).take (IntKind.wrap .u8 ((IntKind.wrap .u8 (((a0.getD x2.toNat 0).toNat : Int).tdiv (16 : Int))) + (1 : Int))).toNat).drop (IntKind.wrap .u8 (((a0.getD x2.toNat 0).toNat : Int).tdiv (16 : Int))).toNat)) ++ ((([48, 49, 50, 51, 52, 53, 54, 55, 56, 57, 65, 66, 67, 68, 69, 70] : List UInt8).take (IntKind.wrap .u8 ((((a0.getD x2.toNat 0).toNat : Int).tmod (16 : Int)) + (1 : Int))).toNat).drop (((a0.getD x2.toNat 0).toNat : Int).tmod (16 : Int)).toNat)), (IntKind.wrap .i64 (x2 + (1 : Int))), rfl, by omega, h⟩)
        simp only [F22_S1]
        (try simp -implicitDefEqProofs (maxSteps := 4000000) (disch := first | omega | decide | (simp only [go_sem]; omega)) only [go_sem, ↓reduceIte])
        first | exact leS_refl _ | (refine leS_le ?_ ?_ <;> first | exact leL_refl _ | exact leOs_refl _ | (simp only [List.append_assoc, List.cons_append, List.nil_append]; exact leOs_refl _) | (refine leOs.cons (by first | exact leO.same _ | (refine leO.box (leT_agg (by repeat (first | exact leL_refl _ | refine leL_cons (by first | exact leT_refl _ | exact leT_virt | exact leT_junk _ | exact leT_sl | exact leT_sln | exact leT_nil | (refine leT_agg (by repeat (first | exact leL_refl _ | refine leL_cons (by first | exact leT_refl _ | exact leT_sl | exact leT_sln | exact leT_nil) ?_)))) ?_))) rfl) | (refine leO.box (by first | exact leT_virt | exact leT_sl | exact leT_sln) rfl)) ?_; repeat (first | exact leOs_refl _ | refine leOs.cons (by first | exact leO.same _ | (refine leO.box (leT_agg (by repeat (first | exact leL_refl _ | refine leL_cons (by first | exact leT_refl _ | exact leT_virt | exact leT_junk _ | exact leT_sl | exact leT_sln | exact leT_nil | (refine leT_agg (by repeat (first | exact leL_refl _ | refine leL_cons (by first | exact leT_refl _ | exact leT_sl | exact leT_sln | exact leT_nil) ?_)))) ?_))) rfl) | (refine leO.box (by first | exact leT_virt | exact leT_sl | exact leT_sln) rfl)) ?_)) | (repeat (first | exact leL_refl _ | refine leL_cons (by first | exact leT_refl _ | exact leT_virt | exact leT_junk _ | exact leT_sl | exact leT_sln | exact leT_nil | (refine leT_agg (by repeat (first | exact leL_refl _ | refine leL_cons (by first | exact leT_refl _ | exact leT_sl | exact leT_sln | exact leT_nil) ?_)))) ?_)))
      ·refine guardK_F c9 ?_
       try simp -implicitDefEqProofs (maxSteps := 4000000) (disch := first | omega | decide | (simp only [go_sem]; omega)) only [go_sem, ↓reduceIte]
       repeat (with_reducible refine And.intro (by first | assumption | omega | (simp; done) | (simp; omega)) ?_)
       refine toEnd hC ?_
       refine endX_seq ?_
       refine runX_condF rfl rfl ?_
       refine runX_drawC mixed (by kernel_rfl) fun C hC => ?_
       obtain ⟨g23, h⟩ := grd_some h
       obtain ⟨g24, h⟩ := grd_some h
       obtain ⟨g25, h⟩ := grd_some h
       obtain ⟨g26, h⟩ := grd_some h
       obtain ⟨g27, h⟩ := grd_some h
       obtain ⟨g28, h⟩ := grd_some h
       obtain ⟨g29, h⟩ := grd_some h
       obtain ⟨g30, h⟩ := grd_some h
       obtain ⟨g31, h⟩ := grd_some h
       try simp -implicitDefEqProofs (maxSteps := 4000000) (disch := first | omega | decide | (simp only [go_sem]; omega)) only [go_sem, ↓reduceIte]
       repeat (with_reducible refine And.intro (by first | assumption | omega | (simp; done) | (simp; omega)) ?_)
       refine toEnd hC ?_
       refine endX_blk ?_
       refine endX_seq ?_
       refine runX_regionC fun C hC => ?_
       try simp -implicitDefEqProofs (maxSteps := 4000000) (disch := first | omega | decide | (simp only [go_sem]; omega)) only [go_sem, ↓reduceIte]
       repeat (with_reducible refine And.intro (by first | assumption | omega | (simp; done) | (simp; omega)) ?_)
       refine toEnd hC ?_
       refine endX_q (roundQ_normal ⟨m1, by omega, F22_S1 a0 a1 (((x1 ++ ([37] : List UInt8)) ++ ((([48, 49, 50, 51, 52, 53, 54, 55, 56, 57, 65, 66, 67, 68, 69, 70] : List UInt8).take (IntKind.wrap .u8 ((IntKind.wrap .u8 (((a0.getD x2.toNat 0).toNat : Int).tdiv (16 : Int))) + (1 : Int))).toNat).drop (IntKind.wrap .u8 (((a0.getD x2.toNat 0).toNat : Int).tdiv (16 : Int))).toNat)) ++ ((([48, 49, 50, 51, 52, 53, 54, 55, 56, 57, 65, 66, 67, 68, 69, 70] : List UInt8).take (IntKind.wrap .u8 ((((a0.getD x2.toNat 0).toNat : Int).tmod (16 : Int)) + (1 : Int))).toNat).drop (((a0.getD x2.toNat 0).toNat : Int).tmod (16 : Int)).toNat)) (IntKind.wrap .i64 (x2 + (1 : Int))), ?_, (((x1 ++ ([37] : List UInt8)) ++ ((([48, 49, 50, 51, 52, 53, 54, 55, 56, 57, 65, 66, 67, 68, 69, 70] : List UInt8).take (IntKind.wrap .u8 ((IntKind.wrap .u8 (((a0.getD x2.toNat 0).toNat : Int).tdiv (16 : Int))) + (1 : Int))).toNat).drop (IntKind.wrap .u8 (((a0.getD x2.toNat 0).toNat : Int).tdiv (16 : Int))).toNat)) ++ ((([48, 49, 50, 51, 52, 53, 54, 55, 56, 57, 65, 66, 67, 68, 69, 70] : List UInt8).take (IntKind.wrap .u8 ((((a0.getD x2.toNat 0).toNat : Int).tmod (16 : Int)) + (1 : Int))).toNat).drop (((a0.getD x2.toNat 0).toNat : Int).tmod (16 : Int)).toNat)), (IntKind.wrap .i64 (x2 + (1 : Int))), rfl, by omega, h⟩)
       simp only [F22_S1]
       (try simp -implicitDefEqProofs (maxSteps := 4000000) (disch := first | omega | decide | (simp only [go_sem]; omega)) only [go_sem, ↓reduceIte])
       first | exact leS_refl _ | (refine leS_le ?_ ?_ <;> first | exact leL_refl _ | exact leOs_refl _ | (simp only [List.append_assoc, List.cons_append, List.nil_append]; exact leOs_refl _) | (refine leOs.cons (by first | exact leO.same _ | (refine leO.box (leT_agg (by repeat (first | exact leL_refl _ | refine leL_cons (by first | exact leT_refl _ | exact leT_virt | exact leT_junk _ | exact leT_sl | exact leT_sln | exact leT_nil | (refine leT_agg (by repeat (first | exact leL_refl _ | refine leL_cons (by first | exact leT_refl _ | exact leT_sl | exact leT_sln | exact leT_nil) ?_)))) ?_))) rfl) | (refine leO.box (by first | exact leT_virt | exact leT_sl | exact leT_sln) rfl)) ?_; repeat (first | exact leOs_refl _ | refine leOs.cons (by first | exact leO.same _ | (refine leO.box (leT_agg (by repeat (first | exact leL_refl _ | refine leL_cons (by first | exact leT_refl _ | exact leT_virt | exact leT_junk _ | exact leT_sl | exact leT_sln | exact leT_nil | (refine leT_agg (by repeat (first | exact leL_refl _ | refine leL_cons (by first | exact leT_refl _ | exact leT_sl | exact leT_sln | exact leT_nil) ?_)))) ?_))) rfl) | (refine leO.box (by first | exact leT_virt | exact leT_sl | exact leT_sln) rfl)) ?_)) | (repeat (first | exact leL_refl _ | refine leL_cons (by first | exact leT_refl _ | exact leT_virt | exact leT_junk _ | exact leT_sl | exact leT_sln | exact leT_nil | (refine leT_agg (by repeat (first | exact leL_refl _ | refine leL_cons (by first | exact leT_refl _ | exact leT_sl | exact leT_sln | exact leT_nil) ?_)))) ?_)))
    ·refine runX_condF rfl c3 ?_
     refine runX_exit ?_
     refine endX_seqE ?_
     refine endX_q (roundQ_exit ?_)
     refine endX_blkE ?_
     refine endX_seq ?_
     refine runX_seq ?_
     refine runX_regionC fun C hC => ?_
     try simp -implicitDefEqProofs (maxSteps := 4000000) (disch := first | omega | decide | (simp only [go_sem]; omega)) only [go_sem, ↓reduceIte]
     repeat (with_reducible refine And.intro (by first | assumption | omega | (simp; done) | (simp; omega)) ?_)
     refine toEnd hC ?_
     refine endX_seq ?_
     refine runX_ret ?_
     refine endX_q ?_
     obtain rfl := Option.some.inj h
     show RetW _ _ _ _ _
     simp only [RetW]
     (try simp -implicitDefEqProofs (maxSteps := 4000000) (disch := first | omega | decide | (simp only [go_sem]; omega)) only [go_sem, ↓reduceIte])
     (try simp (disch := omega) only [if_pos, Nat.sub_zero])
     exact leT_refl _
end Go.Proofs.YtdaojihnaajfeaaX

set_option linter.unusedVariables false
set_option linter.unusedSimpArgs false
namespace Go.Proofs.YtdaojihnaajfeaaX
open Go Go.RowKit Go.Proofs
set_option maxRecDepth 100000
attribute [local go_sem ↓] stepsK_build stepsK_bs appendS
attribute [local go_sem] String.reduceEq String.reduceNe reduceCtorEq Int.reduceEq Nat.reduceAdd Nat.reduceSub Nat.reduceMul Nat.reduceLT Nat.reduceLeDiff Nat.reduceEqDiff Nat.reduceBEq Int.reduceToNat Int.reduceLT Int.reduceLE Int.reduceGT Int.reduceGE Int.reduceAdd Int.reduceSub Int.reduceMul Int.reduceNeg Int.reduceBEq Int.reduceBNe Int.reducePow Int.reduceDiv Int.reduceMod Int.reduceTDiv Int.reduceTMod Int.reduceNatCast
/-! ### shadowboxref29.Canon -/
def F10_S2 (a0 : List ((List UInt8) × (List UInt8))) (x2 : List (List UInt8)) (x3 : List (List UInt8)) (x1 : Int) (v6 : List UInt8) (v8 : List UInt8) (x9 : Int) : St := ⟨[.sl 2 false (List.map eT38 a0), .junk, .junk, .rsl 0 1 0 x2.length, .rsl 1 1 0 x3.length, .imm (.int .i64 x1), .imm (.string (bs v6)), .imm (.string (bs v8)), .imm (.int .i64 x9), .junk, .junk, .junk, .junk, .junk, .junk, .junk, .junk, .junk, .junk, .junk, .junk, .junk, .junk, .junk, .junk, .junk, .junk, .junk, .junk, .junk, .junk, .junk, .junk, .junk, .junk, .junk, .junk, .junk, .junk, .junk, .junk, .junk, .junk, .junk, .junk, .junk, .junk, .junk, .junk, .junk, .junk, .junk, .junk, .junk, .junk, .junk, .junk, .junk, .junk, .junk, .junk, .junk, .junk, .junk, .junk, .junk, .junk, .junk, .junk, .junk, .junk, .junk, .junk, .junk, .junk, .junk, .junk, .junk, .junk, .junk, .junk, .junk, .junk, .junk, .junk, .junk, .junk, .junk, .junk, .junk, .junk, .junk, .junk, .junk, .junk, .junk, .junk, .junk, .junk, .junk, .junk, .junk, .junk, .junk, .junk, .junk], [some (.buf 9 1 (List.map eS x2) x2.length), some (.buf 9 1 (List.map eS x3) x3.length)]⟩
def F10_S4 (x3 : List (List UInt8)) (x65 : Int) (x69 : List UInt8) : St := ⟨[.junk, .junk, .junk, .junk, .rsl 1 1 0 x3.length, .junk, .junk, .junk, .junk, .imm (.string (bs x69)), .imm (.int .i64 x65), .junk, .junk, .junk, .junk, .junk, .junk, .junk, .junk, .junk, .junk, .junk, .junk, .junk, .junk, .junk, .junk, .junk, .junk, .junk, .junk, .junk, .junk, .junk, .junk, .junk, .junk, .junk, .junk, .junk, .junk, .junk, .junk, .junk, .junk, .junk, .junk, .junk, .junk, .junk, .junk, .junk, .junk, .junk, .junk, .junk, .junk, .junk, .junk, .junk, .junk, .junk, .junk, .junk, .junk, .junk, .junk, .junk, .junk, .junk, .junk, .junk, .junk, .junk, .junk, .junk, .junk, .junk, .junk, .junk, .junk, .junk, .junk, .junk, .junk, .junk, .junk, .junk, .junk, .junk, .junk, .junk, .junk, .junk, .junk, .junk, .junk, .junk, .junk, .junk, .junk, .junk, .junk, .junk, .junk, .junk], [none, some (.buf 9 1 (List.map eS x3) x3.length)]⟩
def F10_S3 (x3 : List (List UInt8)) (x64 : List UInt8) (x65 : Int) : St := ⟨[.junk, .junk, .junk, .junk, .rsl 1 1 0 x3.length, .junk, .junk, .junk, .junk, .imm (.string (bs x64)), .imm (.int .i64 x65), .junk, .junk, .junk, .junk, .junk, .junk, .junk, .junk, .junk, .junk, .junk, .junk, .junk, .junk, .junk, .junk, .junk, .junk, .junk, .junk, .junk, .junk, .junk, .junk, .junk, .junk, .junk, .junk, .junk, .junk, .junk, .junk, .junk, .junk, .junk, .junk, .junk, .junk, .junk, .junk, .junk, .junk, .junk, .junk, .junk, .junk, .junk, .junk, .junk, .junk, .junk, .junk, .junk, .junk, .junk, .junk, .junk, .junk, .junk, .junk, .junk, .junk, .junk, .junk, .junk, .junk, .junk, .junk, .junk, .junk, .junk, .junk, .junk, .junk, .junk, .junk, .junk, .junk, .junk, .junk, .junk, .junk, .junk, .junk, .junk, .junk, .junk, .junk, .junk, .junk, .junk, .junk, .junk, .junk, .junk], [none, some (.buf 9 1 (List.map eS x3) x3.length)]⟩
def F10_S1 (a0 : List ((List UInt8) × (List UInt8))) (x1 : Int) (x2 : List (List UInt8)) (x3 : List (List UInt8)) : St := ⟨[.sl 2 false (List.map eT38 a0), .junk, .junk, .rsl 0 1 0 x2.length, .rsl 1 1 0 x3.length, .imm (.int .i64 x1), .junk, .junk, .junk, .junk, .junk, .junk, .junk, .junk, .junk, .junk, .junk, .junk, .junk, .junk, .junk, .junk, .junk, .junk, .junk, .junk, .junk, .junk, .junk, .junk, .junk, .junk, .junk, .junk, .junk, .junk, .junk, .junk, .junk, .junk, .junk, .junk, .junk, .junk, .junk, .junk, .junk, .junk, .junk, .junk, .junk, .junk, .junk, .junk, .junk, .junk, .junk, .junk, .junk, .junk, .junk, .junk, .junk, .junk, .junk, .junk, .junk, .junk, .junk, .junk, .junk, .junk, .junk, .junk, .junk, .junk, .junk, .junk, .junk, .junk, .junk, .junk, .junk, .junk, .junk, .junk, .junk, .junk, .junk, .junk, .junk, .junk, .junk, .junk, .junk, .junk, .junk, .junk, .junk, .junk, .junk, .junk, .junk, .junk, .junk, .junk], [some (.buf 9 1 (List.map eS x2) x2.length), some (.buf 9 1 (List.map eS x3) x3.length)]⟩
mutual
def F10_L2 : Nat → (List ((List UInt8) × (List UInt8))) → (List (List UInt8)) → (List (List UInt8)) → (Int) → (List UInt8) → (List UInt8) → (Int) → Option (List UInt8)
 | 0, _, _, _, _, _, _, _ => none
 | m2 + 1, a0, x2, x3, x1, v6, v8, x9 => iteB (decide (x9 < (x3.length : Int))) (grd (0 ≤ x9 ∧ x9 < (x2.length : Int)) (grd (x9.toNat < x2.length) (iteB (Op.bytesLess (x2.getD x9.toNat default) v6) (F10_L2 m2 a0 x2 x3 x1 v6 v8 (IntKind.wrap .i64 (x9 + (1 : Int)))) (grd (0 ≤ x9 ∧ x9 < (x2.length : Int)) (grd (x9.toNat < x2.length) (iteB ((x2.getD x9.toNat default) == v6) (grd (0 ≤ x9 ∧ x9 < (x3.length : Int)) (grd (x9.toNat < x3.length) (grd (v6.length + 1 ≤ 9223372036854775807) (grd ((v6.length + 1) + v8.length ≤ 9223372036854775807) (iteB (Op.bytesLess (x3.getD x9.toNat default) ((v6 ++ ([61] : List UInt8)) ++ v8) || (x3.getD x9.toNat default) == ((v6 ++ ([61] : List UInt8)) ++ v8)) (F10_L2 m2 a0 x2 x3 x1 v6 v8 (IntKind.wrap .i64 (x9 + (1 : Int)))) (grd (0 ≤ x9 ∧ x9 ≤ (x2.length : Int)) (grd (((x2).take x9.toNat).length ≤ 549755813888) (grd ((((x2).take x9.toNat).length + 1) ≤ 549755813888) (grd (0 ≤ x9 ∧ x9 ≤ (x2.length : Int)) (grd (((((x2).take x9.toNat).length + 1) + (((x2).drop x9.toNat).take (x2.length - x9.toNat)).length) ≤ 549755813888) (grd (0 ≤ x9 ∧ x9 ≤ (x3.length : Int)) (grd (((x3).take x9.toNat).length ≤ 549755813888) (grd (v6.length + 1 ≤ 9223372036854775807) (grd ((v6.length + 1) + v8.length ≤ 9223372036854775807) (grd ((((x3).take x9.toNat).length + 1) ≤ 549755813888) (grd (0 ≤ x9 ∧ x9 ≤ (x3.length : Int)) (grd (((((x3).take x9.toNat).length + 1) + (((x3).drop x9.toNat).take (x3.length - x9.toNat)).length) ≤ 549755813888) (F10_L1 m2 a0 (IntKind.wrap .i64 (x1 + (1 : Int))) ((((x2).take x9.toNat) ++ [v6]) ++ (((x2).drop x9.toNat).take (x2.length - x9.toNat))) ((((x3).take x9.toNat) ++ ([((v6 ++ ([61] : List UInt8)) ++ v8)])) ++ (((x3).drop x9.toNat).take (x3.length - x9.toNat))))))))))))))))))))) (grd (0 ≤ x9 ∧ x9 ≤ (x2.length : Int)) (grd (((x2).take x9.toNat).length ≤ 549755813888) (grd ((((x2).take x9.toNat).length + 1) ≤ 549755813888) (grd (0 ≤ x9 ∧ x9 ≤ (x2.length : Int)) (grd (((((x2).take x9.toNat).length + 1) + (((x2).drop x9.toNat).take (x2.length - x9.toNat)).length) ≤ 549755813888) (grd (0 ≤ x9 ∧ x9 ≤ (x3.length : Int)) (grd (((x3).take x9.toNat).length ≤ 549755813888) (grd (v6.length + 1 ≤ 9223372036854775807) (grd ((v6.length + 1) + v8.length ≤ 9223372036854775807) (grd ((((x3).take x9.toNat).length + 1) ≤ 549755813888) (grd (0 ≤ x9 ∧ x9 ≤ (x3.length : Int)) (grd (((((x3).take x9.toNat).length + 1) + (((x3).drop x9.toNat).take (x3.length - x9.toNat)).length) ≤ 549755813888) (F10_L1 m2 a0 (IntKind.wrap .i64 (x1 + (1 : Int))) ((((x2).take x9.toNat) ++ [v6]) ++ (((x2).drop x9.toNat).take (x2.length - x9.toNat))) ((((x3).take x9.toNat) ++ ([((v6 ++ ([61] : List UInt8)) ++ v8)])) ++ (((x3).drop x9.toNat).take (x3.length - x9.toNat)))))))))))))))))))))) (grd (0 ≤ x9 ∧ x9 ≤ (x2.length : Int)) (grd (((x2).take x9.toNat).length ≤ 549755813888) (grd ((((x2).take x9.toNat).length + 1) ≤ 549755813888) (grd (0 ≤ x9 ∧ x9 ≤ (x2.length : Int)) (grd (((((x2).take x9.toNat).length + 1) + (((x2).drop x9.toNat).take (x2.length - x9.toNat)).length) ≤ 549755813888) (grd (0 ≤ x9 ∧ x9 ≤ (x3.length : Int)) (grd (((x3).take x9.toNat).length ≤ 549755813888) (grd (v6.length + 1 ≤ 9223372036854775807) (grd ((v6.length + 1) + v8.length ≤ 9223372036854775807) (grd ((((x3).take x9.toNat).length + 1) ≤ 549755813888) (grd (0 ≤ x9 ∧ x9 ≤ (x3.length : Int)) (grd (((((x3).take x9.toNat).length + 1) + (((x3).drop x9.toNat).take (x3.length - x9.toNat)).length) ≤ 549755813888) (F10_L1 m2 a0 (IntKind.wrap .i64 (x1 + (1 : Int))) ((((x2).take x9.toNat) ++ [v6]) ++ (((x2).drop x9.toNat).take (x2.length - x9.toNat))) ((((x3).take x9.toNat) ++ ([((v6 ++ ([61] : List UInt8)) ++ v8)])) ++ (((x3).drop x9.toNat).take (x3.length - x9.toNat))))))))))))))))
termination_by m _ _ _ _ _ _ _ => (m, 0)
decreasing_by all_goals first | exact Prod.Lex.left _ _ (Nat.lt_succ_self _) | exact Prod.Lex.right _ (by decide)
def F10_J4 (m3 : Nat) (x3 : List (List UInt8)) (x65 : Int) (x69 : List UInt8) : Option (List UInt8) := grd (0 ≤ x65 ∧ x65 < (x3.length : Int)) (grd (x65.toNat < x3.length) (grd (x69.length + (x3.getD x65.toNat default).length ≤ 9223372036854775807) (F10_L3 m3 x3 (x69 ++ (x3.getD x65.toNat default)) (IntKind.wrap .i64 (x65 + (1 : Int))))))
termination_by (m3, 1)
decreasing_by all_goals first | exact Prod.Lex.left _ _ (Nat.lt_succ_self _) | exact Prod.Lex.right _ (by decide)
def F10_L3 : Nat → (List (List UInt8)) → (List UInt8) → (Int) → Option (List UInt8)
 | 0, _, _, _ => none
 | m3 + 1, x3, x64, x65 => iteB (decide (x65 < (x3.length : Int))) (iteB (decide ((0 : Int) < x65)) (grd (x64.length + 1 ≤ 9223372036854775807) (F10_J4 m3 x3 x65 (x64 ++ ([38] : List UInt8)))) (F10_J4 m3 x3 x65 x64)) (some x64)
termination_by m _ _ _ => (m, 0)
decreasing_by all_goals first | exact Prod.Lex.left _ _ (Nat.lt_succ_self _) | exact Prod.Lex.right _ (by decide)
def F10_L1 : Nat → (List ((List UInt8) × (List UInt8))) → (Int) → (List (List UInt8)) → (List (List UInt8)) → Option (List UInt8)
 | 0, _, _, _, _ => none
 | m1 + 1, a0, x1, x2, x3 => iteB (decide (x1 < (a0.length : Int))) (grd (0 ≤ x1 ∧ x1 < (a0.length : Int)) ((F22 m1 ((a0.getD x1.toNat default).1) false).bind fun v6 => grd (0 ≤ x1 ∧ x1 < (a0.length : Int)) ((F22 m1 ((a0.getD x1.toNat default).2) false).bind fun v8 => F10_L2 m1 a0 x2 x3 x1 v6 v8 (0 : Int)))) (F10_L3 m1 x3 [] (0 : Int))
termination_by m _ _ _ _ => (m, 0)
decreasing_by all_goals first | exact Prod.Lex.left _ _ (Nat.lt_succ_self _) | exact Prod.Lex.right _ (by decide)
end
def F10 (n : Nat) (a0 : List ((List UInt8) × (List UInt8))) : Option (List UInt8) := F10_L1 n a0 (0 : Int) [] []
set_option maxHeartbeats 4000000 in
theorem F10_ok : ∀ (n : Nat) (a0 : List ((List UInt8) × (List UInt8))) (r : List UInt8), F10 n a0 = some r → FnC Try.prog 10 [.sl 2 false (List.map eT38 a0)] (.imm (.string (bs r)))
 | n, a0, r, h => by
  unfold F10 at h
  refine FnC.goX mixed Try.func10 (by kernel_rfl) rfl ?_
  simp only [Try.ntmps10, List.length_cons, List.length_nil, List.replicate, List.cons_append, List.nil_append, Nat.reduceAdd, Nat.reduceSub]
  refine runX_seq ?_
  refine runX_regionC fun C hC => ?_
  try simp -implicitDefEqProofs (maxSteps := 4000000) (disch := first | omega | decide | (simp only [go_sem]; omega)) only [go_sem, ↓reduceIte]
  repeat (with_reducible refine And.intro (by first | assumption | omega | (simp; done) | (simp; omega) | (simp only [Nat.sub_zero]; omega)) ?_)
  refine toEnd hC ?_
  refine endX_seq ?_
  refine runX_seq ?_
  refine runX_regionC fun C hC => ?_
  try simp -implicitDefEqProofs (maxSteps := 4000000) (disch := first | omega | decide | (simp only [go_sem]; omega)) only [go_sem, ↓reduceIte]
  repeat (with_reducible refine And.intro (by first | assumption | omega | (simp; done) | (simp; omega) | (simp only [Nat.sub_zero]; omega)) ?_)
  refine toEnd hC ?_
  refine endX_seq ?_
  refine runX_seq ?_
  refine runX_seq ?_
  refine runX_regionC fun C hC => ?_
  try simp -implicitDefEqProofs (maxSteps := 4000000) (disch := first | omega | decide | (simp only [go_sem]; omega)) only [go_sem, ↓reduceIte]
  repeat (with_reducible refine And.intro (by first | assumption | omega | (simp; done) | (simp; omega) | (simp only [Nat.sub_zero]; omega)) ?_)
  refine toEnd hC ?_
  refine endX_seq ?_
  refine runX_block ?_
  refine runX_loop [0, 3, 4, 5] (fun m S => ∃ (x1 : Int) (x2 : List (List UInt8)) (x3 : List (List UInt8)), S = F10_S1 a0 x1 x2 x3 ∧ m ≤ n ∧ F10_L1 m a0 x1 x2 x3 = some r) n ⟨F10_S1 a0 (0 : Int) [] [], ?_, (0 : Int), [], [], rfl, Nat.le_refl _, h⟩ ?_
  ·(try simp -implicitDefEqProofs (maxSteps := 4000000) (disch := first | omega | decide | (simp only [go_sem]; omega)) only [go_sem, ↓reduceIte])
   simp only [F10_S1]
   refine leS_trans (S' := ⟨[.sl 2 false (List.map eT38 a0), .junk, .junk, .rsl 0 1 0 0, .sl 0 true [], .imm (.int .i64 (0 : Int)), .junk, .junk, .junk, .junk, .junk, .junk, .junk, .junk, .junk, .junk, .junk, .junk, .junk, .junk, .junk, .junk, .junk, .junk, .junk, .junk, .junk, .junk, .junk, .junk, .junk, .junk, .junk, .junk, .junk, .junk, .junk, .junk, .junk, .junk, .junk, .junk, .junk, .junk, .junk, .junk, .junk, .junk, .junk, .junk, .junk, .junk, .junk, .junk, .junk, .junk, .junk, .junk, .junk, .junk, .junk, .junk, .junk, .junk, .junk, .junk, .junk, .junk, .junk, .junk, .junk, .junk, .junk, .junk, .junk, .junk, .junk, .junk, .junk, .junk, .junk, .junk, .junk, .junk, .junk, .junk, .junk, .junk, .junk, .junk, .junk, .junk, .junk, .junk, .junk, .junk, .junk, .junk, .junk, .junk, .junk, .junk, .junk, .junk, .junk, .junk], [some (.buf 9 1 [] 0)]⟩) ?_ ?_
   ·refine leS_trans (leS_pad _ _ 1) ?_
    simp only [List.replicate, List.cons_append, List.nil_append]
    refine leS_virt 0 9 1 rfl ?_ ?_ rfl
    ·repeat (first | exact leL_refl _ | refine leL_cons (by first | exact leT_refl _ | exact leT_virt | exact leT_junk _ | exact leT_sl | exact leT_sln | exact leT_nil | (refine leT_agg (by repeat (first | exact leL_refl _ | refine leL_cons (by first | exact leT_refl _ | exact leT_sl | exact leT_sln | exact leT_nil) ?_)))) ?_)
    ·repeat (first | exact leOs_refl _ | refine leOs.cons (by first | exact leO.same _ | (refine leO.box (leT_agg (by repeat (first | exact leL_refl _ | refine leL_cons (by first | exact leT_refl _ | exact leT_virt | exact leT_junk _ | exact leT_sl | exact leT_sln | exact leT_nil | (refine leT_agg (by repeat (first | exact leL_refl _ | refine leL_cons (by first | exact leT_refl _ | exact leT_sl | exact leT_sln | exact leT_nil) ?_)))) ?_))) rfl) | (refine leO.box (by first | exact leT_virt | exact leT_sl | exact leT_sln) rfl)) ?_)
   refine leS_trans (leS_pad _ _ 1) ?_
   simp only [List.replicate, List.cons_append, List.nil_append]
   refine leS_virt 1 9 1 rfl ?_ ?_ rfl
   ·repeat (first | exact leL_refl _ | refine leL_cons (by first | exact leT_refl _ | exact leT_virt | exact leT_junk _ | exact leT_sl | exact leT_sln | exact leT_nil | (refine leT_agg (by repeat (first | exact leL_refl _ | refine leL_cons (by first | exact leT_refl _ | exact leT_sl | exact leT_sln | exact leT_nil) ?_)))) ?_)
   ·repeat (first | exact leOs_refl _ | refine leOs.cons (by first | exact leO.same _ | (refine leO.box (leT_agg (by repeat (first | exact leL_refl _ | refine leL_cons (by first | exact leT_refl _ | exact leT_virt | exact leT_junk _ | exact leT_sl | exact leT_sln | exact leT_nil | (refine leT_agg (by repeat (first | exact leL_refl _ | refine leL_cons (by first | exact leT_refl _ | exact leT_sl | exact leT_sln | exact leT_nil) ?_)))) ?_))) rfl) | (refine leO.box (by first | exact leT_virt | exact leT_sl | exact leT_sln) rfl)) ?_)
  ·clear h
   rintro m1 S ⟨x1, x2, x3, rfl, hm1, h⟩
   cases m1 with
   | zero => first | cases (show (none : Option _) = some _ from h) | (rw [F10_L1] at h; cases h)
   | succ m1 =>
    rw [F10_L1] at h
    simp only [F10_S1]
    refine runX_seq ?_
    refine runX_seq ?_
    refine runX_regionC fun C hC => ?_
    try simp -implicitDefEqProofs (maxSteps := 4000000) (disch := first | omega | decide | (simp only [go_sem]; omega)) only [go_sem, ↓reduceIte]
    repeat (with_reducible refine And.intro (by first | assumption | omega | (simp; done) | (simp; omega) | (simp only [Nat.sub_zero]; omega)) ?_)
    refine toEnd hC ?_
    refine endX_seq ?_
    rcases iteB_some h with ⟨c4, h⟩ | ⟨c4, h⟩
    ·refine runX_condT rfl c4 ?_
     refine runX_skip ?_
     refine endX_seq ?_
     refine runX_seq ?_
     refine runX_block ?_
     refine runX_seq ?_
     refine runX_regionC fun C hC => ?_
     obtain ⟨g5, h⟩ := grd_some h
     obtain ⟨v6, h6, h⟩ := bnd_some h
     try simp -implicitDefEqProofs (maxSteps := 4000000) (disch := first | omega | decide | (simp only [go_sem]; omega)) only [go_sem, ↓reduceIte]
     repeat (with_reducible refine And.intro (by first | assumption | omega | (simp; done) | (simp; omega) | (simp only [Nat.sub_zero]; omega)) ?_)
     refine callG_X (by first | rfl | (simp only [go_sem]; done) | (simp only [closedL, closedT, Bool.and_true]; exact closedL_map _ (fun _ => by first | rfl | (simp only [go_sem]; done)) _)) (F22_ok m1 ((a0.getD x1.toNat default).1) false _ h6) (by repeat (first | exact leL_refl _ | refine leL_cons (by first | exact leT_refl _ | exact leT_virt | exact leT_junk _ | exact leT_sl | exact leT_sln | exact leT_nil | (refine leT_agg (by repeat (first | exact leL_refl _ | refine leL_cons (by first | exact leT_refl _ | exact leT_sl | exact leT_sln | exact leT_nil) ?_)))) ?_)) ?_
     try simp -implicitDefEqProofs (maxSteps := 4000000) (disch := first | omega | decide | (simp only [go_sem]; omega)) only [go_sem, ↓reduceIte]
     repeat (with_reducible refine And.intro (by first | assumption | omega | (simp; done) | (simp; omega) | (simp only [Nat.sub_zero]; omega)) ?_)
     refine toEnd hC ?_
     refine endX_seq ?_
     refine runX_seq ?_
     refine runX_regionC fun C hC => ?_
     obtain ⟨g7, h⟩ := grd_some h
     obtain ⟨v8, h8, h⟩ := bnd_some h
     try simp -implicitDefEqProofs (maxSteps := 4000000) (disch := first | omega | decide | (simp only [go_sem]; omega)) only [go_sem, ↓reduceIte]
     repeat (with_reducible refine And.intro (by first | assumption | omega | (simp; done) | (simp; omega) | (simp only [Nat.sub_zero]; omega)) ?_)
     refine callG_X (by first | rfl | (simp only [go_sem]; done) | (simp only [closedL, closedT, Bool.and_true]; exact closedL_map _ (fun _ => by first | rfl | (simp only [go_sem]; done)) _)) (F22_ok m1 ((a0.getD x1.toNat default).2) false _ h8) (by repeat (first | exact leL_refl _ | refine leL_cons (by first | exact leT_refl _ | exact leT_virt | exact leT_junk _ | exact leT_sl | exact leT_sln | exact leT_nil | (refine leT_agg (by repeat (first | exact leL_refl _ | refine leL_cons (by first | exact leT_refl _ | exact leT_sl | exact leT_sln | exact leT_nil) ?_)))) ?_)) ?_
     try simp -implicitDefEqProofs (maxSteps := 4000000) (disch := first | omega | decide | (simp only [go_sem]; omega)) only [go_sem, ↓reduceIte]
     repeat (with_reducible refine And.intro (by first | assumption | omega | (simp; done) | (simp; omega) | (simp only [Nat.sub_zero]; omega)) ?_)
     refine toEnd hC ?_
     refine endX_seq ?_
     refine runX_seq ?_
     refine runX_regionC fun C hC => ?_
     try simp -implicitDefEqProofs (maxSteps := 4000000) (disch := first | omega | decide | (simp only [go_sem]; omega)) only [go_sem, ↓reduceIte]
     repeat (with_reducible refine And.intro (by first | assumption | omega | (simp; done) | (simp; omega) | (simp only [Nat.sub_zero]; omega)) ?_)
     refine toEnd hC ?_
     refine endX_seq ?_
     refine runX_seq ?_
     refine runX_block ?_
     refine runX_loop [0, 3, 4, 5, 6, 7, 8] (fun m S => ∃ (x9 : Int), S = F10_S2 a0 x2 x3 x1 v6 v8 x9 ∧ m ≤ m1 ∧ F10_L2 m a0 x2 x3 x1 v6 v8 x9 = some r) m1 ⟨F10_S2 a0 x2 x3 x1 v6 v8 (0 : Int), ?_, (0 : Int), rfl, Nat.le_refl _, h⟩ ?_
     ·simp only [F10_S2]
      (try simp -implicitDefEqProofs (maxSteps := 4000000) (disch := first | omega | decide | (simp only [go_sem]; omega)) only [go_sem, ↓reduceIte])
      first | exact leS_refl _ | (refine leS_le ?_ ?_ <;> first | exact leL_refl _ | exact leOs_refl _ | (simp only [List.append_assoc, List.cons_append, List.nil_append]; exact leOs_refl _) | (refine leOs.cons (by first | exact leO.same _ | (refine leO.box (leT_agg (by repeat (first | exact leL_refl _ | refine leL_cons (by first | exact leT_refl _ | exact leT_virt | exact leT_junk _ | exact leT_sl | exact leT_sln | exact leT_nil | (refine leT_agg (by repeat (first | exact leL_refl _ | refine leL_cons (by first | exact leT_refl _ | exact leT_sl | exact leT_sln | exact leT_nil) ?_)))) ?_))) rfl) | (refine leO.box (by first | exact leT_virt | exact leT_sl | exact leT_sln) rfl)) ?_; repeat (first | exact leOs_refl _ | refine leOs.cons (by first | exact leO.same _ | (refine leO.box (leT_agg (by repeat (first | exact leL_refl _ | refine leL_cons (by first | exact leT_refl _ | exact leT_virt | exact leT_junk _ | exact leT_sl | exact leT_sln | exact leT_nil | (refine leT_agg (by repeat (first | exact leL_refl _ | refine leL_cons (by first | exact leT_refl _ | exact leT_sl | exact leT_sln | exact leT_nil) ?_)))) ?_))) rfl) | (refine leO.box (by first | exact leT_virt | exact leT_sl | exact leT_sln) rfl)) ?_)) | (repeat (first | exact leL_refl _ | refine leL_cons (by first | exact leT_refl _ | exact leT_virt | exact leT_junk _ | exact leT_sl | exact leT_sln | exact leT_nil | (refine leT_agg (by repeat (first | exact leL_refl _ | refine leL_cons (by first | exact leT_refl _ | exact leT_sl | exact leT_sln | exact leT_nil) ?_)))) ?_)))
     ·clear h
      rintro m2 S ⟨x9, rfl, hm2, h⟩
      cases m2 with
      | zero => first | cases (show (none : Option _) = some _ from h) | (rw [F10_L2] at h; cases h)
      | succ m2 =>
       rw [F10_L2] at h
       simp only [F10_S2]
       refine runX_seq ?_
       refine runX_seq ?_
       refine runX_regionC fun C hC => ?_
       try simp -implicitDefEqProofs (maxSteps := 4000000) (disch := first | omega | decide | (simp only [go_sem]; omega)) only [go_sem, ↓reduceIte]
       repeat (with_reducible refine And.intro (by first | assumption | omega | (simp; done) | (simp; omega) | (simp only [Nat.sub_zero]; omega)) ?_)
       rcases iteB_some h with ⟨c10, h⟩ | ⟨c10, h⟩
       ·refine guardK_T c10 ?_
        obtain ⟨g11, h⟩ := grd_some h
        obtain ⟨g12, h⟩ := grd_some h
        try simp -implicitDefEqProofs (maxSteps := 4000000) (disch := first | omega | decide | (simp only [go_sem]; omega)) only [go_sem, ↓reduceIte]
        repeat (with_reducible refine And.intro (by first | assumption | omega | (simp; done) | (simp; omega) | (simp only [Nat.sub_zero]; omega)) ?_)
        rcases iteB_some h with ⟨c13, h⟩ | ⟨c13, h⟩
        ·refine guardK_F c13 ?_
         try simp -implicitDefEqProofs (maxSteps := 4000000) (disch := first | omega | decide | (simp only [go_sem]; omega)) only [go_sem, ↓reduceIte]
         repeat (with_reducible refine And.intro (by first | assumption | omega | (simp; done) | (simp; omega) | (simp only [Nat.sub_zero]; omega)) ?_)
         refine toEnd hC ?_
         refine endX_seq ?_
         refine runX_condT rfl rfl ?_
         refine runX_skip ?_
         refine endX_seq ?_
         refine runX_block ?_
         refine runX_regionC fun C hC => ?_
         try simp -implicitDefEqProofs (maxSteps := 4000000) (disch := first | omega | decide | (simp only [go_sem]; omega)) only [go_sem, ↓reduceIte]
         repeat (with_reducible refine And.intro (by first | assumption | omega | (simp; done) | (simp; omega) | (simp only [Nat.sub_zero]; omega)) ?_)
         refine toEnd hC ?_
         refine endX_blk ?_
         refine endX_q (roundQ_normal ⟨m2, by omega, F10_S2 a0 x2 x3 x1 v6 v8 (IntKind.wrap .i64 (x9 + (1 : Int))), ?_, (IntKind.wrap .i64 (x9 + (1 : Int))), rfl, by omega, h⟩)
         simp only [F10_S2]
         (try simp -implicitDefEqProofs (maxSteps := 4000000) (disch := first | omega | decide | (simp only [go_sem]; omega)) only [go_sem, ↓reduceIte])
         first | exact leS_refl _ | (refine leS_le ?_ ?_ <;> first | exact leL_refl _ | exact leOs_refl _ | (simp only [List.append_assoc, List.cons_append, List.nil_append]; exact leOs_refl _) | (refine leOs.cons (by first | exact leO.same _ | (refine leO.box (leT_agg (by repeat (first | exact leL_refl _ | refine leL_cons (by first | exact leT_refl _ | exact leT_virt | exact leT_junk _ | exact leT_sl | exact leT_sln | exact leT_nil | (refine leT_agg (by repeat (first | exact leL_refl _ | refine leL_cons (by first | exact leT_refl _ | exact leT_sl | exact leT_sln | exact leT_nil) ?_)))) ?_))) rfl) | (refine leO.box (by first | exact leT_virt | exact leT_sl | exact leT_sln) rfl)) ?_; repeat (first | exact leOs_refl _ | refine leOs.cons (by first | exact leO.same _ | (refine leO.box (leT_agg (by repeat (first | exact leL_refl _ | refine leL_cons (by first | exact leT_refl _ | exact leT_virt | exact leT_junk _ | exact leT_sl | exact leT_sln | exact leT_nil | (refine leT_agg (by repeat (first | exact leL_refl _ | refine leL_cons (by first | exact leT_refl _ | exact leT_sl | exact leT_sln | exact leT_nil) ?_)))) ?_))) rfl) | (refine leO.box (by first | exact leT_virt | exact leT_sl | exact leT_sln) rfl)) ?_)) | (repeat (first | exact leL_refl _ | refine leL_cons (by first | exact leT_refl _ | exact leT_virt | exact leT_junk _ | exact leT_sl | exact leT_sln | exact leT_nil | (refine leT_agg (by repeat (first | exact leL_refl _ | refine leL_cons (by first | exact leT_refl _ | exact leT_sl | exact leT_sln | exact leT_nil) ?_)))) ?_)))
        ·refine guardK_T c13 ?_
         obtain ⟨g14, h⟩ := grd_some h
         obtain ⟨g15, h⟩ := grd_some h
         try simp -implicitDefEqProofs (maxSteps := 4000000) (disch := first | omega | decide | (simp only [go_sem]; omega)) only [go_sem, ↓reduceIte]
         repeat (with_reducible refine And.intro (by first | assumption | omega | (simp; done) | (simp; omega) | (simp only [Nat.sub_zero]; omega)) ?_)
         rcases iteB_some h with ⟨c16, h⟩ | ⟨c16, h⟩
         ·refine guardK_T c16 ?_
          obtain ⟨g17, h⟩ := grd_some h
          obtain ⟨g18, h⟩ := grd_some h
          obtain ⟨g19, h⟩ := grd_some h
          obtain ⟨g20, h⟩ := grd_some h
          try simp -implicitDefEqProofs (maxSteps := 4000000) (disch := first | omega | decide | (simp only [go_sem]; omega)) only [go_sem, ↓reduceIte]
          repeat (with_reducible refine And.intro (by first | assumption | omega | (simp; done) | (simp; omega) | (simp only [Nat.sub_zero]; omega)) ?_)
          refine toEnd hC ?_
          refine endX_seq ?_
          rcases iteB_some h with ⟨c21, h⟩ | ⟨c21, h⟩
          ·refine runX_condT rfl c21 ?_
           refine runX_skip ?_
           refine endX_seq ?_
           refine runX_block ?_
           refine runX_regionC fun C hC => ?_
           try simp -implicitDefEqProofs (maxSteps := 4000000) (disch := first | omega | decide | (simp only [go_sem]; omega)) only [go_sem, ↓reduceIte]
           repeat (with_reducible refine And.intro (by first | assumption | omega | (simp; done) | (simp; omega) | (simp only [Nat.sub_zero]; omega)) ?_)
           refine toEnd hC ?_
           refine endX_blk ?_
           refine endX_q (roundQ_normal ⟨m2, by omega, F10_S2 a0 x2 x3 x1 v6 v8 (IntKind.wrap .i64 (x9 + (1 : Int))), ?_, (IntKind.wrap .i64 (x9 + (1 : Int))), rfl, by omega, h⟩)
           simp only [F10_S2]
           (try simp -implicitDefEqProofs (maxSteps := 4000000) (disch := first | omega | decide | (simp only [go_sem]; omega)) only [go_sem, ↓reduceIte])
           first | exact leS_refl _ | (refine leS_le ?_ ?_ <;> first | exact leL_refl _ | exact leOs_refl _ | (simp only [List.append_assoc, List.cons_append, List.nil_append]; exact leOs_refl _) | (refine leOs.cons (by first | exact leO.same _ | (refine leO.box (leT_agg (by repeat (first | exact leL_refl _ | refine leL_cons (by first | exact leT_refl _ | exact leT_virt | exact leT_junk _ | exact leT_sl | exact leT_sln | exact leT_nil | (refine leT_agg (by repeat (first | exact leL_refl _ | refine leL_cons (by first | exact leT_refl _ | exact leT_sl | exact leT_sln | exact leT_nil) ?_)))) ?_))) rfl) | (refine leO.box (by first | exact leT_virt | exact leT_sl | exact leT_sln) rfl)) ?_; repeat (first | exact leOs_refl _ | refine leOs.cons (by first | exact leO.same _ | (refine leO.box (leT_agg (by repeat (first | exact leL_refl _ | refine leL_cons (by first | exact leT_refl _ | exact leT_virt | exact leT_junk _ | exact leT_sl | exact leT_sln | exact leT_nil | (refine leT_agg (by repeat (first | exact leL_refl _ | refine leL_cons (by first | exact leT_refl _ | exact leT_sl | exact leT_sln | exact leT_nil) ?_)))) ?_))) rfl) | (refine leO.box (by first | exact leT_virt | exact leT_sl | exact leT_sln) rfl)) ?_)) | (repeat (first | exact leL_refl _ | refine leL_cons (by first | exact leT_refl _ | exact leT_virt | exact leT_junk _ | exact leT_sl | exact leT_sln | exact leT_nil | (refine leT_agg (by repeat (first | exact leL_refl _ | refine leL_cons (by first | exact leT_refl _ | exact leT_sl | exact leT_sln | exact leT_nil) ?_)))) ?_)))
          ·refine runX_condF rfl c21 ?_
           refine runX_exit ?_
           refine endX_seqE ?_
           refine endX_q (roundQ_exit ?_)
           refine endX_blkE ?_
           refine endX_seq ?_
           refine runX_seq ?_
           refine runX_draw2C mixed [5, 6, 8, 9, 10] (by kernel_rfl) fun C hC => ?_
           try simp -implicitDefEqProofs (maxSteps := 4000000) (disch := first | omega | decide | (simp only [go_sem]; omega)) only [go_sem, ↓reduceIte]
           repeat (with_reducible refine And.intro (by first | assumption | omega | (simp; done) | (simp; omega) | (simp only [Nat.sub_zero]; omega)) ?_)
           refine buildX_val ?_
           obtain ⟨g22, h⟩ := grd_some h
           obtain ⟨g23, h⟩ := grd_some h
           try simp -implicitDefEqProofs (maxSteps := 4000000) (disch := first | omega | decide | (simp only [go_sem]; omega)) only [go_sem, ↓reduceIte]
           repeat (with_reducible refine And.intro (by first | assumption | omega | (simp; done) | (simp; omega) | (simp only [Nat.sub_zero]; omega)) ?_)
           refine drawK2_mv ?_
           try simp -implicitDefEqProofs (maxSteps := 4000000) (disch := first | omega | decide | (simp only [go_sem]; omega)) only [go_sem, ↓reduceIte]
           repeat (with_reducible refine And.intro (by first | assumption | omega | (simp; done) | (simp; omega) | (simp only [Nat.sub_zero]; omega)) ?_)
           refine buildX_val ?_
           obtain ⟨g24, h⟩ := grd_some h
           try simp -implicitDefEqProofs (maxSteps := 4000000) (disch := first | omega | decide | (simp only [go_sem]; omega)) only [go_sem, ↓reduceIte]
           repeat (with_reducible refine And.intro (by first | assumption | omega | (simp; done) | (simp; omega) | (simp only [Nat.sub_zero]; omega)) ?_)
           refine drawK2_sh ?_
           obtain ⟨g25, h⟩ := grd_some h
           obtain ⟨g26, h⟩ := grd_some h
           have e27 : (x9.toNat + (x2.length - x9.toNat) ≤ x2.length) = True := eq_true (by omega)
           try simp -implicitDefEqProofs (maxSteps := 4000000) (disch := first | omega | decide | (simp only [go_sem]; omega)) only [go_sem, ↓reduceIte, e27]
           repeat (with_reducible refine And.intro (by first | assumption | omega | (simp; done) | (simp; omega) | (simp only [Nat.sub_zero]; omega)) ?_)
           refine drawK2_sh ?_
           try simp -implicitDefEqProofs (maxSteps := 4000000) (disch := first | omega | decide | (simp only [go_sem]; omega)) only [go_sem, ↓reduceIte, e27]
           repeat (with_reducible refine And.intro (by first | assumption | omega | (simp; done) | (simp; omega) | (simp only [Nat.sub_zero]; omega)) ?_)
           refine toEnd hC ?_
           refine endX_seq ?_
           refine runX_draw2C mixed [5, 6, 7, 8, 9, 11, 12, 13] (by kernel_rfl) fun C hC => ?_
           try simp -implicitDefEqProofs (maxSteps := 4000000) (disch := first | omega | decide | (simp only [go_sem]; omega)) only [go_sem, ↓reduceIte]
           repeat (with_reducible refine And.intro (by first | assumption | omega | (simp; done) | (simp; omega) | (simp only [Nat.sub_zero]; omega)) ?_)
           refine buildX_val ?_
           obtain ⟨g28, h⟩ := grd_some h
           obtain ⟨g29, h⟩ := grd_some h
           try simp -implicitDefEqProofs (maxSteps := 4000000) (disch := first | omega | decide | (simp only [go_sem]; omega)) only [go_sem, ↓reduceIte]
           repeat (with_reducible refine And.intro (by first | assumption | omega | (simp; done) | (simp; omega) | (simp only [Nat.sub_zero]; omega)) ?_)
           refine drawK2_mv ?_
           obtain ⟨g30, h⟩ := grd_some h
           obtain ⟨g31, h⟩ := grd_some h
           try simp -implicitDefEqProofs (maxSteps := 4000000) (disch := first | omega | decide | (simp only [go_sem]; omega)) only [go_sem, ↓reduceIte]
           repeat (with_reducible refine And.intro (by first | assumption | omega | (simp; done) | (simp; omega) | (simp only [Nat.sub_zero]; omega)) ?_)
           refine buildX_val ?_
           obtain ⟨g32, h⟩ := grd_some h
           try simp -implicitDefEqProofs (maxSteps := 4000000) (disch := first | omega | decide | (simp only [go_sem]; omega)) only [go_sem, ↓reduceIte]
           repeat (with_reducible refine And.intro (by first | assumption | omega | (simp; done) | (simp; omega) | (simp only [Nat.sub_zero]; omega)) ?_)
           refine drawK2_sh ?_
           obtain ⟨g33, h⟩ := grd_some h
           obtain ⟨g34, h⟩ := grd_some h
           have e35 : (x9.toNat + (x3.length - x9.toNat) ≤ x3.length) = True := eq_true (by omega)
           try simp -implicitDefEqProofs (maxSteps := 4000000) (disch := first | omega | decide | (simp only [go_sem]; omega)) only [go_sem, ↓reduceIte, e35]
           repeat (with_reducible refine And.intro (by first | assumption | omega | (simp; done) | (simp; omega) | (simp only [Nat.sub_zero]; omega)) ?_)
           refine drawK2_sh ?_
           try simp -implicitDefEqProofs (maxSteps := 4000000) (disch := first | omega | decide | (simp only [go_sem]; omega)) only [go_sem, ↓reduceIte, e35]
           repeat (with_reducible refine And.intro (by first | assumption | omega | (simp; done) | (simp; omega) | (simp only [Nat.sub_zero]; omega)) ?_)
           refine toEnd hC ?_
           refine endX_blk ?_
           refine endX_seq ?_
           refine runX_regionC fun C hC => ?_
           try simp -implicitDefEqProofs (maxSteps := 4000000) (disch := first | omega | decide | (simp only [go_sem]; omega)) only [go_sem, ↓reduceIte]
           repeat (with_reducible refine And.intro (by first | assumption | omega | (simp; done) | (simp; omega) | (simp only [Nat.sub_zero]; omega)) ?_)
           refine toEnd hC ?_
           refine endX_q (roundQ_normal ⟨m2, by omega, F10_S1 a0 (IntKind.wrap .i64 (x1 + (1 : Int))) ((((x2).take x9.toNat) ++ [v6]) ++ (((x2).drop x9.toNat).take (x2.length - x9.toNat))) ((((x3).take x9.toNat) ++ ([((v6 ++ ([61] : List UInt8)) ++ v8)])) ++ (((x3).drop x9.toNat).take (x3.length - x9.toNat))), ?_, (IntKind.wrap .i64 (x1 + (1 : Int))), ((((x2).take x9.toNat) ++ [v6]) ++ (((x2).drop x9.toNat).take (x2.length - x9.toNat))), ((((x3).take x9.toNat) ++ ([((v6 ++ ([61] : List UInt8)) ++ v8)])) ++ (((x3).drop x9.toNat).take (x3.length - x9.toNat))), rfl, by omega, h⟩)
           (try simp -implicitDefEqProofs (maxSteps := 4000000) (disch := first | omega | decide | (simp only [go_sem]; omega)) only [go_sem, ↓reduceIte])
           refine leS_trans (leS_swT 0 13 (by simp) (by simp)) (show leS ⟨[.sl 2 false (List.map eT38 a0), .junk, .junk, .rsl 0 1 0 ((((x2).take x9.toNat).length + 1) + (((x2).drop x9.toNat).take (x2.length - x9.toNat)).length), .rsl 28 1 0 ((((x3).take x9.toNat).length + 1) + (((x3).drop x9.toNat).take (x3.length - x9.toNat)).length), .imm (.int .i64 (IntKind.wrap .i64 (x1 + (1 : Int)))), .junk, .junk, .junk, .junk, .junk, .junk, .junk, .junk, .junk, .junk, .junk, .junk, .junk, .junk, .junk, .junk, .junk, .junk, .junk, .junk, .junk, .junk, .junk, .junk, .junk, .junk, .junk, .junk, .junk, .junk, .junk, .junk, .junk, .junk, .junk, .junk, .junk, .junk, .junk, .junk, .junk, .junk, .junk, .junk, .junk, .junk, .junk, .junk, .junk, .junk, .junk, .junk, .junk, .junk, .junk, .junk, .junk, .junk, .junk, .junk, .junk, .junk, .junk, .junk, .junk, .junk, .junk, .junk, .junk, .junk, .junk, .junk, .junk, .junk, .junk, .junk, .junk, .junk, .junk, .junk, .junk, .junk, .junk, .junk, .junk, .junk, .junk, .junk, .junk, .junk, .junk, .junk, .junk, .junk, .junk, .junk, .junk, .junk, .junk, .junk], [some (.buf 9 1 (List.map eS ((((x2).take x9.toNat) ++ [v6]) ++ (((x2).drop x9.toNat).take (x2.length - x9.toNat)))) ((((x2).take x9.toNat).length + 1) + (((x2).drop x9.toNat).take (x2.length - x9.toNat)).length)), none, none, none, none, none, none, none, none, none, none, none, none, none, none, none, none, none, none, none, none, none, none, none, none, none, none, none, some (.buf 9 1 (List.map eS ((((x3).take x9.toNat) ++ ([((v6 ++ ([61] : List UInt8)) ++ v8)])) ++ (((x3).drop x9.toNat).take (x3.length - x9.toNat)))) ((((x3).take x9.toNat).length + 1) + (((x3).drop x9.toNat).take (x3.length - x9.toNat)).length))]⟩ _ from ?_)
           refine leS_trans (leS_swT 1 28 (by simp) (by simp)) (show leS ⟨[.sl 2 false (List.map eT38 a0), .junk, .junk, .rsl 0 1 0 ((((x2).take x9.toNat).length + 1) + (((x2).drop x9.toNat).take (x2.length - x9.toNat)).length), .rsl 1 1 0 ((((x3).take x9.toNat).length + 1) + (((x3).drop x9.toNat).take (x3.length - x9.toNat)).length), .imm (.int .i64 (IntKind.wrap .i64 (x1 + (1 : Int)))), .junk, .junk, .junk, .junk, .junk, .junk, .junk, .junk, .junk, .junk, .junk, .junk, .junk, .junk, .junk, .junk, .junk, .junk, .junk, .junk, .junk, .junk, .junk, .junk, .junk, .junk, .junk, .junk, .junk, .junk, .junk, .junk, .junk, .junk, .junk, .junk, .junk, .junk, .junk, .junk, .junk, .junk, .junk, .junk, .junk, .junk, .junk, .junk, .junk, .junk, .junk, .junk, .junk, .junk, .junk, .junk, .junk, .junk, .junk, .junk, .junk, .junk, .junk, .junk, .junk, .junk, .junk, .junk, .junk, .junk, .junk, .junk, .junk, .junk, .junk, .junk, .junk, .junk, .junk, .junk, .junk, .junk, .junk, .junk, .junk, .junk, .junk, .junk, .junk, .junk, .junk, .junk, .junk, .junk, .junk, .junk, .junk, .junk, .junk, .junk], [some (.buf 9 1 (List.map eS ((((x2).take x9.toNat) ++ [v6]) ++ (((x2).drop x9.toNat).take (x2.length - x9.toNat)))) ((((x2).take x9.toNat).length + 1) + (((x2).drop x9.toNat).take (x2.length - x9.toNat)).length)), some (.buf 9 1 (List.map eS ((((x3).take x9.toNat) ++ ([((v6 ++ ([61] : List UInt8)) ++ v8)])) ++ (((x3).drop x9.toNat).take (x3.length - x9.toNat)))) ((((x3).take x9.toNat).length + 1) + (((x3).drop x9.toNat).take (x3.length - x9.toNat)).length))]⟩ _ from ?_)
           simp only [F10_S1]
           (try simp -implicitDefEqProofs (maxSteps := 4000000) (disch := first | omega | decide | (simp only [go_sem]; omega)) only [go_sem, ↓reduceIte])
           first | exact leS_refl _ | (refine leS_le ?_ ?_ <;> first | exact leL_refl _ | exact leOs_refl _ | (simp only [List.append_assoc, List.cons_append, List.nil_append]; exact leOs_refl _) | (refine leOs.cons (by first | exact leO.same _ | (refine leO.box (leT_agg (by repeat (first | exact leL_refl _ | refine leL_cons (by first | exact leT_refl _ | exact leT_virt | exact leT_junk _ | exact leT_sl | exact leT_sln | exact leT_nil | (refine leT_agg (by repeat (first | exact leL_refl _ | refine leL_cons (by first | exact leT_refl _ | exact leT_sl | exact leT_sln | exact leT_nil) ?_)))) ?_))) rfl) | (refine leO.box (by first | exact leT_virt | exact leT_sl | exact leT_sln) rfl)) ?_; repeat (first | exact leOs_refl _ | refine leOs.cons (by first | exact leO.same _ | (refine leO.box (leT_agg (by repeat (first | exact leL_refl _ | refine leL_cons (by first | exact leT_refl _ | exact leT_virt | exact leT_junk _ | exact leT_sl | exact leT_sln | exact leT_nil | (refine leT_agg (by repeat (first | exact leL_refl _ | refine leL_cons (by first | exact leT_refl _ | exact leT_sl | exact leT_sln | exact leT_nil) ?_)))) ?_))) rfl) | (refine leO.box (by first | exact leT_virt | exact leT_sl | exact leT_sln) rfl)) ?_)) | (repeat (first | exact leL_refl _ | refine leL_cons (by first | exact leT_refl _ | exact leT_virt | exact leT_junk _ | exact leT_sl | exact leT_sln | exact leT_nil | (refine leT_agg (by repeat (first | exact leL_refl _ | refine leL_cons (by first | exact leT_refl _ | exact leT_sl | exact leT_sln | exact leT_nil) ?_)))) ?_)))
         ·refine guardK_F c16 ?_
          try simp -implicitDefEqProofs (maxSteps := 4000000) (disch := first | omega | decide | (simp only [go_sem]; omega)) only [go_sem, ↓reduceIte]
          repeat (with_reducible refine And.intro (by first | assumption | omega | (simp; done) | (simp; omega) | (simp only [Nat.sub_zero]; omega)) ?_)
          refine toEnd hC ?_
          refine endX_seq ?_
          refine runX_condF rfl rfl ?_
          refine runX_exit ?_
          refine endX_seqE ?_
          refine endX_q (roundQ_exit ?_)
          refine endX_blkE ?_
          refine endX_seq ?_
          refine runX_seq ?_
          refine runX_draw2C mixed [5, 6, 8, 9, 10] (by kernel_rfl) fun C hC => ?_
          try simp -implicitDefEqProofs (maxSteps := 4000000) (disch := first | omega | decide | (simp only [go_sem]; omega)) only [go_sem, ↓reduceIte]
          repeat (with_reducible refine And.intro (by first | assumption | omega | (simp; done) | (simp; omega) | (simp only [Nat.sub_zero]; omega)) ?_)
          refine buildX_val ?_
          obtain ⟨g36, h⟩ := grd_some h
          obtain ⟨g37, h⟩ := grd_some h
          try simp -implicitDefEqProofs (maxSteps := 4000000) (disch := first | omega | decide | (simp only [go_sem]; omega)) only [go_sem, ↓reduceIte]
          repeat (with_reducible refine And.intro (by first | assumption | omega | (simp; done) | (simp; omega) | (simp only [Nat.sub_zero]; omega)) ?_)
          refine drawK2_mv ?_
          try simp -implicitDefEqProofs (maxSteps := 4000000) (disch := first | omega | decide | (simp only [go_sem]; omega)) only [go_sem, ↓reduceIte]
          repeat (with_reducible refine And.intro (by first | assumption | omega | (simp; done) | (simp; omega) | (simp only [Nat.sub_zero]; omega)) ?_)
          refine buildX_val ?_
          obtain ⟨g38, h⟩ := grd_some h
          try simp -implicitDefEqProofs (maxSteps := 4000000) (disch := first | omega | decide | (simp only [go_sem]; omega)) only [go_sem, ↓reduceIte]
          repeat (with_reducible refine And.intro (by first | assumption | omega | (simp; done) | (simp; omega) | (simp only [Nat.sub_zero]; omega)) ?_)
          refine drawK2_sh ?_
          obtain ⟨g39, h⟩ := grd_some h
          obtain ⟨g40, h⟩ := grd_some h
          have e41 : (x9.toNat + (x2.length - x9.toNat) ≤ x2.length) = True := eq_true (by omega)
          try simp -implicitDefEqProofs (maxSteps := 4000000) (disch := first | omega | decide | (simp only [go_sem]; omega)) only [go_sem, ↓reduceIte, e41]
          repeat (with_reducible refine And.intro (by first | assumption | omega | (simp; done) | (simp; omega) | (simp only [Nat.sub_zero]; omega)) ?_)
          refine drawK2_sh ?_
          try simp -implicitDefEqProofs (maxSteps := 4000000) (disch := first | omega | decide | (simp only [go_sem]; omega)) only [go_sem, ↓reduceIte, e41]
          repeat (with_reducible refine And.intro (by first | assumption | omega | (simp; done) | (simp; omega) | (simp only [Nat.sub_zero]; omega)) ?_)
          refine toEnd hC ?_
          refine endX_seq ?_
          refine runX_draw2C mixed [5, 6, 7, 8, 9, 11, 12, 13] (by kernel_rfl) fun C hC => ?_
          try simp -implicitDefEqProofs (maxSteps := 4000000) (disch := first | omega | decide | (simp only [go_sem]; omega)) only [go_sem, ↓reduceIte]
          repeat (with_reducible refine And.intro (by first | assumption | omega | (simp; done) | (simp; omega) | (simp only [Nat.sub_zero]; omega)) ?_)
          refine buildX_val ?_
          obtain ⟨g42, h⟩ := grd_some h
          obtain ⟨g43, h⟩ := grd_some h
          try simp -implicitDefEqProofs (maxSteps := 4000000) (disch := first | omega | decide | (simp only [go_sem]; omega)) only [go_sem, ↓reduceIte]
          repeat (with_reducible refine And.intro (by first | assumption | omega | (simp; done) | (simp; omega) | (simp only [Nat.sub_zero]; omega)) ?_)
          refine drawK2_mv ?_
          obtain ⟨g44, h⟩ := grd_some h
          obtain ⟨g45, h⟩ := grd_some h
          try simp -implicitDefEqProofs (maxSteps := 4000000) (disch := first | omega | decide | (simp only [go_sem]; omega)) only [go_sem, ↓reduceIte]
          repeat (with_reducible refine And.intro (by first | assumption | omega | (simp; done) | (simp; omega) | (simp only [Nat.sub_zero]; omega)) ?_)
          refine buildX_val ?_
          obtain ⟨g46, h⟩ := grd_some h
          try simp -implicitDefEqProofs (maxSteps := 4000000) (disch := first | omega | decide | (simp only [go_sem]; omega)) only [go_sem, ↓reduceIte]
          repeat (with_reducible refine And.intro (by first | assumption | omega | (simp; done) | (simp; omega) | (simp only [Nat.sub_zero]; omega)) ?_)
          refine drawK2_sh ?_
          obtain ⟨g47, h⟩ := grd_some h
          obtain ⟨g48, h⟩ := grd_some h
          have e49 : (x9.toNat + (x3.length - x9.toNat) ≤ x3.length) = True := eq_true (by omega)
          try simp -implicitDefEqProofs (maxSteps := 4000000) (disch := first | omega | decide | (simp only [go_sem]; omega)) only [go_sem, ↓reduceIte, e49]
          repeat (with_reducible refine And.intro (by first | assumption | omega | (simp; done) | (simp; omega) | (simp only [Nat.sub_zero]; omega)) ?_)
          refine drawK2_sh ?_
          try simp -implicitDefEqProofs (maxSteps := 4000000) (disch := first | omega | decide | (simp only [go_sem]; omega)) only [go_sem, ↓reduceIte, e49]
          repeat (with_reducible refine And.intro (by first | assumption | omega | (simp; done) | (simp; omega) | (simp only [Nat.sub_zero]; omega)) ?_)
          refine toEnd hC ?_
          refine endX_blk ?_
          refine endX_seq ?_
          refine runX_regionC fun C hC => ?_
          try simp -implicitDefEqProofs (maxSteps := 4000000) (disch := first | omega | decide | (simp only [go_sem]; omega)) only [go_sem, ↓reduceIte]
          repeat (with_reducible refine And.intro (by first | assumption | omega | (simp; done) | (simp; omega) | (simp only [Nat.sub_zero]; omega)) ?_)
          refine toEnd hC ?_
          refine endX_q (roundQ_normal ⟨m2, by omega, F10_S1 a0 (IntKind.wrap .i64 (x1 + (1 : Int))) ((((x2).take x9.toNat) ++ [v6]) ++ (((x2).drop x9.toNat).take (x2.length - x9.toNat))) ((((x3).take x9.toNat) ++ ([((v6 ++ ([61] : List UInt8)) ++ v8)])) ++ (((x3).drop x9.toNat).take (x3.length - x9.toNat))), ?_, (IntKind.wrap .i64 (x1 + (1 : Int))), ((((x2).take x9.toNat) ++ [v6]) ++ (((x2).drop x9.toNat).take (x2.length - x9.toNat))), ((((x3).take x9.toNat) ++ ([((v6 ++ ([61] : List UInt8)) ++ v8)])) ++ (((x3).drop x9.toNat).take (x3.length - x9.toNat))), rfl, by omega, h⟩)
          (try simp -implicitDefEqProofs (maxSteps := 4000000) (disch := first | omega | decide | (simp only [go_sem]; omega)) only [go_sem, ↓reduceIte])
          refine leS_trans (leS_swT 0 13 (by simp) (by simp)) (show leS ⟨[.sl 2 false (List.map eT38 a0), .junk, .junk, .rsl 0 1 0 ((((x2).take x9.toNat).length + 1) + (((x2).drop x9.toNat).take (x2.length - x9.toNat)).length), .rsl 28 1 0 ((((x3).take x9.toNat).length + 1) + (((x3).drop x9.toNat).take (x3.length - x9.toNat)).length), .imm (.int .i64 (IntKind.wrap .i64 (x1 + (1 : Int)))), .junk, .junk, .junk, .junk, .junk, .junk, .junk, .junk, .junk, .junk, .junk, .junk, .junk, .junk, .junk, .junk, .junk, .junk, .junk, .junk, .junk, .junk, .junk, .junk, .junk, .junk, .junk, .junk, .junk, .junk, .junk, .junk, .junk, .junk, .junk, .junk, .junk, .junk, .junk, .junk, .junk, .junk, .junk, .junk, .junk, .junk, .junk, .junk, .junk, .junk, .junk, .junk, .junk, .junk, .junk, .junk, .junk, .junk, .junk, .junk, .junk, .junk, .junk, .junk, .junk, .junk, .junk, .junk, .junk, .junk, .junk, .junk, .junk, .junk, .junk, .junk, .junk, .junk, .junk, .junk, .junk, .junk, .junk, .junk, .junk, .junk, .junk, .junk, .junk, .junk, .junk, .junk, .junk, .junk, .junk, .junk, .junk, .junk, .junk, .junk], [some (.buf 9 1 (List.map eS ((((x2).take x9.toNat) ++ [v6]) ++ (((x2).drop x9.toNat).take (x2.length - x9.toNat)))) ((((x2).take x9.toNat).length + 1) + (((x2).drop x9.toNat).take (x2.length - x9.toNat)).length)), none, none, none, none, none, none, none, none, none, none, none, none, none, none, none, none, none, none, none, none, none, none, none, none, none, none, none, some (.buf 9 1 (List.map eS ((((x3).take x9.toNat) ++ ([((v6 ++ ([61] : List UInt8)) ++ v8)])) ++ (((x3).drop x9.toNat).take (x3.length - x9.toNat)))) ((((x3).take x9.toNat).length + 1) + (((x3).drop x9.toNat).take (x3.length - x9.toNat)).length))]⟩ _ from ?_)
          refine leS_trans (leS_swT 1 28 (by simp) (by simp)) (show leS ⟨[.sl 2 false (List.map eT38 a0), .junk, .junk, .rsl 0 1 0 ((((x2).take x9.toNat).length + 1) + (((x2).drop x9.toNat).take (x2.length - x9.toNat)).length), .rsl 1 1 0 ((((x3).take x9.toNat).length + 1) + (((x3).drop x9.toNat).take (x3.length - x9.toNat)).length), .imm (.int .i64 (IntKind.wrap .i64 (x1 + (1 : Int)))), .junk, .junk, .junk, .junk, .junk, .junk, .junk, .junk, .junk, .junk, .junk, .junk, .junk, .junk, .junk, .junk, .junk, .junk, .junk, .junk, .junk, .junk, .junk, .junk, .junk, .junk, .junk, .junk, .junk, .junk, .junk, .junk, .junk, .junk, .junk, .junk, .junk, .junk, .junk, .junk, .junk, .junk, .junk, .junk, .junk, .junk, .junk, .junk, .junk, .junk, .junk, .junk, .junk, .junk, .junk, .junk, .junk, .junk, .junk, .junk, .junk, .junk, .junk, .junk, .junk, .junk, .junk, .junk, .junk, .junk, .junk, .junk, .junk, .junk, .junk, .junk, .junk, .junk, .junk, .junk, .junk, .junk, .junk, .junk, .junk, .junk, .junk, .junk, .junk, .junk, .junk, .junk, .junk, .junk, .junk, .junk, .junk, .junk, .junk, .junk], [some (.buf 9 1 (List.map eS ((((x2).take x9.toNat) ++ [v6]) ++ (((x2).drop x9.toNat).take (x2.length - x9.toNat)))) ((((x2).take x9.toNat).length + 1) + (((x2).drop x9.toNat).take (x2.length - x9.toNat)).length)), some (.buf 9 1 (List.map eS ((((x3).take x9.toNat) ++ ([((v6 ++ ([61] : List UInt8)) ++ v8)])) ++ (((x3).drop x9.toNat).take (x3.length - x9.toNat)))) ((((x3).take x9.toNat).length + 1) + (((x3).drop x9.toNat).take (x3.length - x9.toNat)).length))]⟩ _ from ?_)
          simp only [F10_S1]
          (try simp -implicitDefEqProofs (maxSteps := 4000000) (disch := first | omega | decide | (simp only [go_sem]; omega)) only [go_sem, ↓reduceIte])
          first | exact leS_refl _ | (refine leS_le ?_ ?_ <;> first | exact leL_refl _ | exact leOs_refl _ | (simp only [List.append_assoc, List.cons_append, List.nil_append]; exact leOs_refl _) | (refine leOs.cons (by first | exact leO.same _ | (refine leO.box (leT_agg (by repeat (first | exact leL_refl _ | refine leL_cons (by first | exact leT_refl _ | exact leT_virt | exact leT_junk _ | exact leT_sl | exact leT_sln | exact leT_nil | (refine leT_agg (by repeat (first | exact leL_refl _ | refine leL_cons (by first | exact leT_refl _ | exact leT_sl | exact leT_sln | exact leT_nil) ?_)))) ?_))) rfl) | (refine leO.box (by first | exact leT_virt | exact leT_sl | exact leT_sln) rfl)) ?_; repeat (first | exact leOs_refl _ | refine leOs.cons (by first | exact leO.same _ | (refine leO.box (leT_agg (by repeat (first | exact leL_refl _ | refine leL_cons (by first | exact leT_refl _ | exact leT_virt | exact leT_junk _ | exact leT_sl | exact leT_sln | exact leT_nil | (refine leT_agg (by repeat (first | exact leL_refl _ | refine leL_cons (by first | exact leT_refl _ | exact leT_sl | exact leT_sln | exact leT_nil) ?_)))) ?_))) rfl) | (refine leO.box (by first | exact leT_virt | exact leT_sl | exact leT_sln) rfl)) ?_)) | (repeat (first | exact leL_refl _ | refine leL_cons (by first | exact leT_refl _ | exact leT_virt | exact leT_junk _ | exact leT_sl | exact leT_sln | exact leT_nil | (refine leT_agg (by repeat (first | exact leL_refl _ | refine leL_cons (by first | exact leT_refl _ | exact leT_sl | exact leT_sln | exact leT_nil) ?_)))) ?_)))
       ·refine guardK_F c10 ?_
        try simp -implicitDefEqProofs (maxSteps := 4000000) (disch := first | omega | decide | (simp only [go_sem]; omega)) only [go_sem, ↓reduceIte]
        repeat (with_reducible refine And.intro (by first | assumption | omega | (simp; done) | (simp; omega) | (simp only [Nat.sub_zero]; omega)) ?_)
        refine toEnd hC ?_
        refine endX_seq ?_
        refine runX_condF rfl rfl ?_
        refine runX_exit ?_
        refine endX_seqE ?_
        refine endX_q (roundQ_exit ?_)
        refine endX_blkE ?_
        refine endX_seq ?_
        refine runX_seq ?_
        refine runX_draw2C mixed [5, 6, 8, 9, 10] (by kernel_rfl) fun C hC => ?_
        try simp -implicitDefEqProofs (maxSteps := 4000000) (disch := first | omega | decide | (simp only [go_sem]; omega)) only [go_sem, ↓reduceIte]
        repeat (with_reducible refine And.intro (by first | assumption | omega | (simp; done) | (simp; omega) | (simp only [Nat.sub_zero]; omega)) ?_)
        refine buildX_val ?_
        obtain ⟨g50, h⟩ := grd_some h
        obtain ⟨g51, h⟩ := grd_some h
        try simp -implicitDefEqProofs (maxSteps := 4000000) (disch := first | omega | decide | (simp only [go_sem]; omega)) only [go_sem, ↓reduceIte]
        repeat (with_reducible refine And.intro (by first | assumption | omega | (simp; done) | (simp; omega) | (simp only [Nat.sub_zero]; omega)) ?_)
        refine drawK2_mv ?_
        try simp -implicitDefEqProofs (maxSteps := 4000000) (disch := first | omega | decide | (simp only [go_sem]; omega)) only [go_sem, ↓reduceIte]
        repeat (with_reducible refine And.intro (by first | assumption | omega | (simp; done) | (simp; omega) | (simp only [Nat.sub_zero]; omega)) ?_)
        refine buildX_val ?_
        obtain ⟨g52, h⟩ := grd_some h
        try simp -implicitDefEqProofs (maxSteps := 4000000) (disch := first | omega | decide | (simp only [go_sem]; omega)) only [go_sem, ↓reduceIte]
        repeat (with_reducible refine And.intro (by first | assumption | omega | (simp; done) | (simp; omega) | (simp only [Nat.sub_zero]; omega)) ?_)
        refine drawK2_sh ?_
        obtain ⟨g53, h⟩ := grd_some h
        obtain ⟨g54, h⟩ := grd_some h
        have e55 : (x9.toNat + (x2.length - x9.toNat) ≤ x2.length) = True := eq_true (by omega)
        try simp -implicitDefEqProofs (maxSteps := 4000000) (disch := first | omega | decide | (simp only [go_sem]; omega)) only [go_sem, ↓reduceIte, e55]
        repeat (with_reducible refine And.intro (by first | assumption | omega | (simp; done) | (simp; omega) | (simp only [Nat.sub_zero]; omega)) ?_)
        refine drawK2_sh ?_
        try simp -implicitDefEqProofs (maxSteps := 4000000) (disch := first | omega | decide | (simp only [go_sem]; omega)) only [go_sem, ↓reduceIte, e55]
        repeat (with_reducible refine And.intro (by first | assumption | omega | (simp; done) | (simp; omega) | (simp only [Nat.sub_zero]; omega)) ?_)
        refine toEnd hC ?_
        refine endX_seq ?_
        refine runX_draw2C mixed [5, 6, 7, 8, 9, 11, 12, 13] (by kernel_rfl) fun C hC => ?_
        try simp -implicitDefEqProofs (maxSteps := 4000000) (disch := first | omega | decide | (simp only [go_sem]; omega)) only [go_sem, ↓reduceIte]
        repeat (with_reducible refine And.intro (by first | assumption | omega | (simp; done) | (simp; omega) | (simp only [Nat.sub_zero]; omega)) ?_)
        refine buildX_val ?_
        obtain ⟨g56, h⟩ := grd_some h
        obtain ⟨g57, h⟩ := grd_some h
        try simp -implicitDefEqProofs (maxSteps := 4000000) (disch := first | omega | decide | (simp only [go_sem]; omega)) only [go_sem, ↓reduceIte]
        repeat (with_reducible refine And.intro (by first | assumption | omega | (simp; done) | (simp; omega) | (simp only [Nat.sub_zero]; omega)) ?_)
        refine drawK2_mv ?_
        obtain ⟨g58, h⟩ := grd_some h
        obtain ⟨g59, h⟩ := grd_some h
        try simp -implicitDefEqProofs (maxSteps := 4000000) (disch := first | omega | decide | (simp only [go_sem]; omega)) only [go_sem, ↓reduceIte]
        repeat (with_reducible refine And.intro (by first | assumption | omega | (simp; done) | (simp; omega) | (simp only [Nat.sub_zero]; omega)) ?_)
        refine buildX_val ?_
        obtain ⟨g60, h⟩ := grd_some h
        try simp -implicitDefEqProofs (maxSteps := 4000000) (disch := first | omega | decide | (simp only [go_sem]; omega)) only [go_sem, ↓reduceIte]
        repeat (with_reducible refine And.intro (by first | assumption | omega | (simp; done) | (simp; omega) | (simp only [Nat.sub_zero]; omega)) ?_)
        refine drawK2_sh ?_
        obtain ⟨g61, h⟩ := grd_some h
        obtain ⟨g62, h⟩ := grd_some h
        have e63 : (x9.toNat + (x3.length - x9.toNat) ≤ x3.length) = True := eq_true (by omega)
        try simp -implicitDefEqProofs (maxSteps := 4000000) (disch := first | omega | decide | (simp only [go_sem]; omega)) only [go_sem, ↓reduceIte, e63]
        repeat (with_reducible refine And.intro (by first | assumption | omega | (simp; done) | (simp; omega) | (simp only [Nat.sub_zero]; omega)) ?_)
        refine drawK2_sh ?_
        try simp -implicitDefEqProofs (maxSteps := 4000000) (disch := first | omega | decide | (simp only [go_sem]; omega)) only [go_sem, ↓reduceIte, e63]
        repeat (with_reducible refine And.intro (by first | assumption | omega | (simp; done) | (simp; omega) | (simp only [Nat.sub_zero]; omega)) ?_)
        refine toEnd hC ?_
        refine endX_blk ?_
        refine endX_seq ?_
        refine runX_regionC fun C hC => ?_
        try simp -implicitDefEqProofs (maxSteps := 4000000) (disch := first | omega | decide | (simp only [go_sem]; omega)) only [go_sem, ↓reduceIte]
        repeat (with_reducible refine And.intro (by first | assumption | omega | (simp; done) | (simp; omega) | (simp only [Nat.sub_zero]; omega)) ?_)
        refine toEnd hC ?_
        refine endX_q (roundQ_normal ⟨m2, by omega, F10_S1 a0 (IntKind.wrap .i64 (x1 + (1 : Int))) ((((x2).take x9.toNat) ++ [v6]) ++ (((x2).drop x9.toNat).take (x2.length - x9.toNat))) ((((x3).take x9.toNat) ++ ([((v6 ++ ([61] : List UInt8)) ++ v8)])) ++ (((x3).drop x9.toNat).take (x3.length - x9.toNat))), ?_, (IntKind.wrap .i64 (x1 + (1 : Int))), ((((x2).take x9.toNat) ++ [v6]) ++ (((x2).drop x9.toNat).take (x2.length - x9.toNat))), ((((x3).take x9.toNat) ++ ([((v6 ++ ([61] : List UInt8)) ++ v8)])) ++ (((x3).drop x9.toNat).take (x3.length - x9.toNat))), rfl, by omega, h⟩)
        (try simp -implicitDefEqProofs (maxSteps := 4000000) (disch := first | omega | decide | (simp only [go_sem]; omega)) only [go_sem, ↓reduceIte])
        refine leS_trans (leS_swT 0 13 (by simp) (by simp)) (show leS ⟨[.sl 2 false (List.map eT38 a0), .junk, .junk, .rsl 0 1 0 ((((x2).take x9.toNat).length + 1) + (((x2).drop x9.toNat).take (x2.length - x9.toNat)).length), .rsl 28 1 0 ((((x3).take x9.toNat).length + 1) + (((x3).drop x9.toNat).take (x3.length - x9.toNat)).length), .imm (.int .i64 (IntKind.wrap .i64 (x1 + (1 : Int)))), .junk, .junk, .junk, .junk, .junk, .junk, .junk, .junk, .junk, .junk, .junk, .junk, .junk, .junk, .junk, .junk, .junk, .junk, .junk, .junk, .junk, .junk, .junk, .junk, .junk, .junk, .junk, .junk, .junk, .junk, .junk, .junk, .junk, .junk, .junk, .junk, .junk, .junk, .junk, .junk, .junk, .junk, .junk, .junk, .junk, .junk, .junk, .junk, .junk, .junk, .junk, .junk, .junk, .junk, .junk, .junk, .junk, .junk, .junk, .junk, .junk, .junk, .junk, .junk, .junk, .junk, .junk, .junk, .junk, .junk, .junk, .junk, .junk, .junk, .junk, .junk, .junk, .junk, .junk, .junk, .junk, .junk, .junk, .junk, .junk, .junk, .junk, .junk, .junk, .junk, .junk, .junk, .junk, .junk, .junk, .junk, .junk, .junk, .junk, .junk], [some (.buf 9 1 (List.map eS ((((x2).take x9.toNat) ++ [v6]) ++ (((x2).drop x9.toNat).take (x2.length - x9.toNat)))) ((((x2).take x9.toNat).length + 1) + (((x2).drop x9.toNat).take (x2.length - x9.toNat)).length)), none, none, none, none, none, none, none, none, none, none, none, none, none, none, none, none, none, none, none, none, none, none, none, none, none, none, none, some (.buf 9 1 (List.map eS ((((x3).take x9.toNat) ++ ([((v6 ++ ([61] : List UInt8)) ++ v8)])) ++ (((x3).drop x9.toNat).take (x3.length - x9.toNat)))) ((((x3).take x9.toNat).length + 1) + (((x3).drop x9.toNat).take (x3.length - x9.toNat)).length))]⟩ _ from ?_)
        refine leS_trans (leS_swT 1 28 (by simp) (by simp)) (show leS ⟨[.sl 2 false (List.map eT38 a0), .junk, .junk, .rsl 0 1 0 ((((x2).take x9.toNat).length + 1) + (((x2).drop x9.toNat).take (x2.length - x9.toNat)).length), .rsl 1 1 0 ((((x3).take x9.toNat).length + 1) + (((x3).drop x9.toNat).take (x3.length - x9.toNat)).length), .imm (.int .i64 (IntKind.wrap .i64 (x1 + (1 : Int)))), .junk, .junk, .junk, .junk, .junk, .junk, .junk, .junk, .junk, .junk, .junk, .junk, .junk, .junk, .junk, .junk, .junk, .junk, .junk, .junk, .junk, .junk, .junk, .junk, .junk, .junk, .junk, .junk, .junk, .junk, .junk, .junk, .junk, .junk, .junk, .junk, .junk, .junk, .junk, .junk, .junk, .junk, .junk, .junk, .junk, .junk, .junk, .junk, .junk, .junk, .junk, .junk, .junk, .junk, .junk, .junk, .junk, .junk, .junk, .junk, .junk, .junk, .junk, .junk, .junk, .junk, .junk, .junk, .junk, .junk, .junk, .junk, .junk, .junk, .junk, .junk, .junk, .junk, .junk, .junk, .junk, .junk, .junk, .junk, .junk, .junk, .junk, .junk, .junk, .junk, .junk, .junk, .junk, .junk, .junk, .junk, .junk, .junk, .junk, .junk], [some (.buf 9 1 (List.map eS ((((x2).take x9.toNat) ++ [v6]) ++ (((x2).drop x9.toNat).take (x2.length - x9.toNat)))) ((((x2).take x9.toNat).length + 1) + (((x2).drop x9.toNat).take (x2.length - x9.toNat)).length)), some (.buf 9 1 (List.map eS ((((x3).take x9.toNat) ++ ([((v6 ++ ([61] : List UInt8)) ++ v8)])) ++ (((x3).drop x9.toNat).take (x3.length - x9.toNat)))) ((((x3).take x9.toNat).length + 1) + (((x3).drop x9.toNat).take (x3.length - x9.toNat)).length))]⟩ _ from ?_)
        simp only [F10_S1]
        (try simp -implicitDefEqProofs (maxSteps := 4000000) (disch := first | omega | decide | (simp only [go_sem]; omega)) only [go_sem, ↓reduceIte])
        first | exact leS_refl _ | (refine leS_le ?_ ?_ <;> first | exact leL_refl _ | exact leOs_refl _ | (simp only [List.append_assoc, List.cons_append, List.nil_append]; exact leOs_refl _) | (refine leOs.cons (by first | exact leO.same _ | (refine leO.box (leT_agg (by repeat (first | exact leL_refl _ | refine leL_cons (by first | exact leT_refl _ | exact leT_virt | exact leT_junk _ | exact leT_sl | exact leT_sln | exact leT_nil | (refine leT_agg (by repeat (first | exact leL_refl _ | refine leL_cons (by first | exact leT_refl _ | exact leT_sl | exact leT_sln | exact leT_nil) ?_)))) ?_))) rfl) | (refine leO.box (by first | exact leT_virt | exact leT_sl | exact leT_sln) rfl)) ?_; repeat (first | exact leOs_refl _ | refine leOs.cons (by first | exact leO.same _ | (refine leO.box (leT_agg (by repeat (first | exact leL_refl _ | refine leL_cons (by first | exact leT_refl _ | exact leT_virt | exact leT_junk _ | exact leT_sl | exact leT_sln | exact leT_nil | (refine leT_agg (by repeat (first | exact leL_refl _ | refine leL_cons (by first | exact leT_refl _ | exact leT_sl | exact leT_sln | exact leT_nil) ?_)))) ?_))) rfl) | (refine leO.box (by first | exact leT_virt | exact leT_sl | exact leT_sln) rfl)) ?_)) | (repeat (first | exact leL_refl _ | refine leL_cons (by first | exact leT_refl _ | exact leT_virt | exact leT_junk _ | exact leT_sl | exact leT_sln | exact leT_nil | (refine leT_agg (by repeat (first | exact leL_refl _ | refine leL_cons (by first | exact leT_refl _ | exact leT_sl | exact leT_sln | exact leT_nil) ?_)))) ?_)))
    ·refine runX_condF rfl c4 ?_
     refine runX_exit ?_
     refine endX_seqE ?_
     refine endX_q (roundQ_exit ?_)
     refine endX_blkE ?_
     refine endX_seq ?_
     refine runX_seq ?_
     refine runX_regionC fun C hC => ?_
     try simp -implicitDefEqProofs (maxSteps := 4000000) (disch := first | omega | decide | (simp only [go_sem]; omega)) only [go_sem, ↓reduceIte]
     repeat (with_reducible refine And.intro (by first | assumption | omega | (simp; done) | (simp; omega) | (simp only [Nat.sub_zero]; omega)) ?_)
     refine toEnd hC ?_
     refine endX_seq ?_
     refine runX_seq ?_
     refine runX_seq ?_
     refine runX_regionC fun C hC => ?_
     try simp -implicitDefEqProofs (maxSteps := 4000000) (disch := first | omega | decide | (simp only [go_sem]; omega)) only [go_sem, ↓reduceIte]
     repeat (with_reducible refine And.intro (by first | assumption | omega | (simp; done) | (simp; omega) | (simp only [Nat.sub_zero]; omega)) ?_)
     refine toEnd hC ?_
     refine endX_seq ?_
     refine runX_block ?_
     refine runX_loop [4, 9, 10] (fun m S => ∃ (x64 : List UInt8) (x65 : Int), S = F10_S3 x3 x64 x65 ∧ m ≤ m1 ∧ F10_L3 m x3 x64 x65 = some r) m1 ⟨F10_S3 x3 [] (0 : Int), ?_, [], (0 : Int), rfl, Nat.le_refl _, h⟩ ?_
     ·simp only [F10_S3]
      (try simp -implicitDefEqProofs (maxSteps := 4000000) (disch := first | omega | decide | (simp only [go_sem]; omega)) only [go_sem, ↓reduceIte])
      first | exact leS_refl _ | (refine leS_le ?_ ?_ <;> first | exact leL_refl _ | exact leOs_refl _ | (simp only [List.append_assoc, List.cons_append, List.nil_append]; exact leOs_refl _) | (refine leOs.cons (by first | exact leO.same _ | (refine leO.box (leT_agg (by repeat (first | exact leL_refl _ | refine leL_cons (by first | exact leT_refl _ | exact leT_virt | exact leT_junk _ | exact leT_sl | exact leT_sln | exact leT_nil | (refine leT_agg (by repeat (first | exact leL_refl _ | refine leL_cons (by first | exact leT_refl _ | exact leT_sl | exact leT_sln | exact leT_nil) ?_)))) ?_))) rfl) | (refine leO.box (by first | exact leT_virt | exact leT_sl | exact leT_sln) rfl)) ?_; repeat (first | exact leOs_refl _ | refine leOs.cons (by first | exact leO.same _ | (refine leO.box (leT_agg (by repeat (first | exact leL_refl _ | refine leL_cons (by first | exact leT_refl _ | exact leT_virt | exact leT_junk _ | exact leT_sl | exact leT_sln | exact leT_nil | (refine leT_agg (by repeat (first | exact leL_refl _ | refine leL_cons (by first | exact leT_refl _ | exact leT_sl | exact leT_sln | exact leT_nil) ?_)))) ?_))) rfl) | (refine leO.box (by first | exact leT_virt | exact leT_sl | exact leT_sln) rfl)) ?_)) | (repeat (first | exact leL_refl _ | refine leL_cons (by first | exact leT_refl _ | exact leT_virt | exact leT_junk _ | exact leT_sl | exact leT_sln | exact leT_nil | (refine leT_agg (by repeat (first | exact leL_refl _ | refine leL_cons (by first | exact leT_refl _ | exact leT_sl | exact leT_sln | exact leT_nil) ?_)))) ?_)))
     ·clear h
      rintro m3 S ⟨x64, x65, rfl, hm3, h⟩
      cases m3 with
      | zero => first | cases (show (none : Option _) = some _ from h) | (rw [F10_L3] at h; cases h)
      | succ m3 =>
       rw [F10_L3] at h
       simp only [F10_S3]
       refine runX_seq ?_
       refine runX_seq ?_
       refine runX_regionC fun C hC => ?_
       try simp -implicitDefEqProofs (maxSteps := 4000000) (disch := first | omega | decide | (simp only [go_sem]; omega)) only [go_sem, ↓reduceIte]
       repeat (with_reducible refine And.intro (by first | assumption | omega | (simp; done) | (simp; omega) | (simp only [Nat.sub_zero]; omega)) ?_)
       refine toEnd hC ?_
       refine endX_seq ?_
       rcases iteB_some h with ⟨c66, h⟩ | ⟨c66, h⟩
       ·refine runX_condT rfl c66 ?_
        refine runX_skip ?_
        refine endX_seq ?_
        refine runX_seq ?_
        refine runX_block ?_
        refine runX_meet [4, 9, 10] (fun S => ∃ (x69 : List UInt8), S = F10_S4 x3 x65 x69 ∧ F10_J4 m3 x3 x65 x69 = some r) ?_ ?_
        ·refine runX_seq ?_
         refine runX_regionC fun C hC => ?_
         try simp -implicitDefEqProofs (maxSteps := 4000000) (disch := first | omega | decide | (simp only [go_sem]; omega)) only [go_sem, ↓reduceIte]
         repeat (with_reducible refine And.intro (by first | assumption | omega | (simp; done) | (simp; omega) | (simp only [Nat.sub_zero]; omega)) ?_)
         refine toEnd hC ?_
         refine endX_seq ?_
         rcases iteB_some h with ⟨c67, h⟩ | ⟨c67, h⟩
         ·refine runX_condT rfl c67 ?_
          refine runX_regionC fun C hC => ?_
          obtain ⟨g68, h⟩ := grd_some h
          try simp -implicitDefEqProofs (maxSteps := 4000000) (disch := first | omega | decide | (simp only [go_sem]; omega)) only [go_sem, ↓reduceIte]
          repeat (with_reducible refine And.intro (by first | assumption | omega | (simp; done) | (simp; omega) | (simp only [Nat.sub_zero]; omega)) ?_)
          refine toEnd hC ?_
          refine endX_q (meetQ_normal ⟨F10_S4 x3 x65 (x64 ++ ([38] : List UInt8)), ?_, (x64 ++ ([38] : List UInt8)), rfl, h⟩)
          simp only [F10_S4]
          (try simp -implicitDefEqProofs (maxSteps := 4000000) (disch := first | omega | decide | (simp only [go_sem]; omega)) only [go_sem, ↓reduceIte])
          first | exact leS_refl _ | (refine leS_le ?_ ?_ <;> first | exact leL_refl _ | exact leOs_refl _ | (simp only [List.append_assoc, List.cons_append, List.nil_append]; exact leOs_refl _) | (refine leOs.cons (by first | exact leO.same _ | (refine leO.box (leT_agg (by repeat (first | exact leL_refl _ | refine leL_cons (by first | exact leT_refl _ | exact leT_virt | exact leT_junk _ | exact leT_sl | exact leT_sln | exact leT_nil | (refine leT_agg (by repeat (first | exact leL_refl _ | refine leL_cons (by first | exact leT_refl _ | exact leT_sl | exact leT_sln | exact leT_nil) ?_)))) ?_))) rfl) | (refine leO.box (by first | exact leT_virt | exact leT_sl | exact leT_sln) rfl)) ?_; repeat (first | exact leOs_refl _ | refine leOs.cons (by first | exact leO.same _ | (refine leO.box (leT_agg (by repeat (first | exact leL_refl _ | refine leL_cons (by first | exact leT_refl _ | exact leT_virt | exact leT_junk _ | exact leT_sl | exact leT_sln | exact leT_nil | (refine leT_agg (by repeat (first | exact leL_refl _ | refine leL_cons (by first | exact leT_refl _ | exact leT_sl | exact leT_sln | exact leT_nil) ?_)))) ?_))) rfl) | (refine leO.box (by first | exact leT_virt | exact leT_sl | exact leT_sln) rfl)) ?_)) | (repeat (first | exact leL_refl _ | refine leL_cons (by first | exact leT_refl _ | exact leT_virt | exact leT_junk _ | exact leT_sl | exact leT_sln | exact leT_nil | (refine leT_agg (by repeat (first | exact leL_refl _ | refine leL_cons (by first | exact leT_refl _ | exact leT_sl | exact leT_sln | exact leT_nil) ?_)))) ?_)))
         ·refine runX_condF rfl c67 ?_
          refine runX_skip ?_
          refine endX_q (meetQ_normal ⟨F10_S4 x3 x65 x64, ?_, x64, rfl, h⟩)
          simp only [F10_S4]
          (try simp -implicitDefEqProofs (maxSteps := 4000000) (disch := first | omega | decide | (simp only [go_sem]; omega)) only [go_sem, ↓reduceIte])
          first | exact leS_refl _ | (refine leS_le ?_ ?_ <;> first | exact leL_refl _ | exact leOs_refl _ | (simp only [List.append_assoc, List.cons_append, List.nil_append]; exact leOs_refl _) | (refine leOs.cons (by first | exact leO.same _ | (refine leO.box (leT_agg (by repeat (first | exact leL_refl _ | refine leL_cons (by first | exact leT_refl _ | exact leT_virt | exact leT_junk _ | exact leT_sl | exact leT_sln | exact leT_nil | (refine leT_agg (by repeat (first | exact leL_refl _ | refine leL_cons (by first | exact leT_refl _ | exact leT_sl | exact leT_sln | exact leT_nil) ?_)))) ?_))) rfl) | (refine leO.box (by first | exact leT_virt | exact leT_sl | exact leT_sln) rfl)) ?_; repeat (first | exact leOs_refl _ | refine leOs.cons (by first | exact leO.same _ | (refine leO.box (leT_agg (by repeat (first | exact leL_refl _ | refine leL_cons (by first | exact leT_refl _ | exact leT_virt | exact leT_junk _ | exact leT_sl | exact leT_sln | exact leT_nil | (refine leT_agg (by repeat (first | exact leL_refl _ | refine leL_cons (by first | exact leT_refl _ | exact leT_sl | exact leT_sln | exact leT_nil) ?_)))) ?_))) rfl) | (refine leO.box (by first | exact leT_virt | exact leT_sl | exact leT_sln) rfl)) ?_)) | (repeat (first | exact leL_refl _ | refine leL_cons (by first | exact leT_refl _ | exact leT_virt | exact leT_junk _ | exact leT_sl | exact leT_sln | exact leT_nil | (refine leT_agg (by repeat (first | exact leL_refl _ | refine leL_cons (by first | exact leT_refl _ | exact leT_sl | exact leT_sln | exact leT_nil) ?_)))) ?_)))
        ·clear h
         rintro S ⟨x69, rfl, h⟩
         rw [F10_J4] at h
         simp only [F10_S4]
         refine runX_regionC fun C hC => ?_
         obtain ⟨g70, h⟩ := grd_some h
         obtain ⟨g71, h⟩ := grd_some h
         obtain ⟨g72, h⟩ := grd_some h
         try simp -implicitDefEqProofs (maxSteps := 4000000) (disch := first | omega | decide | (simp only [go_sem]; omega)) only [go_sem, ↓reduceIte]
         repeat (with_reducible refine And.intro (by first | assumption | omega | (simp; done) | (simp; omega) | (simp only [Nat.sub_zero]; omega)) ?_)
         refine toEnd hC ?_
         refine endX_blk ?_
         refine endX_seq ?_
         refine runX_regionC fun C hC => ?_
         try simp -implicitDefEqProofs (maxSteps := 4000000) (disch := first | omega | decide | (simp only [go_sem]; omega)) only [go_sem, ↓reduceIte]
         repeat (with_reducible refine And.intro (by first | assumption | omega | (simp; done) | (simp; omega) | (simp only [Nat.sub_zero]; omega)) ?_)
         refine toEnd hC ?_
         refine endX_q (roundQ_normal ⟨m3, by omega, F10_S3 x3 (x69 ++ (x3.getD x65.toNat default)) (IntKind.wrap .i64 (x65 + (1 : Int))), ?_, (x69 ++ (x3.getD x65.toNat default)), (IntKind.wrap .i64 (x65 + (1 : Int))), rfl, by omega, h⟩)
         simp only [F10_S3]
         (try simp -implicitDefEqProofs (maxSteps := 4000000) (disch := first | omega | decide | (simp only [go_sem]; omega)) only [go_sem, ↓reduceIte])
         first | exact leS_refl _ | (refine leS_le ?_ ?_ <;> first | exact leL_refl _ | exact leOs_refl _ | (simp only [List.append_assoc, List.cons_append, List.nil_append]; exact leOs_refl _) | (refine leOs.cons (by first | exact leO.same _ | (refine leO.box (leT_agg (by repeat (first | exact leL_refl _ | refine leL_cons (by first | exact leT_refl _ | exact leT_virt | exact leT_junk _ | exact leT_sl | exact leT_sln | exact leT_nil | (refine leT_agg (by repeat (first | exact leL_refl _ | refine leL_cons (by first | exact leT_refl _ | exact leT_sl | exact leT_sln | exact leT_nil) ?_)))) ?_))) rfl) | (refine leO.box (by first | exact leT_virt | exact leT_sl | exact leT_sln) rfl)) ?_; repeat (first | exact leOs_refl _ | refine leOs.cons (by first | exact leO.same _ | (refine leO.box (leT_agg (by repeat (first | exact leL_refl _ | refine leL_cons (by first | exact leT_refl _ | exact leT_virt | exact leT_junk _ | exact leT_sl | exact leT_sln | exact leT_nil | (refine leT_agg (by repeat (first | exact leL_refl _ | refine leL_cons (by first | exact leT_refl _ | exact leT_sl | exact leT_sln | exact leT_nil) ?_)))) ?_))) rfl) | (refine leO.box (by first | exact leT_virt | exact leT_sl | exact leT_sln) rfl)) ?_)) | (repeat (first | exact leL_refl _ | refine leL_cons (by first | exact leT_refl _ | exact leT_virt | exact leT_junk _ | exact leT_sl | exact leT_sln | exact leT_nil | (refine leT_agg (by repeat (first | exact leL_refl _ | refine leL_cons (by first | exact leT_refl _ | exact leT_sl | exact leT_sln | exact leT_nil) ?_)))) ?_)))
       ·refine runX_condF rfl c66 ?_
        refine runX_exit ?_
        refine endX_seqE ?_
        refine endX_q (roundQ_exit ?_)
        refine endX_blkE ?_
        refine endX_seq ?_
        refine runX_seq ?_
        refine runX_regionC fun C hC => ?_
        try simp -implicitDefEqProofs (maxSteps := 4000000) (disch := first | omega | decide | (simp only [go_sem]; omega)) only [go_sem, ↓reduceIte]
        repeat (with_reducible refine And.intro (by first | assumption | omega | (simp; done) | (simp; omega) | (simp only [Nat.sub_zero]; omega)) ?_)
        refine toEnd hC ?_
        refine endX_seq ?_
        refine runX_ret ?_
        refine endX_q ?_
        obtain rfl := Option.some.inj h
        show RetW _ _ _ _ _
        simp only [RetW]
        (try simp -implicitDefEqProofs (maxSteps := 4000000) (disch := first | omega | decide | (simp only [go_sem]; omega)) only [go_sem, ↓reduceIte])
        (try simp (disch := omega) only [if_pos, Nat.sub_zero])
        exact leT_refl _
end Go.Proofs.YtdaojihnaajfeaaX

set_option linter.unusedVariables false
set_option linter.unusedSimpArgs false
namespace Go.Proofs.YtdaojihnaajfeaaX
open Go Go.RowKit Go.Proofs
set_option maxRecDepth 100000
attribute [local go_sem ↓] stepsK_build stepsK_bs appendS
attribute [local go_sem] String.reduceEq String.reduceNe reduceCtorEq Int.reduceEq Nat.reduceAdd Nat.reduceSub Nat.reduceMul Nat.reduceLT Nat.reduceLeDiff Nat.reduceEqDiff Nat.reduceBEq Int.reduceToNat Int.reduceLT Int.reduceLE Int.reduceGT Int.reduceGE Int.reduceAdd Int.reduceSub Int.reduceMul Int.reduceNeg Int.reduceBEq Int.reduceBNe Int.reducePow Int.reduceDiv Int.reduceMod Int.reduceTDiv Int.reduceTMod Int.reduceNatCast
/-! ### slices.Index[[]string,string] -/
def F36_S1 (a0 : List (List UInt8)) (a1 : List UInt8) (x1 : Int) : St := ⟨[.sl 1 false (List.map eS a0), .imm (.string (bs a1)), .junk, .junk, .junk, .junk, .junk, .imm (.int .i64 (a0.length : Int)), .imm (.int .i64 x1), .junk, .junk, .junk, .junk, .junk, .junk, .junk, .junk, .junk, .junk], []⟩
def F36_L1 : Nat → (List (List UInt8)) → (List UInt8) → (Int) → Option (Int)
 | 0, _, _, _ => none
 | m1 + 1, a0, a1, x1 => iteB (decide (x1 < (a0.length : Int))) (grd (0 ≤ x1 ∧ x1 < (a0.length : Int)) (iteB (a1 == (a0.getD x1.toNat default)) (some x1) (F36_L1 m1 a0 a1 (IntKind.wrap .i64 (x1 + (1 : Int)))))) (some (-1 : Int))
def F36 (n : Nat) (a0 : List (List UInt8)) (a1 : List UInt8) : Option (Int) := F36_L1 n a0 a1 (0 : Int)
set_option maxHeartbeats 4000000 in
theorem F36_ok : ∀ (n : Nat) (a0 : List (List UInt8)) (a1 : List UInt8) (r : Int), F36 n a0 a1 = some r → FnC Try.prog 36 [.sl 1 false (List.map eS a0), .imm (.string (bs a1))] (.imm (.int .i64 r))
 | n, a0, a1, r, h => by
  unfold F36 at h
  refine FnC.goX mixed Try.func36 (by kernel_rfl) rfl ?_
  simp only [Try.ntmps36, List.length_cons, List.length_nil, List.replicate, List.cons_append, List.nil_append, Nat.reduceAdd, Nat.reduceSub]
  refine runX_seq ?_
  refine runX_regionC fun C hC => ?_
  try simp -implicitDefEqProofs (maxSteps := 4000000) (disch := first | omega | decide | (simp only [go_sem]; omega)) only [go_sem, ↓reduceIte]
  repeat (with_reducible refine And.intro (by first | assumption | omega | (simp; done) | (simp; omega)) ?_)
  refine toEnd hC ?_
  refine endX_seq ?_
  refine runX_seq ?_
  refine runX_seq ?_
  refine runX_regionC fun C hC => ?_
  try simp -implicitDefEqProofs (maxSteps := 4000000) (disch := first | omega | decide | (simp only [go_sem]; omega)) only [go_sem, ↓reduceIte]
  repeat (with_reducible refine And.intro (by first | assumption | omega | (simp; done) | (simp; omega)) ?_)
  refine toEnd hC ?_
  refine endX_seq ?_
  refine runX_block ?_
  refine runX_loop [0, 1, 7, 8] (fun m S => ∃ (x1 : Int), S = F36_S1 a0 a1 x1 ∧ m ≤ n ∧ F36_L1 m a0 a1 x1 = some r) n ⟨F36_S1 a0 a1 (0 : Int), ?_, (0 : Int), rfl, Nat.le_refl _, h⟩ ?_
  ·simp only [F36_S1]
   (try simp -implicitDefEqProofs (maxSteps := 4000000) (disch := first | omega | decide | (simp only [go_sem]; omega)) only [go_sem, ↓reduceIte])
   first | exact leS_refl _ | (refine leS_le ?_ ?_ <;> first | exact leL_refl _ | exact leOs_refl _ | (simp only [List.append_assoc, List.cons_append, List.nil_append]; exact leOs_refl _) | (refine leOs.cons (by first | exact leO.same _ | (refine leO.box (leT_agg (by repeat (first | exact leL_refl _ | refine leL_cons (by first | exact leT_refl _ | exact leT_virt | exact leT_junk _ | exact leT_sl | exact leT_sln | exact leT_nil | (refine leT_agg (by repeat (first | exact leL_refl _ | refine leL_cons (by first | exact leT_refl _ | exact leT_sl | exact leT_sln | exact leT_nil) ?_)))) ?_))) rfl) | (refine leO.box (by first | exact leT_virt | exact leT_sl | exact leT_sln) rfl)) ?_; repeat (first | exact leOs_refl _ | refine leOs.cons (by first | exact leO.same _ | (refine leO.box (leT_agg (by repeat (first | exact leL_refl _ | refine leL_cons (by first | exact leT_refl _ | exact leT_virt | exact leT_junk _ | exact leT_sl | exact leT_sln | exact leT_nil | (refine leT_agg (by repeat (first | exact leL_refl _ | refine leL_cons (by first | exact leT_refl _ | exact leT_sl | exact leT_sln | exact leT_nil) ?_)))) ?_))) rfl) | (refine leO.box (by first | exact leT_virt | exact leT_sl | exact leT_sln) rfl)) ?_)) | (repeat (first | exact leL_refl _ | refine leL_cons (by first | exact leT_refl _ | exact leT_virt | exact leT_junk _ | exact leT_sl | exact leT_sln | exact leT_nil | (refine leT_agg (by repeat (first | exact leL_refl _ | refine leL_cons (by first | exact leT_refl _ | exact leT_sl | exact leT_sln | exact leT_nil) ?_)))) ?_)))
  ·clear h
   rintro m1 S ⟨x1, rfl, hm1, h⟩
   cases m1 with
   | zero => first | cases (show (none : Option _) = some _ from h) | (rw [F36_L1] at h; cases h)
   | succ m1 =>
    rw [F36_L1] at h
    simp only [F36_S1]
    refine runX_seq ?_
    refine runX_regionC fun C hC => ?_
    try simp -implicitDefEqProofs (maxSteps := 4000000) (disch := first | omega | decide | (simp only [go_sem]; omega)) only [go_sem, ↓reduceIte]
    repeat (with_reducible refine And.intro (by first | assumption | omega | (simp; done) | (simp; omega)) ?_)
    refine toEnd hC ?_
    refine endX_seq ?_
    refine runX_seq ?_
    rcases iteB_some h with ⟨c2, h⟩ | ⟨c2, h⟩
    ·refine runX_condT rfl c2 ?_
     refine runX_skip ?_
     refine endX_seq ?_
     refine runX_seq ?_
     refine runX_block ?_
     refine runX_seq ?_
     refine runX_regionC fun C hC => ?_
     try simp -implicitDefEqProofs (maxSteps := 4000000) (disch := first | omega | decide | (simp only [go_sem]; omega)) only [go_sem, ↓reduceIte]
     repeat (with_reducible refine And.intro (by first | assumption | omega | (simp; done) | (simp; omega)) ?_)
     refine toEnd hC ?_
     refine endX_seq ?_
     refine runX_seq ?_
     refine runX_regionC fun C hC => ?_
     obtain ⟨g3, h⟩ := grd_some h
     try simp -implicitDefEqProofs (maxSteps := 4000000) (disch := first | omega | decide | (simp only [go_sem]; omega)) only [go_sem, ↓reduceIte]
     repeat (with_reducible refine And.intro (by first | assumption | omega | (simp; done) | (simp; omega)) ?_)
     refine toEnd hC ?_
     refine endX_seq ?_
     rcases iteB_some h with ⟨c4, h⟩ | ⟨c4, h⟩
     ·refine runX_condT rfl c4 ?_
      refine runX_seq ?_
      refine runX_regionC fun C hC => ?_
      try simp -implicitDefEqProofs (maxSteps := 4000000) (disch := first | omega | decide | (simp only [go_sem]; omega)) only [go_sem, ↓reduceIte]
      repeat (with_reducible refine And.intro (by first | assumption | omega | (simp; done) | (simp; omega)) ?_)
      refine toEnd hC ?_
      refine endX_seq ?_
      refine runX_ret ?_
      refine endX_blkR ?_
      refine endX_seqR ?_
      refine endX_q (roundQ_ret ?_)
      refine endX_blkR ?_
      refine endX_seqR ?_
      refine endX_q ?_
      obtain rfl := Option.some.inj h
      show RetW _ _ _ _ _
      simp only [RetW]
      (try simp -implicitDefEqProofs (maxSteps := 4000000) (disch := first | omega | decide | (simp only [go_sem]; omega)) only [go_sem, ↓reduceIte])
      (try simp (disch := omega) only [if_pos, Nat.sub_zero])
      exact leT_refl _
     ·refine runX_condF rfl c4 ?_
      refine runX_skip ?_
      refine endX_blk ?_
      refine endX_seq ?_
      refine runX_regionC fun C hC => ?_
      try simp -implicitDefEqProofs (maxSteps := 4000000) (disch := first | omega | decide | (simp only [go_sem]; omega)) only [go_sem, ↓reduceIte]
      repeat (with_reducible refine And.intro (by first | assumption | omega | (simp; done) | (simp; omega)) ?_)
      refine toEnd hC ?_
      refine endX_q (roundQ_normal ⟨m1, by omega, F36_S1 a0 a1 (IntKind.wrap .i64 (x1 + (1 : Int))), ?_, (IntKind.wrap .i64 (x1 + (1 : Int))), rfl, by omega, h⟩)
      simp only [F36_S1]
      (try simp -implicitDefEqProofs (maxSteps := 4000000) (disch := first | omega | decide | (simp only [go_sem]; omega)) only [go_sem, ↓reduceIte])
      first | exact leS_refl _ | (refine leS_le ?_ ?_ <;> first | exact leL_refl _ | exact leOs_refl _ | (simp only [List.append_assoc, List.cons_append, List.nil_append]; exact leOs_refl _) | (refine leOs.cons (by first | exact leO.same _ | (refine leO.box (leT_agg (by repeat (first | exact leL_refl _ | refine leL_cons (by first | exact leT_refl _ | exact leT_virt | exact leT_junk _ | exact leT_sl | exact leT_sln | exact leT_nil | (refine leT_agg (by repeat (first | exact leL_refl _ | refine leL_cons (by first | exact leT_refl _ | exact leT_sl | exact leT_sln | exact leT_nil) ?_)))) ?_))) rfl) | (refine leO.box (by first | exact leT_virt | exact leT_sl | exact leT_sln) rfl)) ?_; repeat (first | exact leOs_refl _ | refine leOs.cons (by first | exact leO.same _ | (refine leO.box (leT_agg (by repeat (first | exact leL_refl _ | refine leL_cons (by first | exact leT_refl _ | exact leT_virt | exact leT_junk _ | exact leT_sl | exact leT_sln | exact leT_nil | (refine leT_agg (by repeat (first | exact leL_refl _ | refine leL_cons (by first | exact leT_refl _ | exact leT_sl | exact leT_sln | exact leT_nil) ?_)))) ?_))) rfl) | (refine leO.box (by first | exact leT_virt | exact leT_sl | exact leT_sln) rfl)) ?_)) | (repeat (first | exact leL_refl _ | refine leL_cons (by first | exact leT_refl _ | exact leT_virt | exact leT_junk _ | exact leT_sl | exact leT_sln | exact leT_nil | (refine leT_agg (by repeat (first | exact leL_refl _ | refine leL_cons (by first | exact leT_refl _ | exact leT_sl | exact leT_sln | exact leT_nil) ?_)))) ?_)))
    ·refine runX_condF rfl c2 ?_
     refine runX_exit ?_
     refine endX_seqE ?_
     refine endX_q (roundQ_exit ?_)
     refine endX_blkE ?_
     refine endX_seq ?_
     refine runX_seq ?_
     refine runX_regionC fun C hC => ?_
     try simp -implicitDefEqProofs (maxSteps := 4000000) (disch := first | omega | decide | (simp only [go_sem]; omega)) only [go_sem, ↓reduceIte]
     repeat (with_reducible refine And.intro (by first | assumption | omega | (simp; done) | (simp; omega)) ?_)
     refine toEnd hC ?_
     refine endX_seq ?_
     refine runX_ret ?_
     refine endX_q ?_
     obtain rfl := Option.some.inj h
     show RetW _ _ _ _ _
     simp only [RetW]
     (try simp -implicitDefEqProofs (maxSteps := 4000000) (disch := first | omega | decide | (simp only [go_sem]; omega)) only [go_sem, ↓reduceIte])
     (try simp (disch := omega) only [if_pos, Nat.sub_zero])
     exact leT_refl _
end Go.Proofs.YtdaojihnaajfeaaX

set_option linter.unusedVariables false
set_option linter.unusedSimpArgs false
namespace Go.Proofs.YtdaojihnaajfeaaX
open Go Go.RowKit Go.Proofs
set_option maxRecDepth 100000
attribute [local go_sem ↓] stepsK_build stepsK_bs appendS
attribute [local go_sem] String.reduceEq String.reduceNe reduceCtorEq Int.reduceEq Nat.reduceAdd Nat.reduceSub Nat.reduceMul Nat.reduceLT Nat.reduceLeDiff Nat.reduceEqDiff Nat.reduceBEq Int.reduceToNat Int.reduceLT Int.reduceLE Int.reduceGT Int.reduceGE Int.reduceAdd Int.reduceSub Int.reduceMul Int.reduceNeg Int.reduceBEq Int.reduceBNe Int.reducePow Int.reduceDiv Int.reduceMod Int.reduceTDiv Int.reduceTMod Int.reduceNatCast
/-! ### slices.Contains[[]string,string] -/
def F23 (n : Nat) (a0 : List (List UInt8)) (a1 : List UInt8) : Option (Bool) := (F36 n a0 a1).bind fun v1 => some (decide ((0 : Int) ≤ v1))
set_option maxHeartbeats 4000000 in
theorem F23_ok : ∀ (n : Nat) (a0 : List (List UInt8)) (a1 : List UInt8) (r : Bool), F23 n a0 a1 = some r → FnC Try.prog 23 [.sl 1 false (List.map eS a0), .imm (.string (bs a1))] (.imm (.bool r))
 | n, a0, a1, r, h => by
  unfold F23 at h
  refine FnC.goX mixed Try.func23 (by kernel_rfl) rfl ?_
  simp only [Try.ntmps23, List.length_cons, List.length_nil, List.replicate, List.cons_append, List.nil_append, Nat.reduceAdd, Nat.reduceSub]
  refine runX_seq ?_
  refine runX_regionC fun C hC => ?_
  try simp -implicitDefEqProofs (maxSteps := 4000000) (disch := first | omega | decide | (simp only [go_sem]; omega)) only [go_sem, ↓reduceIte]
  repeat (with_reducible refine And.intro (by first | assumption | omega | (simp; done) | (simp; omega)) ?_)
  refine toEnd hC ?_
  refine endX_seq ?_
  refine runX_seq ?_
  refine runX_regionC fun C hC => ?_
  obtain ⟨v1, h1, h⟩ := bnd_some h
  try simp -implicitDefEqProofs (maxSteps := 4000000) (disch := first | omega | decide | (simp only [go_sem]; omega)) only [go_sem, ↓reduceIte]
  repeat (with_reducible refine And.intro (by first | assumption | omega | (simp; done) | (simp; omega)) ?_)
  refine callG_X (by first | rfl | (simp only [go_sem]; done) | (simp only [closedL, closedT, Bool.and_true]; exact closedL_map _ (fun _ => by first | rfl | (simp only [go_sem]; done)) _)) (F36_ok n a0 a1 _ h1) (by repeat (first | exact leL_refl _ | refine leL_cons (by first | exact leT_refl _ | exact leT_virt | exact leT_junk _ | exact leT_sl | exact leT_sln | exact leT_nil | (refine leT_agg (by repeat (first | exact leL_refl _ | refine leL_cons (by first | exact leT_refl _ | exact leT_sl | exact leT_sln | exact leT_nil) ?_)))) ?_)) ?_
  try simp -implicitDefEqProofs (maxSteps := 4000000) (disch := first | omega | decide | (simp only [go_sem]; omega)) only [go_sem, ↓reduceIte]
  repeat (with_reducible refine And.intro (by first | assumption | omega | (simp; done) | (simp; omega)) ?_)
  refine toEnd hC ?_
  refine endX_seq ?_
  refine runX_ret ?_
  refine endX_q ?_
  obtain rfl := Option.some.inj h
  show RetW _ _ _ _ _
  simp only [RetW]
  (try simp -implicitDefEqProofs (maxSteps := 4000000) (disch := first | omega | decide | (simp only [go_sem]; omega)) only [go_sem, ↓reduceIte])
  (try simp (disch := omega) only [if_pos, Nat.sub_zero])
  exact leT_refl _
end Go.Proofs.YtdaojihnaajfeaaX

set_option linter.unusedVariables false
set_option linter.unusedSimpArgs false
namespace Go.Proofs.YtdaojihnaajfeaaX
open Go Go.RowKit Go.Proofs
set_option maxRecDepth 100000
attribute [local go_sem ↓] stepsK_build stepsK_bs appendS
attribute [local go_sem] String.reduceEq String.reduceNe reduceCtorEq Int.reduceEq Nat.reduceAdd Nat.reduceSub Nat.reduceMul Nat.reduceLT Nat.reduceLeDiff Nat.reduceEqDiff Nat.reduceBEq Int.reduceToNat Int.reduceLT Int.reduceLE Int.reduceGT Int.reduceGE Int.reduceAdd Int.reduceSub Int.reduceMul Int.reduceNeg Int.reduceBEq Int.reduceBNe Int.reducePow Int.reduceDiv Int.reduceMod Int.reduceTDiv Int.reduceTMod Int.reduceNatCast
/-! ### query.Only -/
def F11_S1 (a0 : List ((List UInt8) × (List UInt8))) (a1 : List (List UInt8)) (x1 : Int) : St := ⟨[.sl 2 false (List.map eT38 a0), .sl 1 false (List.map eS a1), .junk, .junk, .junk, .junk, .junk, .sl 2 false (List.map eT38 a0), .imm (.int .i64 (a0.length : Int)), .imm (.int .i64 x1), .junk, .junk, .junk, .junk, .junk, .junk, .junk, .junk, .junk, .junk, .junk, .junk, .junk, .junk, .junk, .junk, .junk, .junk, .junk], []⟩
def F11_L1 : Nat → (List ((List UInt8) × (List UInt8))) → (List (List UInt8)) → (Int) → Option (Bool)
 | 0, _, _, _ => none
 | m1 + 1, a0, a1, x1 => iteB (decide (x1 < (a0.length : Int))) (grd (0 ≤ x1 ∧ x1 < (a0.length : Int)) ((F23 m1 a1 ((a0.getD x1.toNat default).1)).bind fun v4 => iteB (!v4) (some false) (grd (0 ≤ x1 ∧ x1 ≤ (a0.length : Int)) ((F13 m1 (a0.take x1.toNat) ((a0.getD x1.toNat default).1)).bind fun v7 => iteB (decide ((0 : Int) ≤ v7)) (some false) (F11_L1 m1 a0 a1 (IntKind.wrap .i64 (x1 + (1 : Int)))))))) (some true)
def F11 (n : Nat) (a0 : List ((List UInt8) × (List UInt8))) (a1 : List (List UInt8)) : Option (Bool) := F11_L1 n a0 a1 (0 : Int)
set_option maxHeartbeats 4000000 in
theorem F11_ok : ∀ (n : Nat) (a0 : List ((List UInt8) × (List UInt8))) (a1 : List (List UInt8)) (r : Bool), F11 n a0 a1 = some r → FnC Try.prog 11 [.sl 2 false (List.map eT38 a0), .sl 1 false (List.map eS a1)] (.imm (.bool r))
 | n, a0, a1, r, h => by
  unfold F11 at h
  refine FnC.goX mixed Try.func11 (by kernel_rfl) rfl ?_
  simp only [Try.ntmps11, List.length_cons, List.length_nil, List.replicate, List.cons_append, List.nil_append, Nat.reduceAdd, Nat.reduceSub]
  refine runX_seq ?_
  refine runX_regionC fun C hC => ?_
  try simp -implicitDefEqProofs (maxSteps := 4000000) (disch := first | omega | decide | (simp only [go_sem]; omega)) only [go_sem, ↓reduceIte]
  repeat (with_reducible refine And.intro (by first | assumption | omega | (simp; done) | (simp; omega)) ?_)
  refine toEnd hC ?_
  refine endX_seq ?_
  refine runX_seq ?_
  refine runX_seq ?_
  refine runX_regionC fun C hC => ?_
  try simp -implicitDefEqProofs (maxSteps := 4000000) (disch := first | omega | decide | (simp only [go_sem]; omega)) only [go_sem, ↓reduceIte]
  repeat (with_reducible refine And.intro (by first | assumption | omega | (simp; done) | (simp; omega)) ?_)
  refine toEnd hC ?_
  refine endX_seq ?_
  refine runX_block ?_
  refine runX_loop [0, 1, 7, 8, 9] (fun m S => ∃ (x1 : Int), S = F11_S1 a0 a1 x1 ∧ m ≤ n ∧ F11_L1 m a0 a1 x1 = some r) n ⟨F11_S1 a0 a1 (0 : Int), ?_, (0 : Int), rfl, Nat.le_refl _, h⟩ ?_
  ·simp only [F11_S1]
   (try simp -implicitDefEqProofs (maxSteps := 4000000) (disch := first | omega | decide | (simp only [go_sem]; omega)) only [go_sem, ↓reduceIte])
   first | exact leS_refl _ | (refine leS_le ?_ ?_ <;> first | exact leL_refl _ | exact leOs_refl _ | (simp only [List.append_assoc, List.cons_append, List.nil_append]; exact leOs_refl _) | (refine leOs.cons (by first | exact leO.same _ | (refine leO.box (leT_agg (by repeat (first | exact leL_refl _ | refine leL_cons (by first | exact leT_refl _ | exact leT_virt | exact leT_junk _ | exact leT_sl | exact leT_sln | exact leT_nil | (refine leT_agg (by repeat (first | exact leL_refl _ | refine leL_cons (by first | exact leT_refl _ | exact leT_sl | exact leT_sln | exact leT_nil) ?_)))) ?_))) rfl) | (refine leO.box (by first | exact leT_virt | exact leT_sl | exact leT_sln) rfl)) ?_; repeat (first | exact leOs_refl _ | refine leOs.cons (by first | exact leO.same _ | (refine leO.box (leT_agg (by repeat (first | exact leL_refl _ | refine leL_cons (by first | exact leT_refl _ | exact leT_virt | exact leT_junk _ | exact leT_sl | exact leT_sln | exact leT_nil | (refine leT_agg (by repeat (first | exact leL_refl _ | refine leL_cons (by first | exact leT_refl _ | exact leT_sl | exact leT_sln | exact leT_nil) ?_)))) ?_))) rfl) | (refine leO.box (by first | exact leT_virt | exact leT_sl | exact leT_sln) rfl)) ?_)) | (repeat (first | exact leL_refl _ | refine leL_cons (by first | exact leT_refl _ | exact leT_virt | exact leT_junk _ | exact leT_sl | exact leT_sln | exact leT_nil | (refine leT_agg (by repeat (first | exact leL_refl _ | refine leL_cons (by first | exact leT_refl _ | exact leT_sl | exact leT_sln | exact leT_nil) ?_)))) ?_)))
  ·clear h
   rintro m1 S ⟨x1, rfl, hm1, h⟩
   cases m1 with
   | zero => first | cases (show (none : Option _) = some _ from h) | (rw [F11_L1] at h; cases h)
   | succ m1 =>
    rw [F11_L1] at h
    simp only [F11_S1]
    refine runX_seq ?_
    refine runX_regionC fun C hC => ?_
    try simp -implicitDefEqProofs (maxSteps := 4000000) (disch := first | omega | decide | (simp only [go_sem]; omega)) only [go_sem, ↓reduceIte]
    repeat (with_reducible refine And.intro (by first | assumption | omega | (simp; done) | (simp; omega)) ?_)
    refine toEnd hC ?_
    refine endX_seq ?_
    refine runX_seq ?_
    rcases iteB_some h with ⟨c2, h⟩ | ⟨c2, h⟩
    ·refine runX_condT rfl c2 ?_
     refine runX_skip ?_
     refine endX_seq ?_
     refine runX_seq ?_
     refine runX_block ?_
     refine runX_seq ?_
     refine runX_regionC fun C hC => ?_
     obtain ⟨g3, h⟩ := grd_some h
     try simp -implicitDefEqProofs (maxSteps := 4000000) (disch := first | omega | decide | (simp only [go_sem]; omega)) only [go_sem, ↓reduceIte]
     repeat (with_reducible refine And.intro (by first | assumption | omega | (simp; done) | (simp; omega)) ?_)
     refine toEnd hC ?_
     refine endX_seq ?_
     refine runX_seq ?_
     refine runX_drawC mixed (by kernel_rfl) fun C hC => ?_
     obtain ⟨v4, h4, h⟩ := bnd_some h
     try simp -implicitDefEqProofs (maxSteps := 4000000) (disch := first | omega | decide | (simp only [go_sem]; omega)) only [go_sem, ↓reduceIte]
     repeat (with_reducible refine And.intro (by first | assumption | omega | (simp; done) | (simp; omega)) ?_)
     refine callD_X (F23_ok m1 a1 ((a0.getD x1.toNat default).1) _ h4) (by repeat (first | exact leL_refl _ | refine leL_cons (by first | exact leT_refl _ | exact leT_virt | exact leT_junk _ | exact leT_sl | exact leT_sln | exact leT_nil | (refine leT_agg (by repeat (first | exact leL_refl _ | refine leL_cons (by first | exact leT_refl _ | exact leT_sl | exact leT_sln | exact leT_nil) ?_)))) ?_)) ?_
     try simp -implicitDefEqProofs (maxSteps := 4000000) (disch := first | omega | decide | (simp only [go_sem]; omega)) only [go_sem, ↓reduceIte]
     repeat (with_reducible refine And.intro (by first | assumption | omega | (simp; done) | (simp; omega)) ?_)
     rcases iteB_some h with ⟨c5, h⟩ | ⟨c5, h⟩
     ·refine guardD_F c5 ?_
      try simp -implicitDefEqProofs (maxSteps := 4000000) (disch := first | omega | decide | (simp only [go_sem]; omega)) only [go_sem, ↓reduceIte]
      repeat (with_reducible refine And.intro (by first | assumption | omega | (simp; done) | (simp; omega)) ?_)
      refine toEnd hC ?_
      refine endX_seq ?_
      refine runX_condT rfl rfl ?_
      refine runX_seq ?_
      refine runX_regionC fun C hC => ?_
      try simp -implicitDefEqProofs (maxSteps := 4000000) (disch := first | omega | decide | (simp only [go_sem]; omega)) only [go_sem, ↓reduceIte]
      repeat (with_reducible refine And.intro (by first | assumption | omega | (simp; done) | (simp; omega)) ?_)
      refine toEnd hC ?_
      refine endX_seq ?_
      refine runX_ret ?_
      refine endX_blkR ?_
      refine endX_seqR ?_
      refine endX_q (roundQ_ret ?_)
      refine endX_blkR ?_
      refine endX_seqR ?_
      refine endX_q ?_
      obtain rfl := Option.some.inj h
      show RetW _ _ _ _ _
      simp only [RetW]
      (try simp -implicitDefEqProofs (maxSteps := 4000000) (disch := first | omega | decide | (simp only [go_sem]; omega)) only [go_sem, ↓reduceIte])
      (try simp (disch := omega) only [if_pos, Nat.sub_zero])
      exact leT_refl _
     ·refine guardD_T c5 ?_
      obtain ⟨g6, h⟩ := grd_some h
      obtain ⟨v7, h7, h⟩ := bnd_some h
      try simp -implicitDefEqProofs (maxSteps := 4000000) (disch := first | omega | decide | (simp only [go_sem]; omega)) only [go_sem, ↓reduceIte]
      repeat (with_reducible refine And.intro (by first | assumption | omega | (simp; done) | (simp; omega)) ?_)
      refine callD_X (F13_ok m1 (a0.take x1.toNat) ((a0.getD x1.toNat default).1) _ h7) (by repeat (first | exact leL_refl _ | refine leL_cons (by first | exact leT_refl _ | exact leT_virt | exact leT_junk _ | exact leT_sl | exact leT_sln | exact leT_nil | (refine leT_agg (by repeat (first | exact leL_refl _ | refine leL_cons (by first | exact leT_refl _ | exact leT_sl | exact leT_sln | exact leT_nil) ?_)))) ?_)) ?_
      try simp -implicitDefEqProofs (maxSteps := 4000000) (disch := first | omega | decide | (simp only [go_sem]; omega)) only [go_sem, ↓reduceIte]
      repeat (with_reducible refine And.intro (by first | assumption | omega | (simp; done) | (simp; omega)) ?_)
      refine toEnd hC ?_
      refine endX_seq ?_
      rcases iteB_some h with ⟨c8, h⟩ | ⟨c8, h⟩
      ·refine runX_condT rfl c8 ?_
       refine runX_seq ?_
       refine runX_regionC fun C hC => ?_
       try simp -implicitDefEqProofs (maxSteps := 4000000) (disch := first | omega | decide | (simp only [go_sem]; omega)) only [go_sem, ↓reduceIte]
       repeat (with_reducible refine And.intro (by first | assumption | omega | (simp; done) | (simp; omega)) ?_)
       refine toEnd hC ?_
       refine endX_seq ?_
       refine runX_ret ?_
       refine endX_blkR ?_
       refine endX_seqR ?_
       refine endX_q (roundQ_ret ?_)
       refine endX_blkR ?_
       refine endX_seqR ?_
       refine endX_q ?_
       obtain rfl := Option.some.inj h
       show RetW _ _ _ _ _
       simp only [RetW]
       (try simp -implicitDefEqProofs (maxSteps := 4000000) (disch := first | omega | decide | (simp only [go_sem]; omega)) only [go_sem, ↓reduceIte])
       (try simp (disch := omega) only [if_pos, Nat.sub_zero])
       exact leT_refl _
      ·refine runX_condF rfl c8 ?_
       refine runX_skip ?_
       refine endX_blk ?_
       refine endX_seq ?_
       refine runX_regionC fun C hC => ?_
       try simp -implicitDefEqProofs (maxSteps := 4000000) (disch := first | omega | decide | (simp only [go_sem]; omega)) only [go_sem, ↓reduceIte]
       repeat (with_reducible refine And.intro (by first | assumption | omega | (simp; done) | (simp; omega)) ?_)
       refine toEnd hC ?_
       refine endX_q (roundQ_normal ⟨m1, by omega, F11_S1 a0 a1 (IntKind.wrap .i64 (x1 + (1 : Int))), ?_, (IntKind.wrap .i64 (x1 + (1 : Int))), rfl, by omega, h⟩)
       simp only [F11_S1]
       (try simp -implicitDefEqProofs (maxSteps := 4000000) (disch := first | omega | decide | (simp only [go_sem]; omega)) only [go_sem, ↓reduceIte])
       first | exact leS_refl _ | (refine leS_le ?_ ?_ <;> first | exact leL_refl _ | exact leOs_refl _ | (simp only [List.append_assoc, List.cons_append, List.nil_append]; exact leOs_refl _) | (refine leOs.cons (by first | exact leO.same _ | (refine leO.box (leT_agg (by repeat (first | exact leL_refl _ | refine leL_cons (by first | exact leT_refl _ | exact leT_virt | exact leT_junk _ | exact leT_sl | exact leT_sln | exact leT_nil | (refine leT_agg (by repeat (first | exact leL_refl _ | refine leL_cons (by first | exact leT_refl _ | exact leT_sl | exact leT_sln | exact leT_nil) ?_)))) ?_))) rfl) | (refine leO.box (by first | exact leT_virt | exact leT_sl | exact leT_sln) rfl)) ?_; repeat (first | exact leOs_refl _ | refine leOs.cons (by first | exact leO.same _ | (refine leO.box (leT_agg (by repeat (first | exact leL_refl _ | refine leL_cons (by first | exact leT_refl _ | exact leT_virt | exact leT_junk _ | exact leT_sl | exact leT_sln | exact leT_nil | (refine leT_agg (by repeat (first | exact leL_refl _ | refine leL_cons (by first | exact leT_refl _ | exact leT_sl | exact leT_sln | exact leT_nil) ?_)))) ?_))) rfl) | (refine leO.box (by first | exact leT_virt | exact leT_sl | exact leT_sln) rfl)) ?_)) | (repeat (first | exact leL_refl _ | refine leL_cons (by first | exact leT_refl _ | exact leT_virt | exact leT_junk _ | exact leT_sl | exact leT_sln | exact leT_nil | (refine leT_agg (by repeat (first | exact leL_refl _ | refine leL_cons (by first | exact leT_refl _ | exact leT_sl | exact leT_sln | exact leT_nil) ?_)))) ?_)))
    ·refine runX_condF rfl c2 ?_
     refine runX_exit ?_
     refine endX_seqE ?_
     refine endX_q (roundQ_exit ?_)
     refine endX_blkE ?_
     refine endX_seq ?_
     refine runX_seq ?_
     refine runX_regionC fun C hC => ?_
     try simp -implicitDefEqProofs (maxSteps := 4000000) (disch := first | omega | decide | (simp only [go_sem]; omega)) only [go_sem, ↓reduceIte]
     repeat (with_reducible refine And.intro (by first | assumption | omega | (simp; done) | (simp; omega)) ?_)
     refine toEnd hC ?_
     refine endX_seq ?_
     refine runX_ret ?_
     refine endX_q ?_
     obtain rfl := Option.some.inj h
     show RetW _ _ _ _ _
     simp only [RetW]
     (try simp -implicitDefEqProofs (maxSteps := 4000000) (disch := first | omega | decide | (simp only [go_sem]; omega)) only [go_sem, ↓reduceIte])
     (try simp (disch := omega) only [if_pos, Nat.sub_zero])
     exact leT_refl _
end Go.Proofs.YtdaojihnaajfeaaX

set_option linter.unusedVariables false
set_option linter.unusedSimpArgs false
namespace Go.Proofs.YtdaojihnaajfeaaX
open Go Go.RowKit Go.Proofs
set_option maxRecDepth 100000
attribute [local go_sem ↓] stepsK_build stepsK_bs appendS
attribute [local go_sem] String.reduceEq String.reduceNe reduceCtorEq Int.reduceEq Nat.reduceAdd Nat.reduceSub Nat.reduceMul Nat.reduceLT Nat.reduceLeDiff Nat.reduceEqDiff Nat.reduceBEq Int.reduceToNat Int.reduceLT Int.reduceLE Int.reduceGT Int.reduceGE Int.reduceAdd Int.reduceSub Int.reduceMul Int.reduceNeg Int.reduceBEq Int.reduceBNe Int.reducePow Int.reduceDiv Int.reduceMod Int.reduceTDiv Int.reduceTMod Int.reduceNatCast
/-! ### shadowboxref29.Only -/
def F12_S3 (a0 : List ((List UInt8) × (List UInt8))) (a1 : List (List UInt8)) (x1 : Int) (x9 : Bool) (x10 : Int) : St := ⟨[.sl 2 false (List.map eT38 a0), .sl 1 false (List.map eS a1), .junk, .junk, .junk, .imm (.int .i64 x1), .imm (.bool x9), .junk, .imm (.int .i64 x10), .junk, .junk, .junk, .junk, .junk, .junk, .junk, .junk, .junk, .junk, .junk, .junk, .junk, .junk, .junk, .junk, .junk, .junk, .junk, .junk, .junk, .junk, .junk, .junk, .junk, .junk, .junk, .junk, .junk, .junk, .junk, .junk, .junk, .junk, .junk, .junk, .junk, .junk, .junk, .junk, .junk, .junk, .junk, .junk, .junk, .junk], []⟩
def F12_S2 (a0 : List ((List UInt8) × (List UInt8))) (a1 : List (List UInt8)) (x1 : Int) (x3 : Bool) (x4 : Int) : St := ⟨[.sl 2 false (List.map eT38 a0), .sl 1 false (List.map eS a1), .junk, .junk, .junk, .imm (.int .i64 x1), .imm (.bool x3), .imm (.int .i64 x4), .junk, .junk, .junk, .junk, .junk, .junk, .junk, .junk, .junk, .junk, .junk, .junk, .junk, .junk, .junk, .junk, .junk, .junk, .junk, .junk, .junk, .junk, .junk, .junk, .junk, .junk, .junk, .junk, .junk, .junk, .junk, .junk, .junk, .junk, .junk, .junk, .junk, .junk, .junk, .junk, .junk, .junk, .junk, .junk, .junk, .junk, .junk], []⟩
def F12_S1 (a0 : List ((List UInt8) × (List UInt8))) (a1 : List (List UInt8)) (x1 : Int) : St := ⟨[.sl 2 false (List.map eT38 a0), .sl 1 false (List.map eS a1), .junk, .junk, .junk, .imm (.int .i64 x1), .junk, .junk, .junk, .junk, .junk, .junk, .junk, .junk, .junk, .junk, .junk, .junk, .junk, .junk, .junk, .junk, .junk, .junk, .junk, .junk, .junk, .junk, .junk, .junk, .junk, .junk, .junk, .junk, .junk, .junk, .junk, .junk, .junk, .junk, .junk, .junk, .junk, .junk, .junk, .junk, .junk, .junk, .junk, .junk, .junk, .junk, .junk, .junk, .junk], []⟩
mutual
def F12_L3 : Nat → (List ((List UInt8) × (List UInt8))) → (List (List UInt8)) → (Int) → (Bool) → (Int) → Option (Bool)
 | 0, _, _, _, _, _ => none
 | m3 + 1, a0, a1, x1, x9, x10 => iteB (decide (x10 < x1)) (iteB x9 (grd (0 ≤ x10 ∧ x10 < (a0.length : Int)) (grd (0 ≤ x1 ∧ x1 < (a0.length : Int)) (F12_L3 m3 a0 a1 x1 (!(((a0.getD x10.toNat default).1) == ((a0.getD x1.toNat default).1))) (IntKind.wrap .i64 (x10 + (1 : Int)))))) (F12_L3 m3 a0 a1 x1 false (IntKind.wrap .i64 (x10 + (1 : Int))))) (iteB (!x9) (some false) (F12_L1 m3 a0 a1 (IntKind.wrap .i64 (x1 + (1 : Int)))))
def F12_L2 : Nat → (List ((List UInt8) × (List UInt8))) → (List (List UInt8)) → (Int) → (Bool) → (Int) → Option (Bool)
 | 0, _, _, _, _, _ => none
 | m2 + 1, a0, a1, x1, x3, x4 => iteB (decide (x4 < (a1.length : Int))) (iteB x3 (F12_L2 m2 a0 a1 x1 true (IntKind.wrap .i64 (x4 + (1 : Int)))) (grd (0 ≤ x4 ∧ x4 < (a1.length : Int)) (grd (0 ≤ x1 ∧ x1 < (a0.length : Int)) (F12_L2 m2 a0 a1 x1 ((a1.getD x4.toNat default) == ((a0.getD x1.toNat default).1)) (IntKind.wrap .i64 (x4 + (1 : Int))))))) (F12_L3 m2 a0 a1 x1 x3 (0 : Int))
def F12_L1 : Nat → (List ((List UInt8) × (List UInt8))) → (List (List UInt8)) → (Int) → Option (Bool)
 | 0, _, _, _ => none
 | m1 + 1, a0, a1, x1 => iteB (decide (x1 < (a0.length : Int))) (F12_L2 m1 a0 a1 x1 false (0 : Int)) (some true)
end
def F12 (n : Nat) (a0 : List ((List UInt8) × (List UInt8))) (a1 : List (List UInt8)) : Option (Bool) := F12_L1 n a0 a1 (0 : Int)
set_option maxHeartbeats 4000000 in
theorem F12_ok : ∀ (n : Nat) (a0 : List ((List UInt8) × (List UInt8))) (a1 : List (List UInt8)) (r : Bool), F12 n a0 a1 = some r → FnC Try.prog 12 [.sl 2 false (List.map eT38 a0), .sl 1 false (List.map eS a1)] (.imm (.bool r))
 | n, a0, a1, r, h => by
  unfold F12 at h
  refine FnC.goX mixed Try.func12 (by kernel_rfl) rfl ?_
  simp only [Try.ntmps12, List.length_cons, List.length_nil, List.replicate, List.cons_append, List.nil_append, Nat.reduceAdd, Nat.reduceSub]
  refine runX_seq ?_
  refine runX_regionC fun C hC => ?_
  try simp -implicitDefEqProofs (maxSteps := 4000000) (disch := first | omega | decide | (simp only [go_sem]; omega)) only [go_sem, ↓reduceIte]
  repeat (with_reducible refine And.intro (by first | assumption | omega | (simp; done) | (simp; omega)) ?_)
  refine toEnd hC ?_
  refine endX_seq ?_
  refine runX_seq ?_
  refine runX_seq ?_
  refine runX_regionC fun C hC => ?_
  try simp -implicitDefEqProofs (maxSteps := 4000000) (disch := first | omega | decide | (simp only [go_sem]; omega)) only [go_sem, ↓reduceIte]
  repeat (with_reducible refine And.intro (by first | assumption | omega | (simp; done) | (simp; omega)) ?_)
  refine toEnd hC ?_
  refine endX_seq ?_
  refine runX_block ?_
  refine runX_loop [0, 1, 5] (fun m S => ∃ (x1 : Int), S = F12_S1 a0 a1 x1 ∧ m ≤ n ∧ F12_L1 m a0 a1 x1 = some r) n ⟨F12_S1 a0 a1 (0 : Int), ?_, (0 : Int), rfl, Nat.le_refl _, h⟩ ?_
  ·simp only [F12_S1]
   (try simp -implicitDefEqProofs (maxSteps := 4000000) (disch := first | omega | decide | (simp only [go_sem]; omega)) only [go_sem, ↓reduceIte])
   first | exact leS_refl _ | (refine leS_le ?_ ?_ <;> first | exact leL_refl _ | exact leOs_refl _ | (simp only [List.append_assoc, List.cons_append, List.nil_append]; exact leOs_refl _) | (refine leOs.cons (by first | exact leO.same _ | (refine leO.box (leT_agg (by repeat (first | exact leL_refl _ | refine leL_cons (by first | exact leT_refl _ | exact leT_virt | exact leT_junk _ | exact leT_sl | exact leT_sln | exact leT_nil | (refine leT_agg (by repeat (first | exact leL_refl _ | refine leL_cons (by first | exact leT_refl _ | exact leT_sl | exact leT_sln | exact leT_nil) ?_)))) ?_))) rfl) | (refine leO.box (by first | exact leT_virt | exact leT_sl | exact leT_sln) rfl)) ?_; repeat (first | exact leOs_refl _ | refine leOs.cons (by first | exact leO.same _ | (refine leO.box (leT_agg (by repeat (first | exact leL_refl _ | refine leL_cons (by first | exact leT_refl _ | exact leT_virt | exact leT_junk _ | exact leT_sl | exact leT_sln | exact leT_nil | (refine leT_agg (by repeat (first | exact leL_refl _ | refine leL_cons (by first | exact leT_refl _ | exact leT_sl | exact leT_sln | exact leT_nil) ?_)))) ?_))) rfl) | (refine leO.box (by first | exact leT_virt | exact leT_sl | exact leT_sln) rfl)) ?_)) | (repeat (first | exact leL_refl _ | refine leL_cons (by first | exact leT_refl _ | exact leT_virt | exact leT_junk _ | exact leT_sl | exact leT_sln | exact leT_nil | (refine leT_agg (by repeat (first | exact leL_refl _ | refine leL_cons (by first | exact leT_refl _ | exact leT_sl | exact leT_sln | exact leT_nil) ?_)))) ?_)))
  ·clear h
   rintro m1 S ⟨x1, rfl, hm1, h⟩
   cases m1 with
   | zero => first | cases (show (none : Option _) = some _ from h) | (rw [F12_L1] at h; cases h)
   | succ m1 =>
    rw [F12_L1] at h
    simp only [F12_S1]
    refine runX_seq ?_
    refine runX_seq ?_
    refine runX_regionC fun C hC => ?_
    try simp -implicitDefEqProofs (maxSteps := 4000000) (disch := first | omega | decide | (simp only [go_sem]; omega)) only [go_sem, ↓reduceIte]
    repeat (with_reducible refine And.intro (by first | assumption | omega | (simp; done) | (simp; omega)) ?_)
    refine toEnd hC ?_
    refine endX_seq ?_
    rcases iteB_some h with ⟨c2, h⟩ | ⟨c2, h⟩
    ·refine runX_condT rfl c2 ?_
     refine runX_skip ?_
     refine endX_seq ?_
     refine runX_seq ?_
     refine runX_block ?_
     refine runX_seq ?_
     refine runX_regionC fun C hC => ?_
     try simp -implicitDefEqProofs (maxSteps := 4000000) (disch := first | omega | decide | (simp only [go_sem]; omega)) only [go_sem, ↓reduceIte]
     repeat (with_reducible refine And.intro (by first | assumption | omega | (simp; done) | (simp; omega)) ?_)
     refine toEnd hC ?_
     refine endX_seq ?_
     refine runX_seq ?_
     refine runX_seq ?_
     refine runX_regionC fun C hC => ?_
     try simp -implicitDefEqProofs (maxSteps := 4000000) (disch := first | omega | decide | (simp only [go_sem]; omega)) only [go_sem, ↓reduceIte]
     repeat (with_reducible refine And.intro (by first | assumption | omega | (simp; done) | (simp; omega)) ?_)
     refine toEnd hC ?_
     refine endX_seq ?_
     refine runX_block ?_
     refine runX_loop [0, 1, 5, 6, 7] (fun m S => ∃ (x3 : Bool) (x4 : Int), S = F12_S2 a0 a1 x1 x3 x4 ∧ m ≤ m1 ∧ F12_L2 m a0 a1 x1 x3 x4 = some r) m1 ⟨F12_S2 a0 a1 x1 false (0 : Int), ?_, false, (0 : Int), rfl, Nat.le_refl _, h⟩ ?_
     ·simp only [F12_S2]
      (try simp -implicitDefEqProofs (maxSteps := 4000000) (disch := first | omega | decide | (simp only [go_sem]; omega)) only [go_sem, ↓reduceIte])
      first | exact leS_refl _ | (refine leS_le ?_ ?_ <;> first | exact leL_refl _ | exact leOs_refl _ | (simp only [List.append_assoc, List.cons_append, List.nil_append]; exact leOs_refl _) | (refine leOs.cons (by first | exact leO.same _ | (refine leO.box (leT_agg (by repeat (first | exact leL_refl _ | refine leL_cons (by first | exact leT_refl _ | exact leT_virt | exact leT_junk _ | exact leT_sl | exact leT_sln | exact leT_nil | (refine leT_agg (by repeat (first | exact leL_refl _ | refine leL_cons (by first | exact leT_refl _ | exact leT_sl | exact leT_sln | exact leT_nil) ?_)))) ?_))) rfl) | (refine leO.box (by first | exact leT_virt | exact leT_sl | exact leT_sln) rfl)) ?_; repeat (first | exact leOs_refl _ | refine leOs.cons (by first | exact leO.same _ | (refine leO.box (leT_agg (by repeat (first | exact leL_refl _ | refine leL_cons (by first | exact leT_refl _ | exact leT_virt | exact leT_junk _ | exact leT_sl | exact leT_sln | exact leT_nil | (refine leT_agg (by repeat (first | exact leL_refl _ | refine leL_cons (by first | exact leT_refl _ | exact leT_sl | exact leT_sln | exact leT_nil) ?_)))) ?_))) rfl) | (refine leO.box (by first | exact leT_virt | exact leT_sl | exact leT_sln) rfl)) ?_)) | (repeat (first | exact leL_refl _ | refine leL_cons (by first | exact leT_refl _ | exact leT_virt | exact leT_junk _ | exact leT_sl | exact leT_sln | exact leT_nil | (refine leT_agg (by repeat (first | exact leL_refl _ | refine leL_cons (by first | exact leT_refl _ | exact leT_sl | exact leT_sln | exact leT_nil) ?_)))) ?_)))
     ·clear h
      rintro m2 S ⟨x3, x4, rfl, hm2, h⟩
      cases m2 with
      | zero => first | cases (show (none : Option _) = some _ from h) | (rw [F12_L2] at h; cases h)
      | succ m2 =>
       rw [F12_L2] at h
       simp only [F12_S2]
       refine runX_seq ?_
       refine runX_seq ?_
       refine runX_regionC fun C hC => ?_
       try simp -implicitDefEqProofs (maxSteps := 4000000) (disch := first | omega | decide | (simp only [go_sem]; omega)) only [go_sem, ↓reduceIte]
       repeat (with_reducible refine And.intro (by first | assumption | omega | (simp; done) | (simp; omega)) ?_)
       refine toEnd hC ?_
       refine endX_seq ?_
       rcases iteB_some h with ⟨c5, h⟩ | ⟨c5, h⟩
       ·refine runX_condT rfl c5 ?_
        refine runX_skip ?_
        refine endX_seq ?_
        refine runX_seq ?_
        refine runX_block ?_
        refine runX_drawC mixed (by kernel_rfl) fun C hC => ?_
        try simp -implicitDefEqProofs (maxSteps := 4000000) (disch := first | omega | decide | (simp only [go_sem]; omega)) only [go_sem, ↓reduceIte]
        repeat (with_reducible refine And.intro (by first | assumption | omega | (simp; done) | (simp; omega)) ?_)
        rcases iteB_some h with ⟨c6, h⟩ | ⟨c6, h⟩
        ·refine guardD_F c6 ?_
         try simp -implicitDefEqProofs (maxSteps := 4000000) (disch := first | omega | decide | (simp only [go_sem]; omega)) only [go_sem, ↓reduceIte]
         repeat (with_reducible refine And.intro (by first | assumption | omega | (simp; done) | (simp; omega)) ?_)
         refine toEnd hC ?_
         refine endX_blk ?_
         refine endX_seq ?_
         refine runX_regionC fun C hC => ?_
         try simp -implicitDefEqProofs (maxSteps := 4000000) (disch := first | omega | decide | (simp only [go_sem]; omega)) only [go_sem, ↓reduceIte]
         repeat (with_reducible refine And.intro (by first | assumption | omega | (simp; done) | (simp; omega)) ?_)
         refine toEnd hC ?_
         refine endX_q (roundQ_normal ⟨m2, by omega, F12_S2 a0 a1 x1 true (IntKind.wrap .i64 (x4 + (1 : Int))), ?_, true, (IntKind.wrap .i64 (x4 + (1 : Int))), rfl, by omega, h⟩)
         simp only [F12_S2]
         (try simp -implicitDefEqProofs (maxSteps := 4000000) (disch := first | omega | decide | (simp only [go_sem]; omega)) only [go_sem, ↓reduceIte])
         first | exact leS_refl _ | (refine leS_le ?_ ?_ <;> first | exact leL_refl _ | exact leOs_refl _ | (simp only [List.append_assoc, List.cons_append, List.nil_append]; exact leOs_refl _) | (refine leOs.cons (by first | exact leO.same _ | (refine leO.box (leT_agg (by repeat (first | exact leL_refl _ | refine leL_cons (by first | exact leT_refl _ | exact leT_virt | exact leT_junk _ | exact leT_sl | exact leT_sln | exact leT_nil | (refine leT_agg (by repeat (first | exact leL_refl _ | refine leL_cons (by first | exact leT_refl _ | exact leT_sl | exact leT_sln | exact leT_nil) ?_)))) ?_))) rfl) | (refine leO.box (by first | exact leT_virt | exact leT_sl | exact leT_sln) rfl)) ?_; repeat (first | exact leOs_refl _ | refine leOs.cons (by first | exact leO.same _ | (refine leO.box (leT_agg (by repeat (first | exact leL_refl _ | refine leL_cons (by first | exact leT_refl _ | exact leT_virt | exact leT_junk _ | exact leT_sl | exact leT_sln | exact leT_nil | (refine leT_agg (by repeat (first | exact leL_refl _ | refine leL_cons (by first | exact leT_refl _ | exact leT_sl | exact leT_sln | exact leT_nil) ?_)))) ?_))) rfl) | (refine leO.box (by first | exact leT_virt | exact leT_sl | exact leT_sln) rfl)) ?_)) | (repeat (first | exact leL_refl _ | refine leL_cons (by first | exact leT_refl _ | exact leT_virt | exact leT_junk _ | exact leT_sl | exact leT_sln | exact leT_nil | (refine leT_agg (by repeat (first | exact leL_refl _ | refine leL_cons (by first | exact leT_refl _ | exact leT_sl | exact leT_sln | exact leT_nil) ?_)))) ?_)))
        ·refine guardD_T c6 ?_
         obtain ⟨g7, h⟩ := grd_some h
         obtain ⟨g8, h⟩ := grd_some h
         try simp -implicitDefEqProofs (maxSteps := 4000000) (disch := first | omega | decide | (simp only [go_sem]; omega)) only [go_sem, ↓reduceIte]
         repeat (with_reducible refine And.intro (by first | assumption | omega | (simp; done) | (simp; omega)) ?_)
         refine toEnd hC ?_
         refine endX_blk ?_
         refine endX_seq ?_
         refine runX_regionC fun C hC => ?_
         try simp -implicitDefEqProofs (maxSteps := 4000000) (disch := first | omega | decide | (simp only [go_sem]; omega)) only [go_sem, ↓reduceIte]
         repeat (with_reducible refine And.intro (by first | assumption | omega | (simp; done) | (simp; omega)) ?_)
         refine toEnd hC ?_
         refine endX_q (roundQ_normal ⟨m2, by omega, F12_S2 a0 a1 x1 ((a1.getD x4.toNat default) == ((a0.getD x1.toNat default).1)) (IntKind.wrap .i64 (x4 + (1 : Int))), ?_, ((a1.getD x4.toNat default) == ((a0.getD x1.toNat default).1)), (IntKind.wrap .i64 (x4 + (1 : Int))), rfl, by omega, h⟩)
         simp only [F12_S2]
         (try simp -implicitDefEqProofs (maxSteps := 4000000) (disch := first | omega | decide | (simp only [go_sem]; omega)) only [go_sem, ↓reduceIte])
         first | exact leS_refl _ | (refine leS_le ?_ ?_ <;> first | exact leL_refl _ | exact leOs_refl _ | (simp only [List.append_assoc, List.cons_append, List.nil_append]; exact leOs_refl _) | (refine leOs.cons (by first | exact leO.same _ | (refine leO.box (leT_agg (by repeat (first | exact leL_refl _ | refine leL_cons (by first | exact leT_refl _ | exact leT_virt | exact leT_junk _ | exact leT_sl | exact leT_sln | exact leT_nil | (refine leT_agg (by repeat (first | exact leL_refl _ | refine leL_cons (by first | exact leT_refl _ | exact leT_sl | exact leT_sln | exact leT_nil) ?_)))) ?_))) rfl) | (refine leO.box (by first | exact leT_virt | exact leT_sl | exact leT_sln) rfl)) ?_; repeat (first | exact leOs_refl _ | refine leOs.cons (by first | exact leO.same _ | (refine leO.box (leT_agg (by repeat (first | exact leL_refl _ | refine leL_cons (by first | exact leT_refl _ | exact leT_virt | exact leT_junk _ | exact leT_sl | exact leT_sln | exact leT_nil | (refine leT_agg (by repeat (first | exact leL_refl _ | refine leL_cons (by first | exact leT_refl _ | exact leT_sl | exact leT_sln | exact leT_nil) ?_)))) ?_))) rfl) | (refine leO.box (by first | exact leT_virt | exact leT_sl | exact leT_sln) rfl)) ?_)) | (repeat (first | exact leL_refl _ | refine leL_cons (by first | exact leT_refl _ | exact leT_virt | exact leT_junk _ | exact leT_sl | exact leT_sln | exact leT_nil | (refine leT_agg (by repeat (first | exact leL_refl _ | refine leL_cons (by first | exact leT_refl _ | exact leT_sl | exact leT_sln | exact leT_nil) ?_)))) ?_)))
       ·refine runX_condF rfl c5 ?_
        refine runX_exit ?_
        refine endX_seqE ?_
        refine endX_q (roundQ_exit ?_)
        refine endX_blkE ?_
        refine endX_seq ?_
        refine runX_seq ?_
        refine runX_seq ?_
        refine runX_regionC fun C hC => ?_
        try simp -implicitDefEqProofs (maxSteps := 4000000) (disch := first | omega | decide | (simp only [go_sem]; omega)) only [go_sem, ↓reduceIte]
        repeat (with_reducible refine And.intro (by first | assumption | omega | (simp; done) | (simp; omega)) ?_)
        refine toEnd hC ?_
        refine endX_seq ?_
        refine runX_block ?_
        refine runX_loop [0, 1, 5, 6, 8] (fun m S => ∃ (x9 : Bool) (x10 : Int), S = F12_S3 a0 a1 x1 x9 x10 ∧ m ≤ m2 ∧ F12_L3 m a0 a1 x1 x9 x10 = some r) m2 ⟨F12_S3 a0 a1 x1 x3 (0 : Int), ?_, x3, (0 : Int), rfl, Nat.le_refl _, h⟩ ?_
        ·simp only [F12_S3]
         (try simp -implicitDefEqProofs (maxSteps := 4000000) (disch := first | omega | decide | (simp only [go_sem]; omega)) only [go_sem, ↓reduceIte])
         first | exact leS_refl _ | (refine leS_le ?_ ?_ <;> first | exact leL_refl _ | exact leOs_refl _ | (simp only [List.append_assoc, List.cons_append, List.nil_append]; exact leOs_refl _) | (refine leOs.cons (by first | exact leO.same _ | (refine leO.box (leT_agg (by repeat (first | exact leL_refl _ | refine leL_cons (by first | exact leT_refl _ | exact leT_virt | exact leT_junk _ | exact leT_sl | exact leT_sln | exact leT_nil | (refine leT_agg (by repeat (first | exact leL_refl _ | refine leL_cons (by first | exact leT_refl _ | exact leT_sl | exact leT_sln | exact leT_nil) ?_)))) ?_))) rfl) | (refine leO.box (by first | exact leT_virt | exact leT_sl | exact leT_sln) rfl)) ?_; repeat (first | exact leOs_refl _ | refine leOs.cons (by first | exact leO.same _ | (refine leO.box (leT_agg (by repeat (first | exact leL_refl _ | refine leL_cons (by first | exact leT_refl _ | exact leT_virt | exact leT_junk _ | exact leT_sl | exact leT_sln | exact leT_nil | (refine leT_agg (by repeat (first | exact leL_refl _ | refine leL_cons (by first | exact leT_refl _ | exact leT_sl | exact leT_sln | exact leT_nil) ?_)))) ?_))) rfl) | (refine leO.box (by first | exact leT_virt | exact leT_sl | exact leT_sln) rfl)) ?_)) | (repeat (first | exact leL_refl _ | refine leL_cons (by first | exact leT_refl _ | exact leT_virt | exact leT_junk _ | exact leT_sl | exact leT_sln | exact leT_nil | (refine leT_agg (by repeat (first | exact leL_refl _ | refine leL_cons (by first | exact leT_refl _ | exact leT_sl | exact leT_sln | exact leT_nil) ?_)))) ?_)))
        ·clear h
         rintro m3 S ⟨x9, x10, rfl, hm3, h⟩
         cases m3 with
         | zero => first | cases (show (none : Option _) = some _ from h) | (rw [F12_L3] at h; cases h)
         | succ m3 =>
          rw [F12_L3] at h
          simp only [F12_S3]
          refine runX_seq ?_
          refine runX_seq ?_
          refine runX_regionC fun C hC => ?_
          try simp -implicitDefEqProofs (maxSteps := 4000000) (disch := first | omega | decide | (simp only [go_sem]; omega)) only [go_sem, ↓reduceIte]
          repeat (with_reducible refine And.intro (by first | assumption | omega | (simp; done) | (simp; omega)) ?_)
          refine toEnd hC ?_
          refine endX_seq ?_
          rcases iteB_some h with ⟨c11, h⟩ | ⟨c11, h⟩
          ·refine runX_condT rfl c11 ?_
           refine runX_skip ?_
           refine endX_seq ?_
           refine runX_seq ?_
           refine runX_block ?_
           refine runX_drawC mixed (by kernel_rfl) fun C hC => ?_
           try simp -implicitDefEqProofs (maxSteps := 4000000) (disch := first | omega | decide | (simp only [go_sem]; omega)) only [go_sem, ↓reduceIte]
           repeat (with_reducible refine And.intro (by first | assumption | omega | (simp; done) | (simp; omega)) ?_)
           rcases iteB_some h with ⟨c12, h⟩ | ⟨c12, h⟩
           ·refine guardD_T c12 ?_
            obtain ⟨g13, h⟩ := grd_some h
            obtain ⟨g14, h⟩ := grd_some h
            try simp -implicitDefEqProofs (maxSteps := 4000000) (disch := first | omega | decide | (simp only [go_sem]; omega)) only [go_sem, ↓reduceIte]
            repeat (with_reducible refine And.intro (by first | assumption | omega | (simp; done) | (simp; omega)) ?_)
            refine toEnd hC ?_
            refine endX_blk ?_
            refine endX_seq ?_
            refine runX_regionC fun C hC => ?_
            try simp -implicitDefEqProofs (maxSteps := 4000000) (disch := first | omega | decide | (simp only [go_sem]; omega)) only [go_sem, ↓reduceIte]
            repeat (with_reducible refine And.intro (by first | assumption | omega | (simp; done) | (simp; omega)) ?_)
            refine toEnd hC ?_
            refine endX_q (roundQ_normal ⟨m3, by omega, F12_S3 a0 a1 x1 (!(((a0.getD x10.toNat default).1) == ((a0.getD x1.toNat default).1))) (IntKind.wrap .i64 (x10 + (1 : Int))), ?_, (!(((a0.getD x10.toNat default).1) == ((a0.getD x1.toNat default).1))), (IntKind.wrap .i64 (x10 + (1 : Int))), rfl, by omega, h⟩)
            simp only [F12_S3]
            (try simp -implicitDefEqProofs (maxSteps := 4000000) (disch := first | omega | decide | (simp only [go_sem]; omega)) only [go_sem, ↓reduceIte])
            first | exact leS_refl _ | (refine leS_le ?_ ?_ <;> first | exact leL_refl _ | exact leOs_refl _ | (simp only [List.append_assoc, List.cons_append, List.nil_append]; exact leOs_refl _) | (refine leOs.cons (by first | exact leO.same _ | (refine leO.box (leT_agg (by repeat (first | exact leL_refl _ | refine leL_cons (by first | exact leT_refl _ | exact leT_virt | exact leT_junk _ | exact leT_sl | exact leT_sln | exact leT_nil | (refine leT_agg (by repeat (first | exact leL_refl _ | refine leL_cons (by first | exact leT_refl _ | exact leT_sl | exact leT_sln | exact leT_nil) ?_)))) ?_))) rfl) | (refine leO.box (by first | exact leT_virt | exact leT_sl | exact leT_sln) rfl)) ?_; repeat (first | exact leOs_refl _ | refine leOs.cons (by first | exact leO.same _ | (refine leO.box (leT_agg (by repeat (first | exact leL_refl _ | refine leL_cons (by first | exact leT_refl _ | exact leT_virt | exact leT_junk _ | exact leT_sl | exact leT_sln | exact leT_nil | (refine leT_agg (by repeat (first | exact leL_refl _ | refine leL_cons (by first | exact leT_refl _ | exact leT_sl | exact leT_sln | exact leT_nil) ?_)))) ?_))) rfl) | (refine leO.box (by first | exact leT_virt | exact leT_sl | exact leT_sln) rfl)) ?_)) | (repeat (first | exact leL_refl _ | refine leL_cons (by first | exact leT_refl _ | exact leT_virt | exact leT_junk _ | exact leT_sl | exact leT_sln | exact leT_nil | (refine leT_agg (by repeat (first | exact leL_refl _ | refine leL_cons (by first | exact leT_refl _ | exact leT_sl | exact leT_sln | exact leT_nil) ?_)))) ?_)))
           ·refine guardD_F c12 ?_
            try simp -implicitDefEqProofs (maxSteps := 4000000) (disch := first | omega | decide | (simp only [go_sem]; omega)) only [go_sem, ↓reduceIte]
            repeat (with_reducible refine And.intro (by first | assumption | omega | (simp; done) | (simp; omega)) ?_)
            refine toEnd hC ?_
            refine endX_blk ?_
            refine endX_seq ?_
            refine runX_regionC fun C hC => ?_
            try simp -implicitDefEqProofs (maxSteps := 4000000) (disch := first | omega | decide | (simp only [go_sem]; omega)) only [go_sem, ↓reduceIte]
            repeat (with_reducible refine And.intro (by first | assumption | omega | (simp; done) | (simp; omega)) ?_)
            refine toEnd hC ?_
            refine endX_q (roundQ_normal ⟨m3, by omega, F12_S3 a0 a1 x1 false (IntKind.wrap .i64 (x10 + (1 : Int))), ?_, false, (IntKind.wrap .i64 (x10 + (1 : Int))), rfl, by omega, h⟩)
            simp only [F12_S3]
            (try simp -implicitDefEqProofs (maxSteps := 4000000) (disch := first | omega | decide | (simp only [go_sem]; omega)) only [go_sem, ↓reduceIte])
            first | exact leS_refl _ | (refine leS_le ?_ ?_ <;> first | exact leL_refl _ | exact leOs_refl _ | (simp only [List.append_assoc, List.cons_append, List.nil_append]; exact leOs_refl _) | (refine leOs.cons (by first | exact leO.same _ | (refine leO.box (leT_agg (by repeat (first | exact leL_refl _ | refine leL_cons (by first | exact leT_refl _ | exact leT_virt | exact leT_junk _ | exact leT_sl | exact leT_sln | exact leT_nil | (refine leT_agg (by repeat (first | exact leL_refl _ | refine leL_cons (by first | exact leT_refl _ | exact leT_sl | exact leT_sln | exact leT_nil) ?_)))) ?_))) rfl) | (refine leO.box (by first | exact leT_virt | exact leT_sl | exact leT_sln) rfl)) ?_; repeat (first | exact leOs_refl _ | refine leOs.cons (by first | exact leO.same _ | (refine leO.box (leT_agg (by repeat (first | exact leL_refl _ | refine leL_cons (by first | exact leT_refl _ | exact leT_virt | exact leT_junk _ | exact leT_sl | exact leT_sln | exact leT_nil | (refine leT_agg (by repeat (first | exact leL_refl _ | refine leL_cons (by first | exact leT_refl _ | exact leT_sl | exact leT_sln | exact leT_nil) ?_)))) ?_))) rfl) | (refine leO.box (by first | exact leT_virt | exact leT_sl | exact leT_sln) rfl)) ?_)) | (repeat (first | exact leL_refl _ | refine leL_cons (by first | exact leT_refl _ | exact leT_virt | exact leT_junk _ | exact leT_sl | exact leT_sln | exact leT_nil | (refine leT_agg (by repeat (first | exact leL_refl _ | refine leL_cons (by first | exact leT_refl _ | exact leT_sl | exact leT_sln | exact leT_nil) ?_)))) ?_)))
          ·refine runX_condF rfl c11 ?_
           refine runX_exit ?_
           refine endX_seqE ?_
           refine endX_q (roundQ_exit ?_)
           refine endX_blkE ?_
           refine endX_seq ?_
           refine runX_seq ?_
           refine runX_regionC fun C hC => ?_
           try simp -implicitDefEqProofs (maxSteps := 4000000) (disch := first | omega | decide | (simp only [go_sem]; omega)) only [go_sem, ↓reduceIte]
           repeat (with_reducible refine And.intro (by first | assumption | omega | (simp; done) | (simp; omega)) ?_)
           refine toEnd hC ?_
           refine endX_seq ?_
           rcases iteB_some h with ⟨c15, h⟩ | ⟨c15, h⟩
           ·refine runX_condT rfl c15 ?_
            refine runX_seq ?_
            refine runX_regionC fun C hC => ?_
            try simp -implicitDefEqProofs (maxSteps := 4000000) (disch := first | omega | decide | (simp only [go_sem]; omega)) only [go_sem, ↓reduceIte]
            repeat (with_reducible refine And.intro (by first | assumption | omega | (simp; done) | (simp; omega)) ?_)
            refine toEnd hC ?_
            refine endX_seq ?_
            refine runX_ret ?_
            refine endX_blkR ?_
            refine endX_seqR ?_
            refine endX_q (roundQ_ret ?_)
            refine endX_blkR ?_
            refine endX_seqR ?_
            refine endX_q ?_
            obtain rfl := Option.some.inj h
            show RetW _ _ _ _ _
            simp only [RetW]
            (try simp -implicitDefEqProofs (maxSteps := 4000000) (disch := first | omega | decide | (simp only [go_sem]; omega)) only [go_sem, ↓reduceIte])
            (try simp (disch := omega) only [if_pos, Nat.sub_zero])
            exact leT_refl _
           ·refine runX_condF rfl c15 ?_
            refine runX_skip ?_
            refine endX_blk ?_
            refine endX_seq ?_
            refine runX_regionC fun C hC => ?_
            try simp -implicitDefEqProofs (maxSteps := 4000000) (disch := first | omega | decide | (simp only [go_sem]; omega)) only [go_sem, ↓reduceIte]
            repeat (with_reducible refine And.intro (by first | assumption | omega | (simp; done) | (simp; omega)) ?_)
            refine toEnd hC ?_
            refine endX_q (roundQ_normal ⟨m3, by omega, F12_S1 a0 a1 (IntKind.wrap .i64 (x1 + (1 : Int))), ?_, (IntKind.wrap .i64 (x1 + (1 : Int))), rfl, by omega, h⟩)
            simp only [F12_S1]
            (try simp -implicitDefEqProofs (maxSteps := 4000000) (disch := first | omega | decide | (simp only [go_sem]; omega)) only [go_sem, ↓reduceIte])
            first | exact leS_refl _ | (refine leS_le ?_ ?_ <;> first | exact leL_refl _ | exact leOs_refl _ | (simp only [List.append_assoc, List.cons_append, List.nil_append]; exact leOs_refl _) | (refine leOs.cons (by first | exact leO.same _ | (refine leO.box (leT_agg (by repeat (first | exact leL_refl _ | refine leL_cons (by first | exact leT_refl _ | exact leT_virt | exact leT_junk _ | exact leT_sl | exact leT_sln | exact leT_nil | (refine leT_agg (by repeat (first | exact leL_refl _ | refine leL_cons (by first | exact leT_refl _ | exact leT_sl | exact leT_sln | exact leT_nil) ?_)))) ?_))) rfl) | (refine leO.box (by first | exact leT_virt | exact leT_sl | exact leT_sln) rfl)) ?_; repeat (first | exact leOs_refl _ | refine leOs.cons (by first | exact leO.same _ | (refine leO.box (leT_agg (by repeat (first | exact leL_refl _ | refine leL_cons (by first | exact leT_refl _ | exact leT_virt | exact leT_junk _ | exact leT_sl | exact leT_sln | exact leT_nil | (refine leT_agg (by repeat (first | exact leL_refl _ | refine leL_cons (by first | exact leT_refl _ | exact leT_sl | exact leT_sln | exact leT_nil) ?_)))) ?_))) rfl) | (refine leO.box (by first | exact leT_virt | exact leT_sl | exact leT_sln) rfl)) ?_)) | (repeat (first | exact leL_refl _ | refine leL_cons (by first | exact leT_refl _ | exact leT_virt | exact leT_junk _ | exact leT_sl | exact leT_sln | exact leT_nil | (refine leT_agg (by repeat (first | exact leL_refl _ | refine leL_cons (by first | exact leT_refl _ | exact leT_sl | exact leT_sln | exact leT_nil) ?_)))) ?_)))
    ·refine runX_condF rfl c2 ?_
     refine runX_exit ?_
     refine endX_seqE ?_
     refine endX_q (roundQ_exit ?_)
     refine endX_blkE ?_
     refine endX_seq ?_
     refine runX_seq ?_
     refine runX_regionC fun C hC => ?_
     try simp -implicitDefEqProofs (maxSteps := 4000000) (disch := first | omega | decide | (simp only [go_sem]; omega)) only [go_sem, ↓reduceIte]
     repeat (with_reducible refine And.intro (by first | assumption | omega | (simp; done) | (simp; omega)) ?_)
     refine toEnd hC ?_
     refine endX_seq ?_
     refine runX_ret ?_
     refine endX_q ?_
     obtain rfl := Option.some.inj h
     show RetW _ _ _ _ _
     simp only [RetW]
     (try simp -implicitDefEqProofs (maxSteps := 4000000) (disch := first | omega | decide | (simp only [go_sem]; omega)) only [go_sem, ↓reduceIte])
     (try simp (disch := omega) only [if_pos, Nat.sub_zero])
     exact leT_refl _
end Go.Proofs.YtdaojihnaajfeaaX

set_option linter.unusedVariables false
set_option linter.unusedSimpArgs false
namespace Go.Proofs.YtdaojihnaajfeaaX
open Go Go.RowKit Go.Proofs
set_option maxRecDepth 100000
attribute [local go_sem ↓] stepsK_build stepsK_bs appendS
attribute [local go_sem] String.reduceEq String.reduceNe reduceCtorEq Int.reduceEq Nat.reduceAdd Nat.reduceSub Nat.reduceMul Nat.reduceLT Nat.reduceLeDiff Nat.reduceEqDiff Nat.reduceBEq Int.reduceToNat Int.reduceLT Int.reduceLE Int.reduceGT Int.reduceGE Int.reduceAdd Int.reduceSub Int.reduceMul Int.reduceNeg Int.reduceBEq Int.reduceBNe Int.reducePow Int.reduceDiv Int.reduceMod Int.reduceTDiv Int.reduceTMod Int.reduceNatCast
/-! ### shadowboxlaw29.QueryTells -/
def F3_S1 (a0 : List ((List UInt8) × (List UInt8))) (a1 : List (List UInt8)) (v1 : (List ((List UInt8) × (List UInt8))) × (Bool)) (a2 : List (Int)) (x6 : List UInt8) : St := ⟨[.sl 2 false (List.map eT38 a0), .sl 1 false (List.map eS a1), .junk, .junk, .junk, .ref 0 0 0 0, .junk, .sl 2 false (List.map eT38 v1.1), .junk, .imm (.string (bs x6)), .junk, .junk, .junk, .junk, .junk, .junk, .junk, .junk, .junk, .junk, .junk, .junk, .junk, .junk, .junk, .junk, .junk, .junk, .junk, .junk, .junk, .junk, .junk, .junk, .junk, .junk, .junk, .junk, .junk, .junk, .junk, .junk, .junk, .junk, .junk, .junk, .junk, .junk, .junk, .junk, .junk, .junk, .junk, .junk, .junk, .junk, .junk, .junk, .junk, .junk, .junk, .junk, .junk, .junk, .junk, .junk, .junk, .junk, .junk, .junk, .junk, .junk, .junk, .junk, .junk, .junk, .junk, .junk, .junk, .junk, .junk, .junk, .junk, .junk, .junk, .junk, .junk, .junk, .junk, .junk, .junk, .junk, .junk, .junk, .junk, .junk, .junk, .junk, .junk, .junk, .junk, .junk, .junk, .junk, .junk, .junk, .junk, .junk, .junk], [some (.box 24 (.agg (List.map (eI .i64) a2)) false)]⟩
def F3_J1 (n : Nat) (a0 : List ((List UInt8) × (List UInt8))) (a1 : List (List UInt8)) (v1 : (List ((List UInt8) × (List UInt8))) × (Bool)) (a2 : List (Int)) (x6 : List UInt8) : Option (Bool) := (F5 n a0 x6).bind fun v7 => (F6 n v1.1 x6).bind fun v8 => grd (0 < a2.length) (grd (1 < a2.length) ((F7 n a0 x6 (a2.getD 0 default) (a2.getD 1 default)).bind fun v11 => grd (0 < a2.length) (grd (1 < a2.length) ((F8 n v1.1 x6 (a2.getD 0 default) (a2.getD 1 default)).bind fun v14 => iteB (v7.1 == v8.1) (iteB (v7.2 == v8.2) (iteB (v11.1 == v14.1) (iteB (v11.2 == v14.2) ((F9 n a0).bind fun v19 => (F10 n v1.1).bind fun v20 => iteB (v19 == v20) ((F11 n a0 a1).bind fun v22 => (F12 n v1.1 a1).bind fun v23 => iteB (v22 == v23) ((F9 n ([(([98] : List UInt8), []), (([97] : List UInt8), ([49] : List UInt8))])).bind fun v25 => some (v25 == ([97, 61, 49, 38, 98, 61] : List UInt8))) (some false)) (some false)) (some false)) (some false)) (some false)) (some false)))))
def F3 (n : Nat) (a0 : List ((List UInt8) × (List UInt8))) (a1 : List (List UInt8)) (a2 : List (Int)) : Option (Bool) := (F4 n a0).bind fun v1 => iteB (!v1.2) (some true) (iteB (decide ((40 : Int) < (a1.length : Int))) (some true) (iteB (decide ((0 : Int) < (a1.length : Int))) (grd ((0 : Int) < (a1.length : Int)) (F3_J1 n a0 a1 v1 a2 (a1.getD (0 : Int).toNat default))) (F3_J1 n a0 a1 v1 a2 [])))
set_option maxHeartbeats 4000000 in
theorem F3_ok : ∀ (n : Nat) (a0 : List ((List UInt8) × (List UInt8))) (a1 : List (List UInt8)) (a2 : List (Int)) (r : Bool), F3 n a0 a1 a2 = some r → FnC Try.prog 3 [.sl 2 false (List.map eT38 a0), .sl 1 false (List.map eS a1), .agg (List.map (eI .i64) a2)] (.imm (.bool r))
 | n, a0, a1, a2, r, h => by
  unfold F3 at h
  refine FnC.goX mixed Try.func3 (by kernel_rfl) rfl ?_
  simp only [Try.ntmps3, List.length_cons, List.length_nil, List.replicate, List.cons_append, List.nil_append, Nat.reduceAdd, Nat.reduceSub]
  refine runX_seq ?_
  refine runX_regionC fun C hC => ?_
  try simp -implicitDefEqProofs (maxSteps := 4000000) (disch := first | omega | decide | (simp only [go_sem]; omega)) only [go_sem, ↓reduceIte]
  repeat (with_reducible refine And.intro (by first | assumption | omega | (simp; done) | (simp; omega)) ?_)
  refine toEnd hC ?_
  refine endX_seq ?_
  refine runX_seq ?_
  refine runX_regionC fun C hC => ?_
  obtain ⟨v1, h1, h⟩ := bnd_some h
  try simp -implicitDefEqProofs (maxSteps := 4000000) (disch := first | omega | decide | (simp only [go_sem]; omega)) only [go_sem, ↓reduceIte]
  repeat (with_reducible refine And.intro (by first | assumption | omega | (simp; done) | (simp; omega)) ?_)
  refine callG_X (by first | rfl | (simp only [go_sem]; done) | (simp only [closedL, closedT, Bool.and_true]; exact closedL_map _ (fun _ => by first | rfl | (simp only [go_sem]; done)) _)) (F4_ok n a0 _ h1) (by repeat (first | exact leL_refl _ | refine leL_cons (by first | exact leT_refl _ | exact leT_virt | exact leT_junk _ | exact leT_sl | exact leT_sln | exact leT_nil | (refine leT_agg (by repeat (first | exact leL_refl _ | refine leL_cons (by first | exact leT_refl _ | exact leT_sl | exact leT_sln | exact leT_nil) ?_)))) ?_)) ?_
  try simp -implicitDefEqProofs (maxSteps := 4000000) (disch := first | omega | decide | (simp only [go_sem]; omega)) only [go_sem, ↓reduceIte]
  repeat (with_reducible refine And.intro (by first | assumption | omega | (simp; done) | (simp; omega)) ?_)
  refine toEnd hC ?_
  refine endX_seq ?_
  refine runX_seq ?_
  refine runX_seq ?_
  refine runX_regionC fun C hC => ?_
  try simp -implicitDefEqProofs (maxSteps := 4000000) (disch := first | omega | decide | (simp only [go_sem]; omega)) only [go_sem, ↓reduceIte]
  repeat (with_reducible refine And.intro (by first | assumption | omega | (simp; done) | (simp; omega)) ?_)
  rcases iteB_some h with ⟨c2, h⟩ | ⟨c2, h⟩
  ·refine guardK_F c2 ?_
   try simp -implicitDefEqProofs (maxSteps := 4000000) (disch := first | omega | decide | (simp only [go_sem]; omega)) only [go_sem, ↓reduceIte]
   repeat (with_reducible refine And.intro (by first | assumption | omega | (simp; done) | (simp; omega)) ?_)
   refine toEnd hC ?_
   refine endX_seq ?_
   refine runX_condT rfl rfl ?_
   refine runX_seq ?_
   refine runX_regionC fun C hC => ?_
   try simp -implicitDefEqProofs (maxSteps := 4000000) (disch := first | omega | decide | (simp only [go_sem]; omega)) only [go_sem, ↓reduceIte]
   repeat (with_reducible refine And.intro (by first | assumption | omega | (simp; done) | (simp; omega)) ?_)
   refine toEnd hC ?_
   refine endX_seq ?_
   refine runX_ret ?_
   refine endX_seqR ?_
   refine endX_q ?_
   obtain rfl := Option.some.inj h
   show RetW _ _ _ _ _
   simp only [RetW]
   (try simp -implicitDefEqProofs (maxSteps := 4000000) (disch := first | omega | decide | (simp only [go_sem]; omega)) only [go_sem, ↓reduceIte])
   (try simp (disch := omega) only [if_pos, Nat.sub_zero])
   exact leT_refl _
  ·refine guardK_T c2 ?_
   try simp -implicitDefEqProofs (maxSteps := 4000000) (disch := first | omega | decide | (simp only [go_sem]; omega)) only [go_sem, ↓reduceIte]
   repeat (with_reducible refine And.intro (by first | assumption | omega | (simp; done) | (simp; omega)) ?_)
   refine toEnd hC ?_
   refine endX_seq ?_
   rcases iteB_some h with ⟨c3, h⟩ | ⟨c3, h⟩
   ·refine runX_condT rfl c3 ?_
    refine runX_seq ?_
    refine runX_regionC fun C hC => ?_
    try simp -implicitDefEqProofs (maxSteps := 4000000) (disch := first | omega | decide | (simp only [go_sem]; omega)) only [go_sem, ↓reduceIte]
    repeat (with_reducible refine And.intro (by first | assumption | omega | (simp; done) | (simp; omega)) ?_)
    refine toEnd hC ?_
    refine endX_seq ?_
    refine runX_ret ?_
    refine endX_seqR ?_
    refine endX_q ?_
    obtain rfl := Option.some.inj h
    show RetW _ _ _ _ _
    simp only [RetW]
    (try simp -implicitDefEqProofs (maxSteps := 4000000) (disch := first | omega | decide | (simp only [go_sem]; omega)) only [go_sem, ↓reduceIte])
    (try simp (disch := omega) only [if_pos, Nat.sub_zero])
    exact leT_refl _
   ·refine runX_condF rfl c3 ?_
    refine runX_skip ?_
    refine endX_seq ?_
    refine runX_seq ?_
    refine runX_regionC fun C hC => ?_
    try simp -implicitDefEqProofs (maxSteps := 4000000) (disch := first | omega | decide | (simp only [go_sem]; omega)) only [go_sem, ↓reduceIte]
    repeat (with_reducible refine And.intro (by first | assumption | omega | (simp; done) | (simp; omega)) ?_)
    refine toEnd hC ?_
    refine endX_seq ?_
    refine runX_meet [0, 1, 5, 7, 9] (fun S => ∃ (x6 : List UInt8), S = F3_S1 a0 a1 v1 a2 x6 ∧ F3_J1 n a0 a1 v1 a2 x6 = some r) ?_ ?_
    ·refine runX_seq ?_
     refine runX_regionC fun C hC => ?_
     try simp -implicitDefEqProofs (maxSteps := 4000000) (disch := first | omega | decide | (simp only [go_sem]; omega)) only [go_sem, ↓reduceIte]
     repeat (with_reducible refine And.intro (by first | assumption | omega | (simp; done) | (simp; omega)) ?_)
     refine toEnd hC ?_
     refine endX_seq ?_
     rcases iteB_some h with ⟨c4, h⟩ | ⟨c4, h⟩
     ·refine runX_condT rfl c4 ?_
      refine runX_regionC fun C hC => ?_
      obtain ⟨g5, h⟩ := grd_some h
      try simp -implicitDefEqProofs (maxSteps := 4000000) (disch := first | omega | decide | (simp only [go_sem]; omega)) only [go_sem, ↓reduceIte]
      repeat (with_reducible refine And.intro (by first | assumption | omega | (simp; done) | (simp; omega)) ?_)
      refine toEnd hC ?_
      refine endX_q (meetQ_normal ⟨F3_S1 a0 a1 v1 a2 (a1.getD (0 : Int).toNat default), ?_, (a1.getD (0 : Int).toNat default), rfl, h⟩)
      simp only [F3_S1]
      (try simp -implicitDefEqProofs (maxSteps := 4000000) (disch := first | omega | decide | (simp only [go_sem]; omega)) only [go_sem, ↓reduceIte])
      first | exact leS_refl _ | (refine leS_le ?_ ?_ <;> first | exact leL_refl _ | exact leOs_refl _ | (simp only [List.append_assoc, List.cons_append, List.nil_append]; exact leOs_refl _) | (refine leOs.cons (by first | exact leO.same _ | (refine leO.box (leT_agg (by repeat (first | exact leL_refl _ | refine leL_cons (by first | exact leT_refl _ | exact leT_virt | exact leT_junk _ | exact leT_sl | exact leT_sln | exact leT_nil | (refine leT_agg (by repeat (first | exact leL_refl _ | refine leL_cons (by first | exact leT_refl _ | exact leT_sl | exact leT_sln | exact leT_nil) ?_)))) ?_))) rfl) | (refine leO.box (by first | exact leT_virt | exact leT_sl | exact leT_sln) rfl)) ?_; repeat (first | exact leOs_refl _ | refine leOs.cons (by first | exact leO.same _ | (refine leO.box (leT_agg (by repeat (first | exact leL_refl _ | refine leL_cons (by first | exact leT_refl _ | exact leT_virt | exact leT_junk _ | exact leT_sl | exact leT_sln | exact leT_nil | (refine leT_agg (by repeat (first | exact leL_refl _ | refine leL_cons (by first | exact leT_refl _ | exact leT_sl | exact leT_sln | exact leT_nil) ?_)))) ?_))) rfl) | (refine leO.box (by first | exact leT_virt | exact leT_sl | exact leT_sln) rfl)) ?_)) | (repeat (first | exact leL_refl _ | refine leL_cons (by first | exact leT_refl _ | exact leT_virt | exact leT_junk _ | exact leT_sl | exact leT_sln | exact leT_nil | (refine leT_agg (by repeat (first | exact leL_refl _ | refine leL_cons (by first | exact leT_refl _ | exact leT_sl | exact leT_sln | exact leT_nil) ?_)))) ?_)))
     ·refine runX_condF rfl c4 ?_
      refine runX_skip ?_
      refine endX_q (meetQ_normal ⟨F3_S1 a0 a1 v1 a2 [], ?_, [], rfl, h⟩)
      simp only [F3_S1]
      (try simp -implicitDefEqProofs (maxSteps := 4000000) (disch := first | omega | decide | (simp only [go_sem]; omega)) only [go_sem, ↓reduceIte])
      first | exact leS_refl _ | (refine leS_le ?_ ?_ <;> first | exact leL_refl _ | exact leOs_refl _ | (simp only [List.append_assoc, List.cons_append, List.nil_append]; exact leOs_refl _) | (refine leOs.cons (by first | exact leO.same _ | (refine leO.box (leT_agg (by repeat (first | exact leL_refl _ | refine leL_cons (by first | exact leT_refl _ | exact leT_virt | exact leT_junk _ | exact leT_sl | exact leT_sln | exact leT_nil | (refine leT_agg (by repeat (first | exact leL_refl _ | refine leL_cons (by first | exact leT_refl _ | exact leT_sl | exact leT_sln | exact leT_nil) ?_)))) ?_))) rfl) | (refine leO.box (by first | exact leT_virt | exact leT_sl | exact leT_sln) rfl)) ?_; repeat (first | exact leOs_refl _ | refine leOs.cons (by first | exact leO.same _ | (refine leO.box (leT_agg (by repeat (first | exact leL_refl _ | refine leL_cons (by first | exact leT_refl _ | exact leT_virt | exact leT_junk _ | exact leT_sl | exact leT_sln | exact leT_nil | (refine leT_agg (by repeat (first | exact leL_refl _ | refine leL_cons (by first | exact leT_refl _ | exact leT_sl | exact leT_sln | exact leT_nil) ?_)))) ?_))) rfl) | (refine leO.box (by first | exact leT_virt | exact leT_sl | exact leT_sln) rfl)) ?_)) | (repeat (first | exact leL_refl _ | refine leL_cons (by first | exact leT_refl _ | exact leT_virt | exact leT_junk _ | exact leT_sl | exact leT_sln | exact leT_nil | (refine leT_agg (by repeat (first | exact leL_refl _ | refine leL_cons (by first | exact leT_refl _ | exact leT_sl | exact leT_sln | exact leT_nil) ?_)))) ?_)))
    ·clear h
     rintro S ⟨x6, rfl, h⟩
     rw [F3_J1] at h
     simp only [F3_S1]
     refine runX_seq ?_
     refine runX_regionC fun C hC => ?_
     obtain ⟨v7, h7, h⟩ := bnd_some h
     try simp -implicitDefEqProofs (maxSteps := 4000000) (disch := first | omega | decide | (simp only [go_sem]; omega)) only [go_sem, ↓reduceIte]
     repeat (with_reducible refine And.intro (by first | assumption | omega | (simp; done) | (simp; omega)) ?_)
     refine callG_X (by first | rfl | (simp only [go_sem]; done) | (simp only [closedL, closedT, Bool.and_true]; exact closedL_map _ (fun _ => by first | rfl | (simp only [go_sem]; done)) _)) (F5_ok n a0 x6 _ h7) (by repeat (first | exact leL_refl _ | refine leL_cons (by first | exact leT_refl _ | exact leT_virt | exact leT_junk _ | exact leT_sl | exact leT_sln | exact leT_nil | (refine leT_agg (by repeat (first | exact leL_refl _ | refine leL_cons (by first | exact leT_refl _ | exact leT_sl | exact leT_sln | exact leT_nil) ?_)))) ?_)) ?_
     try simp -implicitDefEqProofs (maxSteps := 4000000) (disch := first | omega | decide | (simp only [go_sem]; omega)) only [go_sem, ↓reduceIte]
     repeat (with_reducible refine And.intro (by first | assumption | omega | (simp; done) | (simp; omega)) ?_)
     refine toEnd hC ?_
     refine endX_seq ?_
     refine runX_seq ?_
     refine runX_regionC fun C hC => ?_
     obtain ⟨v8, h8, h⟩ := bnd_some h
     try simp -implicitDefEqProofs (maxSteps := 4000000) (disch := first | omega | decide | (simp only [go_sem]; omega)) only [go_sem, ↓reduceIte]
     repeat (with_reducible refine And.intro (by first | assumption | omega | (simp; done) | (simp; omega)) ?_)
     refine callG_X (by first | rfl | (simp only [go_sem]; done) | (simp only [closedL, closedT, Bool.and_true]; exact closedL_map _ (fun _ => by first | rfl | (simp only [go_sem]; done)) _)) (F6_ok n v1.1 x6 _ h8) (by repeat (first | exact leL_refl _ | refine leL_cons (by first | exact leT_refl _ | exact leT_virt | exact leT_junk _ | exact leT_sl | exact leT_sln | exact leT_nil | (refine leT_agg (by repeat (first | exact leL_refl _ | refine leL_cons (by first | exact leT_refl _ | exact leT_sl | exact leT_sln | exact leT_nil) ?_)))) ?_)) ?_
     try simp -implicitDefEqProofs (maxSteps := 4000000) (disch := first | omega | decide | (simp only [go_sem]; omega)) only [go_sem, ↓reduceIte]
     repeat (with_reducible refine And.intro (by first | assumption | omega | (simp; done) | (simp; omega)) ?_)
     refine toEnd hC ?_
     refine endX_seq ?_
     refine runX_seq ?_
     refine runX_regionC fun C hC => ?_
     obtain ⟨g9, h⟩ := grd_some h
     obtain ⟨g10, h⟩ := grd_some h
     obtain ⟨v11, h11, h⟩ := bnd_some h
     try simp -implicitDefEqProofs (maxSteps := 4000000) (disch := first | omega | decide | (simp only [go_sem]; omega)) only [go_sem, ↓reduceIte]
     repeat (with_reducible refine And.intro (by first | assumption | omega | (simp; done) | (simp; omega)) ?_)
     refine callG_X (by first | rfl | (simp only [go_sem]; done) | (simp only [closedL, closedT, Bool.and_true]; exact closedL_map _ (fun _ => by first | rfl | (simp only [go_sem]; done)) _)) (F7_ok n a0 x6 (a2.getD 0 default) (a2.getD 1 default) _ h11) (by repeat (first | exact leL_refl _ | refine leL_cons (by first | exact leT_refl _ | exact leT_virt | exact leT_junk _ | exact leT_sl | exact leT_sln | exact leT_nil | (refine leT_agg (by repeat (first | exact leL_refl _ | refine leL_cons (by first | exact leT_refl _ | exact leT_sl | exact leT_sln | exact leT_nil) ?_)))) ?_)) ?_
     try simp -implicitDefEqProofs (maxSteps := 4000000) (disch := first | omega | decide | (simp only [go_sem]; omega)) only [go_sem, ↓reduceIte]
     repeat (with_reducible refine And.intro (by first | assumption | omega | (simp; done) | (simp; omega)) ?_)
     refine toEnd hC ?_
     refine endX_seq ?_
     refine runX_seq ?_
     refine runX_regionC fun C hC => ?_
     obtain ⟨g12, h⟩ := grd_some h
     obtain ⟨g13, h⟩ := grd_some h
     obtain ⟨v14, h14, h⟩ := bnd_some h
     try simp -implicitDefEqProofs (maxSteps := 4000000) (disch := first | omega | decide | (simp only [go_sem]; omega)) only [go_sem, ↓reduceIte]
     repeat (with_reducible refine And.intro (by first | assumption | omega | (simp; done) | (simp; omega)) ?_)
     refine callG_X (by first | rfl | (simp only [go_sem]; done) | (simp only [closedL, closedT, Bool.and_true]; exact closedL_map _ (fun _ => by first | rfl | (simp only [go_sem]; done)) _)) (F8_ok n v1.1 x6 (a2.getD 0 default) (a2.getD 1 default) _ h14) (by repeat (first | exact leL_refl _ | refine leL_cons (by first | exact leT_refl _ | exact leT_virt | exact leT_junk _ | exact leT_sl | exact leT_sln | exact leT_nil | (refine leT_agg (by repeat (first | exact leL_refl _ | refine leL_cons (by first | exact leT_refl _ | exact leT_sl | exact leT_sln | exact leT_nil) ?_)))) ?_)) ?_
     try simp -implicitDefEqProofs (maxSteps := 4000000) (disch := first | omega | decide | (simp only [go_sem]; omega)) only [go_sem, ↓reduceIte]
     repeat (with_reducible refine And.intro (by first | assumption | omega | (simp; done) | (simp; omega)) ?_)
     refine toEnd hC ?_
     refine endX_seq ?_
     refine runX_seq ?_
     refine runX_regionC fun C hC => ?_
     try simp -implicitDefEqProofs (maxSteps := 4000000) (disch := first | omega | decide | (simp only [go_sem]; omega)) only [go_sem, ↓reduceIte]
     repeat (with_reducible refine And.intro (by first | assumption | omega | (simp; done) | (simp; omega)) ?_)
     rcases iteB_some h with ⟨c15, h⟩ | ⟨c15, h⟩
     ·refine guardK_T c15 ?_
      try simp -implicitDefEqProofs (maxSteps := 4000000) (disch := first | omega | decide | (simp only [go_sem]; omega)) only [go_sem, ↓reduceIte]
      repeat (with_reducible refine And.intro (by first | assumption | omega | (simp; done) | (simp; omega)) ?_)
      rcases iteB_some h with ⟨c16, h⟩ | ⟨c16, h⟩
      ·refine guardK_T c16 ?_
       try simp -implicitDefEqProofs (maxSteps := 4000000) (disch := first | omega | decide | (simp only [go_sem]; omega)) only [go_sem, ↓reduceIte]
       repeat (with_reducible refine And.intro (by first | assumption | omega | (simp; done) | (simp; omega)) ?_)
       rcases iteB_some h with ⟨c17, h⟩ | ⟨c17, h⟩
       ·refine guardK_T c17 ?_
        try simp -implicitDefEqProofs (maxSteps := 4000000) (disch := first | omega | decide | (simp only [go_sem]; omega)) only [go_sem, ↓reduceIte]
        repeat (with_reducible refine And.intro (by first | assumption | omega | (simp; done) | (simp; omega)) ?_)
        rcases iteB_some h with ⟨c18, h⟩ | ⟨c18, h⟩
        ·refine guardK_T c18 ?_
         obtain ⟨v19, h19, h⟩ := bnd_some h
         try simp -implicitDefEqProofs (maxSteps := 4000000) (disch := first | omega | decide | (simp only [go_sem]; omega)) only [go_sem, ↓reduceIte]
         repeat (with_reducible refine And.intro (by first | assumption | omega | (simp; done) | (simp; omega)) ?_)
         refine callG_X (by first | rfl | (simp only [go_sem]; done) | (simp only [closedL, closedT, Bool.and_true]; exact closedL_map _ (fun _ => by first | rfl | (simp only [go_sem]; done)) _)) (F9_ok n a0 _ h19) (by repeat (first | exact leL_refl _ | refine leL_cons (by first | exact leT_refl _ | exact leT_virt | exact leT_junk _ | exact leT_sl | exact leT_sln | exact leT_nil | (refine leT_agg (by repeat (first | exact leL_refl _ | refine leL_cons (by first | exact leT_refl _ | exact leT_sl | exact leT_sln | exact leT_nil) ?_)))) ?_)) ?_
         obtain ⟨v20, h20, h⟩ := bnd_some h
         try simp -implicitDefEqProofs (maxSteps := 4000000) (disch := first | omega | decide | (simp only [go_sem]; omega)) only [go_sem, ↓reduceIte]
         repeat (with_reducible refine And.intro (by first | assumption | omega | (simp; done) | (simp; omega)) ?_)
         refine callG_X (by first | rfl | (simp only [go_sem]; done) | (simp only [closedL, closedT, Bool.and_true]; exact closedL_map _ (fun _ => by first | rfl | (simp only [go_sem]; done)) _)) (F10_ok n v1.1 _ h20) (by repeat (first | exact leL_refl _ | refine leL_cons (by first | exact leT_refl _ | exact leT_virt | exact leT_junk _ | exact leT_sl | exact leT_sln | exact leT_nil | (refine leT_agg (by repeat (first | exact leL_refl _ | refine leL_cons (by first | exact leT_refl _ | exact leT_sl | exact leT_sln | exact leT_nil) ?_)))) ?_)) ?_
         try simp -implicitDefEqProofs (maxSteps := 4000000) (disch := first | omega | decide | (simp only [go_sem]; omega)) only [go_sem, ↓reduceIte]
         repeat (with_reducible refine And.intro (by first | assumption | omega | (simp; done) | (simp; omega)) ?_)
         rcases iteB_some h with ⟨c21, h⟩ | ⟨c21, h⟩
         ·refine guardK_T c21 ?_
          obtain ⟨v22, h22, h⟩ := bnd_some h
          try simp -implicitDefEqProofs (maxSteps := 4000000) (disch := first | omega | decide | (simp only [go_sem]; omega)) only [go_sem, ↓reduceIte]
          repeat (with_reducible refine And.intro (by first | assumption | omega | (simp; done) | (simp; omega)) ?_)
          refine callG_X (by first | rfl | (simp only [go_sem]; done) | (simp only [closedL, closedT, Bool.and_true]; exact closedL_map _ (fun _ => by first | rfl | (simp only [go_sem]; done)) _)) (F11_ok n a0 a1 _ h22) (by repeat (first | exact leL_refl _ | refine leL_cons (by first | exact leT_refl _ | exact leT_virt | exact leT_junk _ | exact leT_sl | exact leT_sln | exact leT_nil | (refine leT_agg (by repeat (first | exact leL_refl _ | refine leL_cons (by first | exact leT_refl _ | exact leT_sl | exact leT_sln | exact leT_nil) ?_)))) ?_)) ?_
          obtain ⟨v23, h23, h⟩ := bnd_some h
          try simp -implicitDefEqProofs (maxSteps := 4000000) (disch := first | omega | decide | (simp only [go_sem]; omega)) only [go_sem, ↓reduceIte]
          repeat (with_reducible refine And.intro (by first | assumption | omega | (simp; done) | (simp; omega)) ?_)
          refine callG_X (by first | rfl | (simp only [go_sem]; done) | (simp only [closedL, closedT, Bool.and_true]; exact closedL_map _ (fun _ => by first | rfl | (simp only [go_sem]; done)) _)) (F12_ok n v1.1 a1 _ h23) (by repeat (first | exact leL_refl _ | refine leL_cons (by first | exact leT_refl _ | exact leT_virt | exact leT_junk _ | exact leT_sl | exact leT_sln | exact leT_nil | (refine leT_agg (by repeat (first | exact leL_refl _ | refine leL_cons (by first | exact leT_refl _ | exact leT_sl | exact leT_sln | exact leT_nil) ?_)))) ?_)) ?_
          try simp -implicitDefEqProofs (maxSteps := 4000000) (disch := first | omega | decide | (simp only [go_sem]; omega)) only [go_sem, ↓reduceIte]
          repeat (with_reducible refine And.intro (by first | assumption | omega | (simp; done) | (simp; omega)) ?_)
          rcases iteB_some h with ⟨c24, h⟩ | ⟨c24, h⟩
          ·refine guardK_T c24 ?_
           try simp -implicitDefEqProofs (maxSteps := 4000000) (disch := first | omega | decide | (simp only [go_sem]; omega)) only [go_sem, ↓reduceIte]
           repeat (with_reducible refine And.intro (by first | assumption | omega | (simp; done) | (simp; omega)) ?_)
           refine bldG_of [.imm (.string (bs ([98] : List UInt8))), .imm (.string (bs []))] (by kernel_rfl) ?_
           try simp -implicitDefEqProofs (maxSteps := 4000000) (disch := first | omega | decide | (simp only [go_sem]; omega)) only [go_sem, ↓reduceIte]
           repeat (with_reducible refine And.intro (by first | assumption | omega | (simp; done) | (simp; omega)) ?_)
           refine bldG_of [.imm (.string (bs ([97] : List UInt8))), .imm (.string (bs ([49] : List UInt8)))] (by kernel_rfl) ?_
           try simp -implicitDefEqProofs (maxSteps := 4000000) (disch := first | omega | decide | (simp only [go_sem]; omega)) only [go_sem, ↓reduceIte]
           repeat (with_reducible refine And.intro (by first | assumption | omega | (simp; done) | (simp; omega)) ?_)
           refine bs_go <| buildX_val ?_
           obtain ⟨v25, h25, h⟩ := bnd_some h
           try simp -implicitDefEqProofs (maxSteps := 4000000) (disch := first | omega | decide | (simp only [go_sem]; omega)) only [go_sem, ↓reduceIte]
           repeat (with_reducible refine And.intro (by first | assumption | omega | (simp; done) | (simp; omega)) ?_)
           refine callG_X (by first | rfl | (simp only [go_sem]; done) | (simp only [closedL, closedT, Bool.and_true]; exact closedL_map _ (fun _ => by first | rfl | (simp only [go_sem]; done)) _)) (F9_ok n ([(([98] : List UInt8), []), (([97] : List UInt8), ([49] : List UInt8))]) _ h25) (by repeat (first | exact leL_refl _ | refine leL_cons (by first | exact leT_refl _ | exact leT_sl | exact leT_sln | (refine leT_slX (by repeat (first | exact leE_refl _ | refine leE_cons (by first | exact leT_refl _ | exact leT_sl | (refine leT_agg (by repeat (first | exact leL_refl _ | refine leL_cons (by first | exact leT_refl _ | exact leT_sl | exact leT_sln) ?_)))) ?_)) rfl) | (refine leT_agg (by repeat (first | exact leL_refl _ | refine leL_cons (by first | exact leT_refl _ | exact leT_sl | exact leT_sln | (refine leT_slX (by repeat (first | exact leE_refl _ | refine leE_cons (by first | exact leT_refl _ | exact leT_sl | (refine leT_agg (by repeat (first | exact leL_refl _ | refine leL_cons (by first | exact leT_refl _ | exact leT_sl | exact leT_sln) ?_)))) ?_)) rfl)) ?_)))) ?_)) ?_
           try simp -implicitDefEqProofs (maxSteps := 4000000) (disch := first | omega | decide | (simp only [go_sem]; omega)) only [go_sem, ↓reduceIte]
           repeat (with_reducible refine And.intro (by first | assumption | omega | (simp; done) | (simp; omega)) ?_)
           refine toEnd hC ?_
           refine endX_seq ?_
           refine runX_ret ?_
           refine endX_q ?_
           obtain rfl := Option.some.inj h
           show RetW _ _ _ _ _
           simp only [RetW]
           (try simp -implicitDefEqProofs (maxSteps := 4000000) (disch := first | omega | decide | (simp only [go_sem]; omega)) only [go_sem, ↓reduceIte])
           (try simp (disch := omega) only [if_pos, Nat.sub_zero])
           exact leT_refl _
          ·refine guardK_F c24 ?_
           try simp -implicitDefEqProofs (maxSteps := 4000000) (disch := first | omega | decide | (simp only [go_sem]; omega)) only [go_sem, ↓reduceIte]
           repeat (with_reducible refine And.intro (by first | assumption | omega | (simp; done) | (simp; omega)) ?_)
           refine toEnd hC ?_
           refine endX_seq ?_
           refine runX_ret ?_
           refine endX_q ?_
           obtain rfl := Option.some.inj h
           show RetW _ _ _ _ _
           simp only [RetW]
           (try simp -implicitDefEqProofs (maxSteps := 4000000) (disch := first | omega | decide | (simp only [go_sem]; omega)) only [go_sem, ↓reduceIte])
           (try simp (disch := omega) only [if_pos, Nat.sub_zero])
           exact leT_refl _
         ·refine guardK_F c21 ?_
          try simp -implicitDefEqProofs (maxSteps := 4000000) (disch := first | omega | decide | (simp only [go_sem]; omega)) only [go_sem, ↓reduceIte]
          repeat (with_reducible refine And.intro (by first | assumption | omega | (simp; done) | (simp; omega)) ?_)
          refine toEnd hC ?_
          refine endX_seq ?_
          refine runX_ret ?_
          refine endX_q ?_
          obtain rfl := Option.some.inj h
          show RetW _ _ _ _ _
          simp only [RetW]
          (try simp -implicitDefEqProofs (maxSteps := 4000000) (disch := first | omega | decide | (simp only [go_sem]; omega)) only [go_sem, ↓reduceIte])
          (try simp (disch := omega) only [if_pos, Nat.sub_zero])
          exact leT_refl _
        ·refine guardK_F c18 ?_
         try simp -implicitDefEqProofs (maxSteps := 4000000) (disch := first | omega | decide | (simp only [go_sem]; omega)) only [go_sem, ↓reduceIte]
         repeat (with_reducible refine And.intro (by first | assumption | omega | (simp; done) | (simp; omega)) ?_)
         refine toEnd hC ?_
         refine endX_seq ?_
         refine runX_ret ?_
         refine endX_q ?_
         obtain rfl := Option.some.inj h
         show RetW _ _ _ _ _
         simp only [RetW]
         (try simp -implicitDefEqProofs (maxSteps := 4000000) (disch := first | omega | decide | (simp only [go_sem]; omega)) only [go_sem, ↓reduceIte])
         (try simp (disch := omega) only [if_pos, Nat.sub_zero])
         exact leT_refl _
       ·refine guardK_F c17 ?_
        try simp -implicitDefEqProofs (maxSteps := 4000000) (disch := first | omega | decide | (simp only [go_sem]; omega)) only [go_sem, ↓reduceIte]
        repeat (with_reducible refine And.intro (by first | assumption | omega | (simp; done) | (simp; omega)) ?_)
        refine toEnd hC ?_
        refine endX_seq ?_
        refine runX_ret ?_
        refine endX_q ?_
        obtain rfl := Option.some.inj h
        show RetW _ _ _ _ _
        simp only [RetW]
        (try simp -implicitDefEqProofs (maxSteps := 4000000) (disch := first | omega | decide | (simp only [go_sem]; omega)) only [go_sem, ↓reduceIte])
        (try simp (disch := omega) only [if_pos, Nat.sub_zero])
        exact leT_refl _
      ·refine guardK_F c16 ?_
       try simp -implicitDefEqProofs (maxSteps := 4000000) (disch := first | omega | decide | (simp only [go_sem]; omega)) only [go_sem, ↓reduceIte]
       repeat (with_reducible refine And.intro (by first | assumption | omega | (simp; done) | (simp; omega)) ?_)
       refine toEnd hC ?_
       refine endX_seq ?_
       refine runX_ret ?_
       refine endX_q ?_
       obtain rfl := Option.some.inj h
       show RetW _ _ _ _ _
       simp only [RetW]
       (try simp -implicitDefEqProofs (maxSteps := 4000000) (disch := first | omega | decide | (simp only [go_sem]; omega)) only [go_sem, ↓reduceIte])
       (try simp (disch := omega) only [if_pos, Nat.sub_zero])
       exact leT_refl _
     ·refine guardK_F c15 ?_
      try simp -implicitDefEqProofs (maxSteps := 4000000) (disch := first | omega | decide | (simp only [go_sem]; omega)) only [go_sem, ↓reduceIte]
      repeat (with_reducible refine And.intro (by first | assumption | omega | (simp; done) | (simp; omega)) ?_)
      refine toEnd hC ?_
      refine endX_seq ?_
      refine runX_ret ?_
      refine endX_q ?_
      obtain rfl := Option.some.inj h
      show RetW _ _ _ _ _
      simp only [RetW]
      (try simp -implicitDefEqProofs (maxSteps := 4000000) (disch := first | omega | decide | (simp only [go_sem]; omega)) only [go_sem, ↓reduceIte])
      (try simp (disch := omega) only [if_pos, Nat.sub_zero])
      exact leT_refl _
end Go.Proofs.YtdaojihnaajfeaaX

/- Shapes of arguments, as plain values. Of no program. -/
set_option linter.unusedVariables false
namespace Go.Proofs.YtdaojihnaajfeaaX
open Go Go.RowKit
theorem RepR.le {E : Env} {sz : Nat} : ∀ {l l' : List T} {c : List Value}, l.length = l'.length → (∀ i, leT anyE (l.getD i .junk) (l'.getD i .junk)) → RepR E sz l c → RepR E sz l' c
  | [], [], c, _, _, h => h
  | x :: l, y :: l', c, hl, hi, h => by
    simp only [RepR] at h ⊢
    obtain ⟨u, c', h1, h2, h3, h4⟩ := h
    exact ⟨u, c', h1, h2, by simpa using hi 0 E true u trivial (by simpa using h3), RepR.le (by simpa using hl) (fun i => by simpa using hi (i + 1)) h4⟩
  | [], _ :: _, c, hl, _, _ => by simp at hl
  | _ :: _, [], c, hl, _, _ => by simp at hl
theorem leT_slE {sz : Nat} {f : Bool} {l l' : List T} (hl : l.length = l'.length) (h : ∀ i, leT anyE (l.getD i .junk) (l'.getD i .junk)) : leT anyE (.sl sz f l) (.sl sz false l') := fun E cl v hp k => by
  simp only [Rep] at k ⊢
  obtain ⟨a, cap, c, h1, h2, h3, h4, h5⟩ := k
  exact ⟨a, cap, c, by rw [h1, hl], by rw [← hl]; exact h2, (fun h => by cases h), RepR.le hl h h4, h5⟩
theorem elems_shape {α : Type} (enc : α → T) (ok : α → Prop) : ∀ (l : List T), (∀ y ∈ l, ∃ v, leT anyE y (enc v) ∧ ok v) → ∃ vs : List α, vs.length = l.length ∧ (∀ i, leT anyE (l.getD i .junk) ((vs.map enc).getD i .junk)) ∧ ∀ v ∈ vs, ok v
  | [], _ => ⟨[], rfl, fun i => by simp [leT_refl], fun v hv => by simp at hv⟩
  | y :: l, h => by
    obtain ⟨v, h1, h2⟩ := h y (by simp)
    obtain ⟨vs, h3, h4, h5⟩ := elems_shape enc ok l fun z hz => h z (by simp [hz])
    refine ⟨v :: vs, by simp [h3], fun i => ?_, fun w hw => ?_⟩
    · cases i with
      | zero => simpa using h1
      | succ i => simpa using h4 i
    · rcases List.mem_cons.1 hw with rfl | hw
      · exact h2
      · exact h5 w hw
theorem sl_shape {α : Type} (enc : α → T) (ok : α → Prop) (l : List T) (h : ∀ y ∈ l, ∃ v, leT anyE y (enc v) ∧ ok v) {sz : Nat} {f : Bool} : ∃ vs : List α, leT anyE (.sl sz f l) (.sl sz false (vs.map enc)) ∧ vs.length = l.length ∧ ∀ v ∈ vs, ok v := by
  obtain ⟨vs, h1, h2, h3⟩ := elems_shape enc ok l h
  exact ⟨vs, leT_slE (by simp [h1]) h2, h1, h3⟩
theorem arr_shape {α : Type} (enc : α → T) (ok : α → Prop) : ∀ (l : List T), (∀ y ∈ l, ∃ v, y = enc v ∧ T.cells y = [y] ∧ ok v) → ∃ vs : List α, l.flatMap T.cells = vs.map enc ∧ vs.length = l.length ∧ ∀ v ∈ vs, ok v
  | [], _ => ⟨[], rfl, rfl, fun v hv => by simp at hv⟩
  | y :: l, h => by
    obtain ⟨v, rfl, hc, h2⟩ := h y (by simp)
    obtain ⟨vs, h3, h4, h5⟩ := arr_shape enc ok l fun z hz => h z (by simp [hz])
    refine ⟨v :: vs, by rw [List.flatMap_cons, hc, h3]; rfl, by simp [h4], fun w hw => ?_⟩
    rcases List.mem_cons.1 hw with rfl | hw
    · exact h2
    · exact h5 w hw
end Go.Proofs.YtdaojihnaajfeaaX

set_option linter.unusedVariables false
set_option linter.unusedSimpArgs false
namespace Go.Proofs.YtdaojihnaajfeaaX
open Go Go.RowKit Go.Proofs
set_option maxRecDepth 100000
def okT9 (v : List UInt8) : Prop := v.length ≤ 9223372036854775807
def okT38 (v : (List UInt8) × (List UInt8)) : Prop := okT9 v.1 ∧ okT9 v.2
def okT22 (v : List ((List UInt8) × (List UInt8))) : Prop := v.length ≤ 9223372036854775807 ∧ ∀ y ∈ v, okT38 y
def okT23 (v : List (List UInt8)) : Prop := v.length ≤ 9223372036854775807 ∧ ∀ y ∈ v, okT9 y
def okT3 (v : Int) : Prop := (-9223372036854775808 : Int) ≤ v ∧ v ≤ 9223372036854775807
def okT24 (v : List (Int)) : Prop := v.length = 2 ∧ ∀ y ∈ v, okT3 y
theorem shp9 : ∀ (n : Nat) (x : T), ShapeW Try.prog n 9 x → ∃ v : List UInt8, x = .imm (.string (bs v)) ∧ okT9 v
  | 0, x, h => h.elim
  | n + 1, x, h => by
    simp only [ShapeW, Try.underlying9] at h
    obtain ⟨s, rfl, hs⟩ := h
    exact ⟨s.data.toList, by rw [← of_bs], hs⟩
theorem shp39 : ∀ (n : Nat) (x : T), ShapeW Try.prog n 39 x → ∃ v : (List UInt8) × (List UInt8), leT anyE x (.agg [.imm (.string (bs v.1)), .imm (.string (bs v.2))]) ∧ okT38 v
  | 0, x, h => h.elim
  | n + 1, x, h => by
    simp only [ShapeW, Try.underlying39] at h
    obtain ⟨ys, rfl, hl, hf⟩ := h
    match ys, hl with
    | [y0, y1], _ =>
      have h0 := hf 0 _ y0 rfl rfl
      obtain ⟨v0, rfl, k0⟩ := shp9 n _ h0
      have h1 := hf 1 _ y1 rfl rfl
      obtain ⟨v1, rfl, k1⟩ := shp9 n _ h1
      refine ⟨(v0, v1), leT_agg ?_, k0, k1⟩
      show leL anyE [_, _] _
      exact leL_cons (leT_refl _) (leL_cons (leT_refl _) (leL_nil))
theorem shp22 : ∀ (n : Nat) (x : T), ShapeW Try.prog n 22 x → ∃ (f : Bool) (l : List T) (v : List ((List UInt8) × (List UInt8))), x = .sl 2 f l ∧ leT anyE x (.sl 2 false (List.map eT38 v)) ∧ okT22 v
  | 0, x, h => h.elim
  | n + 1, x, h => by
    simp only [ShapeW, Try.underlying22] at h
    obtain ⟨f, l, rfl, hl, he⟩ := h
    rw [cz39]
    obtain ⟨v, h1, h2, h3⟩ := sl_shape eT38 okT38 l fun y hy => (by
      obtain ⟨v, hv, hk⟩ := shp39 n y (he y hy)
      exact ⟨v, hv, hk⟩)
    exact ⟨f, l, v, rfl, h1, by rw [h2]; exact hl, h3⟩
theorem shp23 : ∀ (n : Nat) (x : T), ShapeW Try.prog n 23 x → ∃ (f : Bool) (l : List T) (v : List (List UInt8)), x = .sl 1 f l ∧ leT anyE x (.sl 1 false (List.map eS v)) ∧ okT23 v
  | 0, x, h => h.elim
  | n + 1, x, h => by
    simp only [ShapeW, Try.underlying23] at h
    obtain ⟨f, l, rfl, hl, he⟩ := h
    rw [cz9]
    obtain ⟨v, h1, h2, h3⟩ := sl_shape eS okT9 l fun y hy => (by
      obtain ⟨v, hv, hk⟩ := shp9 n y (he y hy)
      exact ⟨v, leT_of hv, hk⟩)
    exact ⟨f, l, v, rfl, h1, by rw [h2]; exact hl, h3⟩
theorem shp3 : ∀ (n : Nat) (x : T), ShapeW Try.prog n 3 x → ∃ v : Int, x = .imm (.int .i64 v) ∧ okT3 v
  | 0, x, h => h.elim
  | n + 1, x, h => by
    simp only [ShapeW, Try.underlying3] at h
    obtain ⟨i, rfl, hi⟩ := h
    exact ⟨i, rfl, wf_of hi⟩
theorem shp24 : ∀ (n : Nat) (x : T), ShapeW Try.prog n 24 x → ∃ v : List (Int), x = .agg (List.map (eI .i64) v) ∧ okT24 v
  | 0, x, h => h.elim
  | n + 1, x, h => by
    simp only [ShapeW, Try.underlying24] at h
    obtain ⟨ys, rfl, hl, he⟩ := h
    obtain ⟨v, h1, h2, h3⟩ := arr_shape (eI .i64) okT3 ys fun y hy => (by
      obtain ⟨v, hv, hk⟩ := shp3 n y (he y hy)
      exact ⟨v, hv, by rw [hv]; rfl, hk⟩)
    exact ⟨v, by rw [h1], by rw [h2]; exact hl, h3⟩
theorem shapedQueryTells (main : ∀ (v0 : List ((List UInt8) × (List UInt8))) (v1 : List (List UInt8)) (v2 : List (Int)), okT22 v0 → okT23 v1 → okT24 v2 → ∃ n, F3 n v0 v1 v2 = some true) (xs : List T) (h : ShapesW Try.prog [22, 23, 24] xs) : FnC Try.prog 3 xs (tb true) := by
  obtain ⟨x0, xs0, rfl, ⟨n0, h0⟩, x1, xs1, rfl, ⟨n1, h1⟩, x2, xs2, rfl, ⟨n2, h2⟩, rfl⟩ := h
  obtain ⟨_, _, v0, _, e0, k0⟩ := shp22 _ _ h0
  obtain ⟨_, _, v1, _, e1, k1⟩ := shp23 _ _ h1
  obtain ⟨v2, rfl, k2⟩ := shp24 _ _ h2
  obtain ⟨N, hN⟩ := main v0 v1 v2 k0 k1 k2
  exact (F3_ok N v0 v1 v2 true hN).le (leL_cons (e0) (leL_cons (e1) (leL_cons (leT_refl _) (leL_nil)))) (leT_refl _)
end Go.Proofs.YtdaojihnaajfeaaX

/- Plain functions with fuel: what they come to. Of no program. -/
set_option linter.unusedVariables false
set_option linter.unusedSimpArgs false
namespace Go.Proofs.YtdaojihnaajfeaaX
open Go
def Ev {α : Type} (f : Nat → Option α) (r : α) : Prop := ∃ N, ∀ n, N ≤ n → f n = some r
theorem Ev.pure {α : Type} {r : α} : Ev (fun _ => some r) r := ⟨0, fun _ _ => rfl⟩
theorem Ev.bind {α β : Type} {f : Nat → Option α} {g : Nat → α → Option β} {v : α} {r : β} (h : Ev f v) (h' : Ev (fun n => g n v) r) : Ev (fun n => (f n).bind (g n)) r := by
  obtain ⟨N, h⟩ := h
  obtain ⟨M, h'⟩ := h'
  exact ⟨max N M, fun n hn => by show (f n).bind (g n) = _; rw [h n (by omega)]; exact h' n (by omega)⟩
theorem Ev.step {α : Type} {f : Nat → Option α} {r : α} (h : Ev (fun n => f (n + 1)) r) : Ev f r := by
  obtain ⟨N, h⟩ := h
  refine ⟨N + 1, fun n hn => ?_⟩
  obtain ⟨m, rfl⟩ : ∃ m, n = m + 1 := ⟨n - 1, by omega⟩
  exact h m (by omega)
theorem Ev.congr {α : Type} {f g : Nat → Option α} {r : α} (h : Ev g r) (e : ∀ n, f n = g n) : Ev f r := by
  obtain ⟨N, h⟩ := h
  exact ⟨N, fun n hn => (e n).trans (h n hn)⟩
theorem iteB_t {α : Type} (x y : Option α) : iteB true x y = x := rfl
theorem iteB_f {α : Type} (x y : Option α) : iteB false x y = y := rfl
theorem grd_t {α : Type} {p : Prop} [Decidable p] (x : Option α) (h : p) : grd p x = x := if_pos h
theorem bind_some' {α β : Type} (v : α) (g : α → Option β) : (some v).bind g = g v := rfl
theorem w64 {n : Int} (h : -9223372036854775808 ≤ n ∧ n ≤ 9223372036854775807) : IntKind.wrap .i64 n = n := Go.IntWalk.i64_in _ h
theorem wu8 {n : Int} (h : 0 ≤ n ∧ n ≤ 255) : IntKind.wrap .u8 n = n := Go.IntWalk.u8_in _ h
theorem u8_lt (a : UInt8) : (0 : Int) ≤ (a.toNat : Int) ∧ (a.toNat : Int) ≤ 255 := by
  have := a.toNat_lt; omega
theorem drop_cons {α : Type} (l : List α) (i : Nat) (d : α) (h : i < l.length) : l.drop i = l.getD i d :: l.drop (i + 1) := by
  rw [List.drop_eq_getElem_cons h, List.getD_eq_getElem?_getD, List.getElem?_eq_getElem h]; rfl
theorem toNat_nat (n : Nat) : ((n : Int)).toNat = n := rfl
end Go.Proofs.YtdaojihnaajfeaaX

/- hex.ReadDecimal. -/
set_option linter.unusedVariables false
set_option linter.unusedSimpArgs false
namespace Go.Proofs.YtdaojihnaajfeaaX
open Go
def decP : List UInt8 → Int → Int × Bool
  | [], n => (n, true)
  | c :: l, n => if kindOf (c.toNat : Int) = 1 then decP l (n * 10 + ((c.toNat : Int) - 48)) else (0, false)
theorem kind_one {c : Int} (h : kindOf c = 1) : 48 ≤ c ∧ c ≤ 57 := by
  unfold kindOf at h
  split at h
  · assumption
  · split at h
    · omega
    · split at h
      · omega
      · split at h <;> omega
theorem pow10 (i : Nat) (h : i ≤ 17) : 1 ≤ (10 : Int) ^ i ∧ (10 : Int) ^ i ≤ 100000000000000000 ∧ (10 : Int) ^ (i + 1) = 10 ^ i * 10 := by
  have h1 : (10 : Nat) ^ i ≤ 10 ^ 17 := Nat.pow_le_pow_right (by omega) h
  have h2 : 1 ≤ (10 : Nat) ^ i := Nat.pos_of_ne_zero (by simp)
  have h3 : ((10 : Nat) ^ i : Nat) = ((10 : Int) ^ i) := by simp
  refine ⟨by omega, by omega, Int.pow_succ _ _⟩
theorem ev_dec_l (l : List UInt8) (hl : l.length ≤ 18) : ∀ (d i : Nat) (x : Int), i + d = l.length → 0 ≤ x ∧ x < (10 : Int) ^ i → Ev (fun k => F14_L1 k l x (i : Int)) (decP (l.drop i) x) := by
  intro d
  induction d with
  | zero =>
    intro i x hi hx
    rw [List.drop_of_length_le (by omega)]
    refine Ev.step (Ev.pure.congr fun k => ?_)
    rw [F14_L1, decide_eq_false (by omega), iteB_f]; rfl
  | succ d ih =>
    intro i x hi hx
    rw [drop_cons l i 0 (by omega), decP]
    obtain ⟨p1, p2, p3⟩ := pow10 i (by omega)
    have hb := u8_lt (l.getD i 0)
    have w1 : IntKind.wrap .i64 ((i : Int) + 1) = ((i + 1 : Nat) : Int) := by rw [w64 (by omega)]; omega
    generalize hc : l.getD i 0 = c at *
    by_cases hk : kindOf (c.toNat : Int) = 1
    · rw [if_pos hk]
      have hk' := kind_one hk
      have e := ih (i + 1) (x * 10 + ((c.toNat : Int) - 48)) (by omega) (by rw [p3]; omega)
      refine Ev.step (e.congr fun k => ?_)
      rw [F14_L1, decide_eq_true (by omega), iteB_t, grd_t _ (by omega), toNat_nat, hc, F26, bind_some', hk]
      show iteB false _ _ = _
      rw [iteB_f, grd_t _ (by omega), wu8 (by omega), w64 (n := (c.toNat : Int) - 48) (by omega), w64 (n := x * 10) (by omega), w64 (n := x * 10 + _) (by omega), w1]
    · rw [if_neg hk]
      refine Ev.step (Ev.pure.congr fun k => ?_)
      rw [F14_L1, decide_eq_true (by omega), iteB_t, grd_t _ (by omega), toNat_nat, hc, F26, bind_some', show (kindOf (c.toNat : Int) != 1) = true by rw [bne_iff_ne]; exact hk, iteB_t]
def readD (l : List UInt8) : Int × Bool := if l = [] ∨ 18 < l.length then (0, false) else decP l 0
theorem ev_ReadDecimal (l : List UInt8) : Ev (fun k => F14 k l) (readD l) := by
  unfold readD
  cases l with
  | nil => rw [if_pos (Or.inl rfl)]; exact Ev.pure.congr fun k => rfl
  | cons a l =>
    by_cases h : 18 < (a :: l).length
    · rw [if_pos (Or.inr h)]
      refine Ev.pure.congr fun k => ?_
      rw [F14, show ((a :: l) == []) = false by rfl, iteB_f, decide_eq_true (by omega), iteB_t]
    · rw [if_neg (by simp only [reduceCtorEq, false_or]; exact h)]
      have e := ev_dec_l (a :: l) (by omega) (a :: l).length 0 0 (by omega) (by decide)
      refine e.congr fun k => ?_
      rw [F14, show ((a :: l) == []) = false by rfl, iteB_f, decide_eq_false (by omega), iteB_f]; rfl
end Go.Proofs.YtdaojihnaajfeaaX

/- Bytes as numbers. Of no program. -/
set_option linter.unusedVariables false
set_option linter.unusedSimpArgs false
namespace Go.Proofs.YtdaojihnaajfeaaX
open Go
def Bytes (l : List Int) : Prop := ∀ x ∈ l, 0 ≤ x ∧ x ≤ 255
theorem Bytes.cons {a : Int} {r : List Int} (h : 0 ≤ a ∧ a ≤ 255) (hr : Bytes r) : Bytes (a :: r) := by
  intro x hx
  rcases List.mem_cons.1 hx with rfl | hx
  · exact h
  · exact hr x hx
theorem Bytes.head {a : Int} {r : List Int} (h : Bytes (a :: r)) : 0 ≤ a ∧ a ≤ 255 := h a (by simp)
theorem Bytes.drop {l : List Int} (h : Bytes l) (n : Nat) : Bytes (l.drop n) := fun x hx => h x (List.mem_of_mem_drop hx)
theorem Bytes.append {l r : List Int} (h : Bytes l) (h' : Bytes r) : Bytes (l ++ r) := fun x hx => by
  rcases List.mem_append.1 hx with hx | hx
  · exact h x hx
  · exact h' x hx
def bt (s : List UInt8) (i : Nat) : Int := ((s.getD i 0).toNat : Int)
def ints (s : List UInt8) : List Int := s.map ofB
theorem ints_len (s : List UInt8) : (ints s).length = s.length := by simp [ints]
theorem ints_bytes (s : List UInt8) : Bytes (ints s) := by
  intro x hx
  unfold ints at hx
  obtain ⟨c, _, rfl⟩ := List.mem_map.1 hx
  exact u8_lt c
theorem ofB_toB {x : Int} (h : 0 ≤ x ∧ x ≤ 255) : ofB (toB x) = x := by
  unfold ofB toB
  rw [UInt8.toNat_ofNat']
  omega
theorem map_toB_eq {l : List Int} (hl : Bytes l) (t : List UInt8) : (l.map toB == t) = decide (l = ints t) := by
  rw [Bool.eq_iff_iff, beq_iff_eq, decide_eq_true_eq]
  constructor
  · rintro rfl
    unfold ints
    rw [List.map_map]
    conv => lhs; rw [← List.map_id l]
    exact List.map_congr_left fun x hx => (ofB_toB (hl x hx)).symm
  · rintro rfl
    unfold ints
    rw [List.map_map]
    conv => rhs; rw [← List.map_id t]
    refine List.map_congr_left fun x _ => ?_
    show UInt8.ofNat ((x.toNat : Int)).toNat = x
    rw [toNat_nat]; simp
theorem of_ints {s : List UInt8} {l : List Int} (h : ints s = l) : s = l.map toB := by
  have hb : Bytes l := h ▸ ints_bytes s
  have := map_toB_eq hb s
  rw [h, decide_eq_true rfl] at this
  exact (beq_iff_eq.1 this).symm
theorem all_bytes {l : List Int} (h : Bytes l) : (l.all fun x => decide (0 ≤ x) && decide (x < 256)) = true := by
  rw [List.all_eq_true]
  intro x hx
  have := h x hx
  simp only [Bool.and_eq_true, decide_eq_true_eq]
  omega
theorem g64 (i : Nat) (h : i ≤ 1000000000) : IntKind.wrap .i64 ((i : Int) + 1) = ((i + 1 : Nat) : Int) := by rw [w64 (by omega)]; omega
theorem Bytes.getD {l : List Int} (h : Bytes l) (i : Nat) : 0 ≤ l.getD i 0 ∧ l.getD i 0 ≤ 255 := by
  rw [List.getD_eq_getElem?_getD]
  cases e : l[i]? with
  | none => exact ⟨by decide, by decide⟩
  | some x => exact h x (List.mem_of_getElem? e)
theorem Bytes.take {l : List Int} (h : Bytes l) (n : Nat) : Bytes (l.take n) := fun x hx => h x (List.mem_of_mem_take hx)
end Go.Proofs.YtdaojihnaajfeaaX

/- The reference's kinds of bytes. -/
set_option linter.unusedVariables false
set_option linter.unusedSimpArgs false
namespace Go.Proofs.YtdaojihnaajfeaaX
open Go
theorem kind_fin : ∀ c : Fin 256, F27 0 (c.val : Int) = some (kindOf (c.val : Int)) := by decide +kernel
theorem rKind_eq (n : Nat) (c : UInt8) : F27 n (c.toNat : Int) = some (kindOf (c.toNat : Int)) := kind_fin ⟨c.toNat, c.toNat_lt⟩
end Go.Proofs.YtdaojihnaajfeaaX

/- The reference's numbers. -/
set_option linter.unusedVariables false
set_option linter.unusedSimpArgs false
namespace Go.Proofs.YtdaojihnaajfeaaX
open Go
theorem ev_rdec_l (l : List UInt8) (hl : l.length ≤ 18) : ∀ (d i : Nat) (x : Int), i + d = l.length → 0 ≤ x ∧ x < (10 : Int) ^ i → Ev (fun k => F15_L1 k l x (i : Int)) (decP (l.drop i) x) := by
  intro d
  induction d with
  | zero =>
    intro i x hi hx
    rw [List.drop_of_length_le (by omega)]
    refine Ev.step (Ev.pure.congr fun k => ?_)
    rw [F15_L1, decide_eq_false (by omega), iteB_f]; rfl
  | succ d ih =>
    intro i x hi hx
    rw [drop_cons l i 0 (by omega), decP]
    obtain ⟨p1, p2, p3⟩ := pow10 i (by omega)
    have hb := u8_lt (l.getD i 0)
    have w1 : IntKind.wrap .i64 ((i : Int) + 1) = ((i + 1 : Nat) : Int) := by rw [w64 (by omega)]; omega
    generalize hc : l.getD i 0 = c at *
    by_cases hk : kindOf (c.toNat : Int) = 1
    · rw [if_pos hk]
      have hk' := kind_one hk
      have e := ih (i + 1) (x * 10 + ((c.toNat : Int) - 48)) (by omega) (by rw [p3]; omega)
      refine Ev.step (e.congr fun k => ?_)
      have hv : F28 k (c.toNat : Int) = some ((c.toNat : Int) - 48) := by
        rw [F28, rKind_eq, bind_some', hk]
        show iteB true _ _ = _
        rw [iteB_t, wu8 (by omega), w64 (by omega)]
      rw [F15_L1, decide_eq_true (by omega), iteB_t, grd_t _ (by omega), toNat_nat, hc, rKind_eq, bind_some', hk]
      show iteB false _ _ = _
      rw [iteB_f, grd_t _ (by omega), hv, bind_some', w64 (n := x * 10) (by omega), w64 (n := x * 10 + _) (by omega), w1]
    · rw [if_neg hk]
      refine Ev.step (Ev.pure.congr fun k => ?_)
      rw [F15_L1, decide_eq_true (by omega), iteB_t, grd_t _ (by omega), toNat_nat, hc, rKind_eq, bind_some', show (kindOf (c.toNat : Int) != 1) = true by rw [bne_iff_ne]; exact hk, iteB_t]
theorem ev_rReadDecimal (l : List UInt8) : Ev (fun k => F15 k l) (readD l) := by
  unfold readD
  cases l with
  | nil => rw [if_pos (Or.inl rfl)]; exact Ev.pure.congr fun k => rfl
  | cons a l =>
    have hz : (((a :: l).length : Int) == 0) = false := by rw [beq_eq_false_iff_ne, List.length_cons]; omega
    by_cases h : 18 < (a :: l).length
    · rw [if_pos (Or.inr h)]
      refine Ev.pure.congr fun k => ?_
      rw [F15, hz, iteB_f, decide_eq_true (by omega), iteB_t]
    · rw [if_neg (by simp only [reduceCtorEq, false_or]; exact h)]
      have e := ev_rdec_l (a :: l) (by omega) (a :: l).length 0 0 (by omega) (by decide)
      refine e.congr fun k => ?_
      rw [F15, hz, iteB_f, decide_eq_false (by omega), iteB_f]; rfl
end Go.Proofs.YtdaojihnaajfeaaX

/- Words of queries: their values, their numbers, and whether there are no others. -/
set_option linter.unusedVariables false
set_option linter.unusedSimpArgs false
namespace Go.Proofs.YtdaojihnaajfeaaX
open Go
def getT : List (List UInt8 × List UInt8) → List UInt8 → List UInt8 × Bool
  | [], _ => ([], false)
  | p :: l, k => if (p.1 == k) = true then (p.2, true) else getT l k
theorem ev_rGet_l (l : List (List UInt8 × List UInt8)) (key : List UInt8) (hl : l.length ≤ 1000000) : ∀ (k i : Nat), i + k = l.length → Ev (fun n => F6_L1 n l key (i : Int)) (getT (l.drop i) key) := by
  intro k
  induction k with
  | zero =>
    intro i hi
    rw [List.drop_of_length_le (by omega), getT]
    refine Ev.step (Ev.pure.congr fun n => ?_)
    rw [F6_L1, decide_eq_false (by omega), iteB_f]
  | succ k ih =>
    intro i hi
    rw [drop_cons l i default (by omega), getT]
    cases h : ((l.getD i default).1 == key) with
    | true =>
      rw [if_pos rfl]
      refine Ev.step (Ev.pure.congr fun n => ?_)
      rw [F6_L1, decide_eq_true (by omega), iteB_t, grd_t _ (by omega), toNat_nat, h, iteB_t, grd_t _ (by omega)]
    | false =>
      rw [if_neg (by decide)]
      refine Ev.step ((ih (i + 1) (by omega)).congr fun n => ?_)
      rw [F6_L1, decide_eq_true (by omega), iteB_t, grd_t _ (by omega), toNat_nat, h, iteB_f, g64 i (by omega)]
theorem ev_rGet (l : List (List UInt8 × List UInt8)) (key : List UInt8) (hl : l.length ≤ 1000000) : Ev (fun n => F6 n l key) (getT l key) := (ev_rGet_l l key hl l.length 0 (by omega)).congr fun n => rfl
theorem find1_eq (n : Nat) (p : List UInt8 × List UInt8) (key : List UInt8) : F25 n (p.1, p.2) key = some (p.1 == key, key) := rfl
theorem ev_idxF (l : List (List UInt8 × List UInt8)) (key : List UInt8) (hl : l.length ≤ 1000000) : ∀ (k i : Nat), i + k = l.length → ∃ v : Int, Ev (fun n => F26000024_L1 n l (i : Int) key) (v, key) ∧ ((v = -1 ∧ getT (l.drop i) key = ([], false) ∧ (l.drop i).any (fun p => p.1 == key) = false) ∨ ∃ j : Nat, v = (j : Int) ∧ j < l.length ∧ getT (l.drop i) key = ((l.getD j default).2, true) ∧ (l.drop i).any (fun p => p.1 == key) = true) := by
  intro k
  induction k with
  | zero =>
    intro i hi
    refine ⟨-1, Ev.step (Ev.pure.congr fun n => ?_), .inl ⟨rfl, ?_, ?_⟩⟩
    · rw [F26000024_L1, decide_eq_false (by omega), iteB_f]
    · rw [List.drop_of_length_le (by omega), getT]
    · rw [List.drop_of_length_le (by omega)]; rfl
  | succ k ih =>
    intro i hi
    rw [drop_cons l i default (by omega), getT, List.any_cons]
    cases h : ((l.getD i default).1 == key) with
    | true =>
      refine ⟨(i : Int), Ev.step (Ev.pure.congr fun n => ?_), .inr ⟨i, rfl, by omega, by rw [if_pos rfl], by rw [Bool.true_or]⟩⟩
      rw [F26000024_L1, decide_eq_true (by omega), iteB_t, grd_t _ (by omega), toNat_nat, find1_eq, bind_some', h, iteB_t]
    | false =>
      obtain ⟨v, e, hv⟩ := ih (i + 1) (by omega)
      rw [if_neg (by decide), Bool.false_or]
      refine ⟨v, Ev.step (e.congr fun n => ?_), hv⟩
      rw [F26000024_L1, decide_eq_true (by omega), iteB_t, grd_t _ (by omega), toNat_nat, find1_eq, bind_some', h, iteB_f, g64 i (by omega)]
theorem ev_find (l : List (List UInt8 × List UInt8)) (key : List UInt8) (hl : l.length ≤ 1000000) : ∃ v : Int, Ev (fun n => F13 n l key) v ∧ ((v = -1 ∧ getT l key = ([], false) ∧ l.any (fun p => p.1 == key) = false) ∨ ∃ j : Nat, v = (j : Int) ∧ j < l.length ∧ getT l key = ((l.getD j default).2, true) ∧ l.any (fun p => p.1 == key) = true) := by
  obtain ⟨v, e, hv⟩ := ev_idxF l key hl l.length 0 (by omega)
  rw [List.drop_zero] at hv
  refine ⟨v, (e.bind (g := fun n v1 => some v1.1) Ev.pure).congr fun n => ?_, hv⟩
  rw [F13]; rfl
theorem ev_Get (l : List (List UInt8 × List UInt8)) (key : List UInt8) (hl : l.length ≤ 1000000) : Ev (fun n => F5 n l key) (getT l key) := by
  obtain ⟨v, ⟨N, e⟩, hv⟩ := ev_find l key hl
  refine ⟨N, fun n hn => ?_⟩
  have q := e n hn
  dsimp only at q
  show F5 n l key = _
  rw [F5, q, bind_some']
  rcases hv with ⟨rfl, h1, _⟩ | ⟨j, rfl, hj, h1, _⟩
  · rw [h1]; rfl
  · rw [decide_eq_false (by omega), iteB_f, grd_t _ (by omega), toNat_nat, h1]
def numT (g : List UInt8 × Bool) (other most : Int) : Int × Bool := if g.2 = true then (if (readD g.1).2 = true then (if most < (readD g.1).1 then (0, false) else ((readD g.1).1, true)) else (0, false)) else (other, true)
theorem ev_Number (l : List (List UInt8 × List UInt8)) (key : List UInt8) (other most : Int) (hl : l.length ≤ 1000000) : Ev (fun n => F7 n l key other most) (numT (getT l key) other most) ∧ Ev (fun n => F8 n l key other most) (numT (getT l key) other most) := by
  obtain ⟨N1, e1⟩ := ev_Get l key hl
  obtain ⟨N2, e2⟩ := ev_rGet l key hl
  generalize getT l key = g at *
  obtain ⟨N3, e3⟩ := ev_ReadDecimal g.1
  obtain ⟨N4, e4⟩ := ev_rReadDecimal g.1
  constructor
  · refine ⟨N1 + N3, fun n hn => ?_⟩
    have q1 := e1 n (by omega)
    have q3 := e3 n (by omega)
    dsimp only at q1 q3
    show F7 n l key other most = _
    rw [F7, q1, bind_some', q3, bind_some']
    unfold numT
    cases g.2 with
    | false => rfl
    | true =>
      rw [if_pos rfl, Bool.not_true, iteB_f]
      cases (readD g.1).2 with
      | false => rfl
      | true =>
        rw [if_pos rfl, Bool.not_true, iteB_f]
        by_cases h : most < (readD g.1).1
        · rw [decide_eq_true h, iteB_t, if_pos h]
        · rw [decide_eq_false h, iteB_f, if_neg h]
  · refine ⟨N2 + N4, fun n hn => ?_⟩
    have q1 := e2 n (by omega)
    have q3 := e4 n (by omega)
    dsimp only at q1 q3
    show F8 n l key other most = _
    rw [F8, q1, bind_some', q3, bind_some']
    unfold numT
    cases g.2 with
    | false => rfl
    | true =>
      rw [if_pos rfl, Bool.not_true, iteB_f]
      cases (readD g.1).2 with
      | false => rfl
      | true =>
        rw [if_pos rfl, Bool.not_true, iteB_f]
        by_cases h : most < (readD g.1).1
        · rw [decide_eq_true h, iteB_t, if_pos h]
        · rw [decide_eq_false h, iteB_f, if_neg h]
theorem beqc (a b : List UInt8) : (a == b) = (b == a) := by rw [Bool.eq_iff_iff, beq_iff_eq, beq_iff_eq]; exact eq_comm
theorem ev_idx (ws : List (List UInt8)) (key : List UInt8) (hl : ws.length ≤ 1000000) : ∀ (k i : Nat), i + k = ws.length → ∃ v : Int, Ev (fun n => F36_L1 n ws key (i : Int)) v ∧ decide (0 ≤ v) = (ws.drop i).any (fun w => w == key) := by
  intro k
  induction k with
  | zero =>
    intro i hi
    refine ⟨-1, Ev.step (Ev.pure.congr fun n => ?_), ?_⟩
    · rw [F36_L1, decide_eq_false (by omega), iteB_f]
    · rw [List.drop_of_length_le (by omega)]; rfl
  | succ k ih =>
    intro i hi
    rw [drop_cons ws i default (by omega), List.any_cons]
    cases h : (ws.getD i default == key) with
    | true =>
      refine ⟨(i : Int), Ev.step (Ev.pure.congr fun n => ?_), by rw [Bool.true_or]; exact decide_eq_true (by omega)⟩
      rw [F36_L1, decide_eq_true (by omega), iteB_t, grd_t _ (by omega), toNat_nat, beqc, h, iteB_t]
    | false =>
      obtain ⟨v, e, hv⟩ := ih (i + 1) (by omega)
      rw [Bool.false_or]
      refine ⟨v, Ev.step (e.congr fun n => ?_), hv⟩
      rw [F36_L1, decide_eq_true (by omega), iteB_t, grd_t _ (by omega), toNat_nat, beqc, h, iteB_f, g64 i (by omega)]
theorem ev_Contains (ws : List (List UInt8)) (key : List UInt8) (hl : ws.length ≤ 1000000) : Ev (fun n => F23 n ws key) (ws.any fun w => w == key) := by
  obtain ⟨v, e, hv⟩ := ev_idx ws key hl ws.length 0 (by omega)
  rw [List.drop_zero] at hv
  rw [← hv]
  refine (e.bind (g := fun n v1 => some (decide ((0 : Int) ≤ v1))) Ev.pure).congr fun n => ?_
  rw [F23]; rfl
theorem ev_rO3 (l : List (List UInt8 × List UInt8)) (ws : List (List UInt8)) (i : Nat) (hi : i < l.length) (hl : l.length ≤ 1000000) (v : Bool) : ∀ (k j : Nat) (b : Bool), j + k = i → ((b && !(((l.take i).drop j).any fun p => p.1 == (l.getD i default).1)) = true → Ev (fun n => F12_L1 n l ws ((i + 1 : Nat) : Int)) v) → ((b && !(((l.take i).drop j).any fun p => p.1 == (l.getD i default).1)) = false → v = false) → Ev (fun n => F12_L3 n l ws (i : Int) b (j : Int)) v := by
  intro k
  induction k with
  | zero =>
    intro j b hj h1 h2
    rw [List.drop_of_length_le (by rw [List.length_take]; omega)] at h1 h2
    simp only [List.any_nil, Bool.not_false, Bool.and_true] at h1 h2
    cases b with
    | true =>
      refine Ev.step ((h1 rfl).congr fun n => ?_)
      rw [F12_L3, decide_eq_false (by omega), iteB_f, Bool.not_true, iteB_f, g64 i (by omega)]
    | false =>
      rw [h2 rfl]
      refine Ev.step (Ev.pure.congr fun n => ?_)
      rw [F12_L3, decide_eq_false (by omega), iteB_f, Bool.not_false, iteB_t]
  | succ k ih =>
    intro j b hj h1 h2
    have hd : (l.take i).drop j = l.getD j default :: (l.take i).drop (j + 1) := by
      have := drop_cons (l.take i) j default (by rw [List.length_take]; omega)
      rw [this]
      congr 1
      rw [List.getD_eq_getElem?_getD, List.getD_eq_getElem?_getD, List.getElem?_take, if_pos (by omega)]
    rw [hd, List.any_cons] at h1 h2
    cases b with
    | true =>
      refine Ev.step ((ih (j + 1) (!((l.getD j default).1 == (l.getD i default).1)) (by omega) (fun h => h1 ?_) (fun h => h2 ?_)).congr fun n => ?_)
      · rw [Bool.true_and, Bool.not_or]; exact h
      · rw [Bool.true_and, Bool.not_or]; exact h
      · rw [F12_L3, decide_eq_true (by omega), iteB_t, iteB_t, grd_t _ (by omega), grd_t _ (by omega), toNat_nat, toNat_nat, g64 j (by omega)]
    | false =>
      refine Ev.step ((ih (j + 1) false (by omega) (fun h => by cases h) (fun _ => h2 rfl)).congr fun n => ?_)
      rw [F12_L3, decide_eq_true (by omega), iteB_t, iteB_f, g64 j (by omega)]
theorem ev_rO2 (l : List (List UInt8 × List UInt8)) (ws : List (List UInt8)) (i : Nat) (hi : i < l.length) (hw : ws.length ≤ 1000000) (v : Bool) : ∀ (k j : Nat) (b : Bool), j + k = ws.length → Ev (fun n => F12_L3 n l ws (i : Int) (b || (ws.drop j).any fun w => w == (l.getD i default).1) 0) v → Ev (fun n => F12_L2 n l ws (i : Int) b (j : Int)) v := by
  intro k
  induction k with
  | zero =>
    intro j b hj h
    rw [List.drop_of_length_le (by omega), List.any_nil, Bool.or_false] at h
    refine Ev.step (h.congr fun n => ?_)
    rw [F12_L2, decide_eq_false (by omega), iteB_f]
  | succ k ih =>
    intro j b hj h
    rw [drop_cons ws j default (by omega), List.any_cons] at h
    cases b with
    | true =>
      refine Ev.step ((ih (j + 1) true (by omega) (by rw [Bool.true_or] at h ⊢; exact h)).congr fun n => ?_)
      rw [F12_L2, decide_eq_true (by omega), iteB_t, iteB_t, g64 j (by omega)]
    | false =>
      rw [Bool.false_or] at h
      refine Ev.step ((ih (j + 1) (ws.getD j default == (l.getD i default).1) (by omega) h).congr fun n => ?_)
      rw [F12_L2, decide_eq_true (by omega), iteB_t, iteB_f, grd_t _ (by omega), grd_t _ (by omega), toNat_nat, toNat_nat, g64 j (by omega)]
theorem ev_Only_l (l : List (List UInt8 × List UInt8)) (ws : List (List UInt8)) (hl : l.length ≤ 1000000) (hw : ws.length ≤ 1000000) : ∀ (k i : Nat), i + k = l.length → ∃ v, Ev (fun n => F11_L1 n l ws (i : Int)) v ∧ Ev (fun n => F12_L1 n l ws (i : Int)) v := by
  intro k
  induction k with
  | zero =>
    intro i hi
    refine ⟨true, Ev.step (Ev.pure.congr fun n => ?_), Ev.step (Ev.pure.congr fun n => ?_)⟩
    · rw [F11_L1, decide_eq_false (by omega), iteB_f]
    · rw [F12_L1, decide_eq_false (by omega), iteB_f]
  | succ k ih =>
    intro i hi
    obtain ⟨v, e1, e2⟩ := ih (i + 1) (by omega)
    obtain ⟨N1, c1⟩ := ev_Contains ws (l.getD i default).1 hw
    obtain ⟨f, ⟨N2, c2⟩, hf⟩ := ev_find (l.take i) (l.getD i default).1 (by rw [List.length_take]; omega)
    have hf2 : decide ((0 : Int) ≤ f) = (l.take i).any (fun p => p.1 == (l.getD i default).1) := by
      rcases hf with ⟨rfl, _, h⟩ | ⟨j, rfl, _, _, h⟩
      · rw [h]; rfl
      · rw [h]; exact decide_eq_true (by omega)
    obtain ⟨N3, e1⟩ := e1
    have u : ∀ n, N1 + N2 ≤ n → F11_L1 (n + 1) l ws (i : Int) = iteB (!(ws.any fun w => w == (l.getD i default).1)) (some false) (iteB ((l.take i).any (fun p => p.1 == (l.getD i default).1)) (some false) (F11_L1 n l ws ((i + 1 : Nat) : Int))) := by
      intro n hn
      have q1 := c1 n (by omega)
      have q2 := c2 n (by omega)
      dsimp only at q1 q2
      rw [F11_L1, decide_eq_true (by omega), iteB_t, grd_t _ (by omega), toNat_nat, q1, bind_some', grd_t _ (by omega), q2, bind_some', hf2, g64 i (by omega)]
    have r : ∀ v', ((ws.any fun w => w == (l.getD i default).1) && !((l.take i).any fun p => p.1 == (l.getD i default).1)) = true → v' = v → Ev (fun n => F12_L1 n l ws (i : Int)) v' := by
      rintro v' h rfl
      refine Ev.step ((ev_rO2 l ws i (by omega) hw v' ws.length 0 false (by omega) ?_).congr fun n => ?_)
      · rw [Bool.false_or, List.drop_zero]
        exact ev_rO3 l ws i (by omega) hl v' i 0 _ (by omega) (fun _ => e2) (fun h' => by rw [List.drop_zero, h] at h'; cases h')
      · rw [F12_L1, decide_eq_true (by omega), iteB_t]; rfl
    have r2 : ((ws.any fun w => w == (l.getD i default).1) && !((l.take i).any fun p => p.1 == (l.getD i default).1)) = false → Ev (fun n => F12_L1 n l ws (i : Int)) false := by
      intro h
      refine Ev.step ((ev_rO2 l ws i (by omega) hw false ws.length 0 false (by omega) ?_).congr fun n => ?_)
      · rw [Bool.false_or, List.drop_zero]
        exact ev_rO3 l ws i (by omega) hl false i 0 _ (by omega) (fun h' => by rw [List.drop_zero, h] at h'; cases h') (fun _ => rfl)
      · rw [F12_L1, decide_eq_true (by omega), iteB_t]; rfl
    cases hA : (ws.any fun w => w == (l.getD i default).1) with
    | false =>
      refine ⟨false, Ev.step ⟨N1 + N2, fun n hn => ?_⟩, r2 (by rw [hA]; rfl)⟩
      show F11_L1 (n + 1) l ws (i : Int) = _
      rw [u n hn, hA]; rfl
    | true =>
      cases hB : (l.take i).any (fun p => p.1 == (l.getD i default).1) with
      | true =>
        refine ⟨false, Ev.step ⟨N1 + N2, fun n hn => ?_⟩, r2 (by rw [hA, hB]; rfl)⟩
        show F11_L1 (n + 1) l ws (i : Int) = _
        rw [u n hn, hA, hB]; rfl
      | false =>
        refine ⟨v, Ev.step ⟨N1 + N2 + N3, fun n hn => ?_⟩, r v (by rw [hA, hB]; rfl) rfl⟩
        have q3 := e1 n (by omega)
        dsimp only at q3
        show F11_L1 (n + 1) l ws (i : Int) = _
        rw [u n (by omega), hA, hB, Bool.not_true, iteB_f, iteB_f, q3]
theorem ev_Only (l : List (List UInt8 × List UInt8)) (ws : List (List UInt8)) (hl : l.length ≤ 1000000) (hw : ws.length ≤ 1000000) : ∃ v, Ev (fun n => F11 n l ws) v ∧ Ev (fun n => F12 n l ws) v := by
  obtain ⟨v, e1, e2⟩ := ev_Only_l l ws hl hw l.length 0 (by omega)
  exact ⟨v, e1.congr fun n => rfl, e2.congr fun n => rfl⟩
end Go.Proofs.YtdaojihnaajfeaaX

/- Pairs of texts. -/
set_option linter.unusedVariables false
set_option linter.unusedSimpArgs false
namespace Go.Proofs.YtdaojihnaajfeaaX
open Go
abbrev Pr := List UInt8 × List UInt8
end Go.Proofs.YtdaojihnaajfeaaX

/- Texts that are encoded: the program's. -/
set_option linter.unusedVariables false
set_option linter.unusedSimpArgs false
namespace Go.Proofs.YtdaojihnaajfeaaX
open Go
def plI (x : Int) : Bool := if x = 45 ∨ x = 46 ∨ x = 95 ∨ x = 126 then true else kindOf x != 0
theorem stays_fin : ∀ c : Fin 256, F29 0 (c.val : Int) false = some (plI (c.val : Int), false) := by decide +kernel
theorem stays_eq (n : Nat) (c : UInt8) : F29 n (c.toNat : Int) false = some (plI (c.toNat : Int), false) := stays_fin ⟨c.toNat, c.toNat_lt⟩
def hexD (k : Nat) : UInt8 := ([48, 49, 50, 51, 52, 53, 54, 55, 56, 57, 65, 66, 67, 68, 69, 70] : List UInt8).getD k 0
def encB (c : UInt8) : List UInt8 := if plI (c.toNat : Int) = true then [c] else [37, hexD (c.toNat / 16), hexD (c.toNat % 16)]
def encS (s : List UInt8) : List UInt8 := s.flatMap encB
theorem enc_fin : ∀ c : Fin 256, (0 ≤ bShr .u8 (c.val : Int) 4 ∧ bShr .u8 (c.val : Int) 4 < 16 ∧ (bShr .u8 (c.val : Int) 4).toNat = c.val / 16) ∧ (0 ≤ IntKind.wrap .u8 (bAnd .u8 (c.val : Int) 15) ∧ IntKind.wrap .u8 (bAnd .u8 (c.val : Int) 15) < 16 ∧ (IntKind.wrap .u8 (bAnd .u8 (c.val : Int) 15)).toNat = c.val % 16) := by decide +kernel
theorem enc_len : ∀ s : List UInt8, (encS s).length ≤ 3 * s.length
  | [] => Nat.le_refl _
  | c :: s => by
    have := enc_len s
    show (encB c ++ encS s).length ≤ _
    rw [List.length_append, List.length_cons]
    have : (encB c).length ≤ 3 := by unfold encB; split <;> simp
    omega
theorem ev_enc_l (s : List UInt8) (hs : s.length ≤ 1000000) : ∀ (k i : Nat), i + k = s.length → Ev (fun n => F16_L1 n s (i : Int) false (ints (encS (s.take i)))) (encS s) := by
  intro k
  induction k with
  | zero =>
    intro i hi
    rw [List.take_of_length_le (by omega)]
    refine Ev.step (Ev.pure.congr fun n => ?_)
    rw [F16_L1, decide_eq_false (by omega), iteB_f, show (ints (encS s)).map toB = encS s from (of_ints rfl).symm]
  | succ k ih =>
    intro i hi
    have ht : s.take (i + 1) = s.take i ++ [s.getD i 0] := by
      rw [List.take_succ_eq_append_getElem (by omega), List.getD_eq_getElem?_getD, List.getElem?_eq_getElem (by omega)]; rfl
    have e := ih (i + 1) (by omega)
    rw [ht, show encS (s.take i ++ [s.getD i 0]) = encS (s.take i) ++ encB (s.getD i 0) by unfold encS; rw [List.flatMap_append]; simp, show ints (encS (s.take i) ++ encB (s.getD i 0)) = ints (encS (s.take i)) ++ ints (encB (s.getD i 0)) by unfold ints; rw [List.map_append]] at e
    have hl : (ints (encS (s.take i))).length ≤ 3 * i := by
      rw [ints_len]; have := enc_len (s.take i); rw [List.length_take] at this; omega
    generalize ints (encS (s.take i)) = acc at *
    generalize hc : s.getD i 0 = c at *
    obtain ⟨⟨a1, a2, a3⟩, b1, b2, b3⟩ := enc_fin ⟨c.toNat, c.toNat_lt⟩
    have a1 : 0 ≤ bShr .u8 (c.toNat : Int) 4 := a1
    have a2 : bShr .u8 (c.toNat : Int) 4 < 16 := a2
    have a3 : (bShr .u8 (c.toNat : Int) 4).toNat = c.toNat / 16 := a3
    have b1 : 0 ≤ IntKind.wrap .u8 (bAnd .u8 (c.toNat : Int) 15) := b1
    have b2 : IntKind.wrap .u8 (bAnd .u8 (c.toNat : Int) 15) < 16 := b2
    have b3 : (IntKind.wrap .u8 (bAnd .u8 (c.toNat : Int) 15)).toNat = c.toNat % 16 := b3
    refine Ev.step (e.congr fun n => ?_)
    rw [F16_L1, decide_eq_true (by omega), iteB_t, grd_t _ (by omega), toNat_nat, hc, stays_eq, bind_some']
    dsimp only
    unfold encB
    cases hp : plI (c.toNat : Int) with
    | true => rw [iteB_t, grd_t _ (by omega), g64 i (by omega), if_pos rfl]; rfl
    | false => rw [iteB_f, grd_t _ ⟨a1, a2⟩, grd_t _ ⟨b1, b2⟩, grd_t _ (by omega), g64 i (by omega), if_neg (by decide), a3, b3]; rfl
theorem ev_Encode (s : List UInt8) (hs : s.length ≤ 1000000) : Ev (fun n => F16 n s false) (encS s) := by
  refine (ev_enc_l s hs s.length 0 (by omega)).congr fun n => ?_
  rw [F16, grd_t _ (by omega)]; rfl
end Go.Proofs.YtdaojihnaajfeaaX

/- The order of pairs, sorted. -/
set_option linter.unusedVariables false
set_option linter.unusedSimpArgs false
namespace Go.Proofs.YtdaojihnaajfeaaX
open Go
theorem pl_trans (a b c : List UInt8 × List UInt8) : pairLe a b = true → pairLe b c = true → pairLe a c = true := by
  rw [pairLe_iff, pairLe_iff, pairLe_iff]; exact pcmp_trans a b c
theorem pl_total (a b : List UInt8 × List UInt8) : (pairLe a b || pairLe b a) = true := by
  rw [Bool.or_eq_true, pairLe_iff, pairLe_iff, pcmp_anti a b]; omega
theorem pl_anti (a b : List UInt8 × List UInt8) (h : pairLe a b = true) (h' : pairLe b a = true) : a = b := by
  rw [pairLe_iff] at h h'
  rw [pcmp_anti a b] at h'
  exact pcmp_eq a b (by omega)
theorem sort_perm {l m : List (List UInt8 × List UInt8)} (h : l.Perm m) : l.mergeSort pairLe = m.mergeSort pairLe :=
  List.Perm.eq_of_pairwise (le := fun a b => pairLe a b = true) (fun a b _ _ => pl_anti a b) (List.pairwise_mergeSort pl_trans pl_total l) (List.pairwise_mergeSort pl_trans pl_total m) (((List.mergeSort_perm l _).trans h).trans (List.mergeSort_perm m _).symm)
end Go.Proofs.YtdaojihnaajfeaaX

/- strings.Builder, plain. -/
set_option linter.unusedVariables false
set_option linter.unusedSimpArgs false
namespace Go.Proofs.YtdaojihnaajfeaaX
open Go
theorem bld_String (n : Nat) (b : Bool) (l : List Int) (h : Bytes l) (hl : l.length ≤ 549755813888) : F21 n (b, l) = some (l.map toB, (b, l)) := by
  unfold F21
  exact if_pos ⟨hl, all_bytes h⟩
theorem bld_Write (n : Nat) (b : Bool) (l : List Int) (s : List UInt8) (hl : l.length + s.length ≤ 549755813888) : F20 n (b, l) s = some ((s.length : Int), (), true, l ++ ints s) := by
  unfold F20
  rw [show F34 n (b, l) = some (true, l) from rfl, bind_some', grd_t _ hl]
  rfl
end Go.Proofs.YtdaojihnaajfeaaX

/- Queries as they are signed: what they are. -/
set_option linter.unusedVariables false
set_option linter.unusedSimpArgs false
namespace Go.Proofs.YtdaojihnaajfeaaX
open Go
def enc2 (p : Pr) : Pr := (encS p.1, encS p.2)
def qPart (p : Pr) : List UInt8 := (p.1 ++ [61]) ++ p.2
def qAll : Bool → List Pr → List UInt8
  | _, [] => []
  | f, p :: ps => (if f = true then [38] else []) ++ (qPart p ++ qAll true ps)
def canT (l : List Pr) : List UInt8 := qAll false ((l.map enc2).mergeSort pairLe)
theorem ints_append (a b : List UInt8) : ints (a ++ b) = ints a ++ ints b := by unfold ints; rw [List.map_append]
theorem toB_ints2 (t : List UInt8) : (ints t).map toB = t := (of_ints rfl).symm
theorem ev_canL2 (x2 v8 : List Pr) (hx : x2.length = v8.length) (hl : v8.length ≤ 100) (hb : ∀ p ∈ v8, p.1.length + p.2.length ≤ 6000) : ∀ (k i : Nat) (b : Bool) (t : List UInt8), i + k = v8.length → t.length ≤ i * 6002 → Ev (fun n => F9_L2 n x2 v8 (i : Int) b (ints t)) (t ++ qAll (decide (0 < i)) (v8.drop i)) := by
  intro k
  induction k with
  | zero =>
    intro i b t hi ht
    rw [List.drop_of_length_le (by omega), qAll, List.append_nil]
    refine Ev.step (Ev.pure.congr fun n => ?_)
    rw [F9_L2, decide_eq_false (by omega), iteB_f, bld_String n b (ints t) (ints_bytes t) (by rw [ints_len]; omega), bind_some', toB_ints2]
  | succ k ih =>
    intro i b t hi ht
    have hm : v8.getD i default ∈ v8 := by
      rw [List.getD_eq_getElem?_getD, List.getElem?_eq_getElem (by omega)]
      exact List.getElem_mem _
    have hpl := hb _ hm
    rw [drop_cons v8 i default (by omega), qAll]
    generalize hp : v8.getD i default = p at *
    have key : ∀ (b' : Bool) (t' : List UInt8), t'.length ≤ i * 6002 + 1 → Ev (fun n => F9_J3 n x2 (i : Int) v8 b' (ints t')) (t' ++ (qPart p ++ qAll true (v8.drop (i + 1)))) := by
      intro b' t' ht'
      have e := ih (i + 1) true (t' ++ qPart p) (by omega) (by
        rw [List.length_append]; unfold qPart; rw [List.length_append, List.length_append, List.length_singleton, Nat.add_mul]; omega)
      rw [show decide (0 < i + 1) = true from decide_eq_true (by omega), List.append_assoc, ints_append] at e
      refine e.congr fun n => ?_
      rw [F9_J3, toNat_nat, hp, grd_t _ (by omega), grd_t _ (by omega), bld_Write n b' (ints t') ((p.1 ++ [61]) ++ p.2) (by rw [ints_len, List.length_append, List.length_append, List.length_singleton]; omega), bind_some', g64 i (by omega)]
      rfl
    by_cases h0 : 0 < i
    · rw [show (if decide (0 < i) = true then ([38] : List UInt8) else []) = [38] from if_pos (decide_eq_true h0)]
      have e := key true (t ++ [38]) (by rw [List.length_append]; simp; omega)
      rw [List.append_assoc, ints_append] at e
      refine Ev.step (e.congr fun n => ?_)
      rw [F9_L2, decide_eq_true (by omega), iteB_t, grd_t _ (by omega), toNat_nat, grd_t _ (by omega), decide_eq_true (by omega), iteB_t, bld_Write n b (ints t) [38] (by rw [ints_len]; simp; omega), bind_some']
    · rw [show (if decide (0 < i) = true then ([38] : List UInt8) else []) = [] from if_neg (by rw [decide_eq_false h0]; decide), List.nil_append]
      have e := key b t (Nat.le_trans ht (Nat.le_succ _))
      refine Ev.step (e.congr fun n => ?_)
      rw [F9_L2, decide_eq_true (by omega), iteB_t, grd_t _ (by omega), toNat_nat, grd_t _ (by omega), decide_eq_false (by omega), iteB_f]
def okQ (l : List Pr) : Prop := l.length ≤ 90 ∧ ∀ p ∈ l, p.1.length ≤ 900 ∧ p.2.length ≤ 900
theorem ev_canL1 (l : List Pr) (h : okQ l) : ∀ (k i : Nat), i + k = l.length → Ev (fun n => F9_L1 n l (i : Int) ((l.take i).map enc2)) (canT l) := by
  intro k
  induction k with
  | zero =>
    intro i hi
    rw [List.take_of_length_le (by omega)]
    have hlen := h.1
    have hms : ((l.map enc2).mergeSort pairLe).length = l.length := by rw [List.length_mergeSort, List.length_map]
    have e := ev_canL2 (l.map enc2) ((l.map enc2).mergeSort pairLe) (by rw [List.length_mergeSort]) (by omega) (fun p hp => by
      have hp : p ∈ l.map enc2 := (List.mergeSort_perm _ _).subset hp
      obtain ⟨q, hq, rfl⟩ := List.mem_map.1 hp
      have := h.2 q hq
      have := enc_len q.1
      have := enc_len q.2
      show (encS q.1).length + (encS q.2).length ≤ 6000
      omega) l.length 0 false [] (by omega) (by simp)
    refine Ev.step (e.congr fun n => ?_)
    rw [F9_L1, decide_eq_false (by omega), iteB_f, F17, if_pos (by rw [List.length_map]; omega), bind_some']
    rfl
  | succ k ih =>
    intro i hi
    have hm : l.getD i default ∈ l := by
      rw [List.getD_eq_getElem?_getD, List.getElem?_eq_getElem (by omega)]
      exact List.getElem_mem _
    have ht : l.take (i + 1) = l.take i ++ [l.getD i default] := by
      rw [List.take_succ_eq_append_getElem (by omega), List.getD_eq_getElem?_getD, List.getElem?_eq_getElem (by omega)]; rfl
    have e := ih (i + 1) (by omega)
    rw [ht, List.map_append] at e
    have hal : ((l.take i).map enc2).length = i := by rw [List.length_map, List.length_take]; omega
    have hq := h.2 _ hm
    have hln := h.1
    generalize (l.take i).map enc2 = acc at *
    generalize hp : l.getD i default = p at *
    obtain ⟨N1, e1⟩ := ev_Encode p.1 (by omega)
    obtain ⟨N2, e2⟩ := ev_Encode p.2 (by omega)
    obtain ⟨N3, e3⟩ := e
    refine Ev.step ⟨N1 + N2 + N3, fun n hn => ?_⟩
    have q1 := e1 n (by omega)
    have q2 := e2 n (by omega)
    have q3 := e3 n (by omega)
    dsimp only at q1 q2 q3
    show F9_L1 (n + 1) l (i : Int) acc = _
    rw [F9_L1, decide_eq_true (by omega), iteB_t, grd_t _ (by omega), toNat_nat, hp, q1, bind_some', q2, bind_some', grd_t _ (by omega), g64 i (by omega)]
    exact q3
theorem ev_Canon (l : List Pr) (h : okQ l) : Ev (fun n => F9 n l) (canT l) := (ev_canL1 l h l.length 0 (by omega)).congr fun n => rfl
theorem ev_own29_l (l : List Pr) : ∀ (k i : Nat) (x : Int) (acc : List Pr), i + k = l.length → acc = l.take i → 10 * (i : Int) ≤ x → x ≤ 900 → (∀ p ∈ l.take i, p.1.length ≤ 900 ∧ p.2.length ≤ 900) → ∃ v, Ev (fun n => F4_L1 n l x (i : Int) acc) v ∧ (v.2 = true → okQ l ∧ v.1 = l)
  | 0, i, x, acc, hi, ha, h0, h1, hp => by
    refine ⟨(acc, true), Ev.step (Ev.pure.congr fun n => by rw [F4_L1, decide_eq_false (by omega), iteB_f]), fun _ => ⟨⟨by omega, ?_⟩, by rw [ha, List.take_of_length_le (by omega)]⟩⟩
    rw [List.take_of_length_le (by omega)] at hp
    exact hp
  | k + 1, i, x, acc, hi, ha, h0, h1, hp => by
    have ht : l.take (i + 1) = l.take i ++ [l.getD i default] := by
      rw [List.take_succ_eq_append_getElem (by omega), List.getD_eq_getElem?_getD, List.getElem?_eq_getElem (by omega)]; rfl
    obtain ⟨p, hp0, hp1, hpe⟩ : ∃ p : Nat, p ≤ 900 ∧ (p < 900 → p = (l.getD i default).1.length) ∧ (if (900 : Int) < (((l.getD i default).1).length : Int) then (900 : Int) else (((l.getD i default).1).length : Int)) = (p : Int) := by
      split
      · exact ⟨900, by omega, by omega, rfl⟩
      · exact ⟨_, by omega, fun _ => rfl, rfl⟩
    obtain ⟨q, hq0, hq1, hqe⟩ : ∃ q : Nat, q ≤ 900 ∧ (q < 900 → q = (l.getD i default).2.length) ∧ (if (900 : Int) < (((l.getD i default).2).length : Int) then (900 : Int) else (((l.getD i default).2).length : Int)) = (q : Int) := by
      split
      · exact ⟨900, by omega, by omega, rfl⟩
      · exact ⟨_, by omega, fun _ => rfl, rfl⟩
    have hal : acc.length = i := by rw [ha, List.length_take]; omega
    have hw : IntKind.wrap .i64 (IntKind.wrap .i64 (IntKind.wrap .i64 (x + 10) + (p : Int)) + (q : Int)) = x + 10 + p + q := by
      rw [w64 (n := x + 10) (by omega), w64 (n := x + 10 + p) (by omega), w64 (by omega)]
    have u : ∀ n, F4_L1 (n + 1) l x (i : Int) acc = iteB (decide ((900 : Int) < x + 10 + p + q)) (some ([], false)) (F4_L1 n l (x + 10 + p + q) ((i + 1 : Nat) : Int) (acc ++ [((l.getD i default).1, (l.getD i default).2)])) := by
      intro n
      rw [F4_L1, decide_eq_true (by omega), iteB_t, grd_t _ (by omega), grd_t _ (by omega), toNat_nat, hpe, hqe, hw, grd_t _ (by omega), grd_t _ (by omega), g64 i (by omega)]
    by_cases hx : (900 : Int) < x + 10 + p + q
    · refine ⟨([], false), Ev.step (Ev.pure.congr fun n => by rw [u, decide_eq_true hx, iteB_t]), fun h => by cases h⟩
    · obtain ⟨v, e, h⟩ := ev_own29_l l k (i + 1) (x + 10 + p + q) (acc ++ [((l.getD i default).1, (l.getD i default).2)]) (by omega) (by rw [ht, ha]) (by omega) (by omega) (by
        rw [ht]
        intro y hy
        rcases List.mem_append.1 hy with hy | hy
        · exact hp y hy
        · obtain rfl := List.mem_singleton.1 hy
          have := hp1 (by omega)
          have := hq1 (by omega)
          omega)
      exact ⟨v, Ev.step (e.congr fun n => by rw [u, decide_eq_false hx, iteB_f]), h⟩
theorem ev_own29 (l : List Pr) : ∃ v, Ev (fun n => F4 n l) v ∧ (v.2 = true → okQ l ∧ v.1 = l) := by
  obtain ⟨v, e, h⟩ := ev_own29_l l l.length 0 0 [] (by omega) rfl (by omega) (by omega) (by simp)
  exact ⟨v, e.congr fun n => rfl, h⟩
end Go.Proofs.YtdaojihnaajfeaaX
