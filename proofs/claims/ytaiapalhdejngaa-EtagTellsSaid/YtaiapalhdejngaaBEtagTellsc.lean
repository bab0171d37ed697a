/- Part of the proof of EtagTells: walks and plain words, merged. -/
import Derived.Test.YtaiapalhdejngaaBEtagTellsb
set_option linter.unusedVariables false
set_option linter.unusedSimpArgs false

set_option linter.unusedVariables false
set_option linter.unusedSimpArgs false
namespace Go.Proofs.YtaiapalhdejngaaX
open Go Go.RowKit Go.Proofs
set_option maxRecDepth 100000
attribute [local go_sem ↓] stepsK_build stepsK_bs appendS
attribute [local go_sem] String.reduceEq String.reduceNe reduceCtorEq Int.reduceEq Nat.reduceAdd Nat.reduceSub Nat.reduceMul Nat.reduceLT Nat.reduceLeDiff Nat.reduceEqDiff Nat.reduceBEq Int.reduceToNat Int.reduceLT Int.reduceLE Int.reduceGT Int.reduceGE Int.reduceAdd Int.reduceSub Int.reduceMul Int.reduceNeg Int.reduceBEq Int.reduceBNe Int.reducePow Int.reduceDiv Int.reduceMod Int.reduceTDiv Int.reduceTMod Int.reduceNatCast
/-! ### hex.ReadHex -/
def F75_S1 (a0 : List UInt8) (x2 : Int) (x3 : List (Int)) : St := ⟨[.imm (.string (bs a0)), .junk, .junk, .junk, .rsl 0 1 0 x3.length, .imm (.int .i64 x2), .junk, .junk, .junk, .junk, .junk, .junk, .junk, .junk, .junk, .junk, .junk, .junk, .junk, .junk, .junk, .junk, .junk, .junk, .junk, .junk, .junk, .junk, .junk, .junk, .junk, .junk, .junk, .junk, .junk, .junk, .junk, .junk, .junk, .junk, .junk, .junk, .junk, .junk, .junk, .junk, .junk, .junk, .junk], [some (.buf 5 1 (List.map byteT x3) 0)]⟩
def F75_L1 : Nat → (List UInt8) → (Int) → (List (Int)) → Option ((List (Int)) × (Bool))
 | 0, _, _, _ => none
 | m1 + 1, a0, x2, x3 => iteB (decide (x2 < (a0.length : Int))) (grd (0 ≤ x2 ∧ x2 < (a0.length : Int)) ((F99 m1 ((a0.getD x2.toNat 0).toNat : Int)).bind fun v6 => grd (0 ≤ (IntKind.wrap .i64 (x2 + (1 : Int))) ∧ (IntKind.wrap .i64 (x2 + (1 : Int))) < (a0.length : Int)) ((F99 m1 ((a0.getD (IntKind.wrap .i64 (x2 + (1 : Int))).toNat 0).toNat : Int)).bind fun v8 => iteB (!v6.2) (some ([], false)) (iteB (!v8.2) (some ([], false)) (grd ((x3.length + 1) ≤ 549755813888) (F75_L1 m1 a0 (IntKind.wrap .i64 (x2 + (2 : Int))) (x3 ++ [(IntKind.wrap .u8 (bOr .u8 (IntKind.wrap .u8 (bShl .u8 v6.1 4)) v8.1))]))))))) (some (x3, true))
def F75 (n : Nat) (a0 : List UInt8) : Option ((List (Int)) × (Bool)) := iteB (((a0.length : Int).tmod (2 : Int)) != (0 : Int)) (some ([], false)) (F75_L1 n a0 (0 : Int) [])
set_option maxHeartbeats 4000000 in
theorem F75_ok : ∀ (n : Nat) (a0 : List UInt8) (r : (List (Int)) × (Bool)), F75 n a0 = some r → FnC Try.prog 75 [.imm (.string (bs a0))] (.tup [.sl 1 false (List.map byteT r.1), .imm (.bool r.2)])
 | n, a0, r, h => by
  unfold F75 at h
  refine FnC.goX mixed Try.func75 (by kernel_rfl) rfl ?_
  simp only [Try.ntmps75, List.length_cons, List.length_nil, List.replicate, List.cons_append, List.nil_append, Nat.reduceAdd, Nat.reduceSub]
  refine runX_seq ?_
  refine runX_regionC fun C hC => ?_
  try simp -implicitDefEqProofs (disch := omega) only [go_sem, ↓reduceIte]
  refine toEnd hC ?_
  refine endX_seq ?_
  refine runX_seq ?_
  refine runX_seq ?_
  refine runX_regionC fun C hC => ?_
  try simp -implicitDefEqProofs (disch := omega) only [go_sem, ↓reduceIte]
  refine toEnd hC ?_
  refine endX_seq ?_
  rcases iteB_some h with ⟨c1, h⟩ | ⟨c1, h⟩
  ·refine runX_condT rfl c1 ?_
   refine runX_seq ?_
   refine runX_regionC fun C hC => ?_
   try simp -implicitDefEqProofs (disch := omega) only [go_sem, ↓reduceIte]
   refine toEnd hC ?_
   refine endX_seq ?_
   refine runX_ret ?_
   refine endX_seqR ?_
   refine endX_q ?_
   obtain rfl := Option.some.inj h
   show RetW _ _ _ _ _
   simp only [RetW]
   (try simp -implicitDefEqProofs (disch := omega) only [go_sem, ↓reduceIte])
   (try simp (disch := omega) only [if_pos, Nat.sub_zero])
   first | exact leT_refl _ | (refine ⟨rfl, ?_⟩; first | exact leT_refl _ | exact leT_sl | exact leT_sln | exact leT_nil | (refine leT_tup (by repeat (first | exact leL_refl _ | refine leL_cons (by first | exact leT_refl _ | exact leT_virt | exact leT_junk _ | exact leT_sl | exact leT_sln | exact leT_nil | (refine leT_agg (by repeat (first | exact leL_refl _ | refine leL_cons (by first | exact leT_refl _ | exact leT_sl | exact leT_sln | exact leT_nil) ?_)))) ?_))) | (refine leT_agg (by repeat (first | exact leL_refl _ | refine leL_cons (by first | exact leT_refl _ | exact leT_virt | exact leT_junk _ | exact leT_sl | exact leT_sln | exact leT_nil | (refine leT_agg (by repeat (first | exact leL_refl _ | refine leL_cons (by first | exact leT_refl _ | exact leT_sl | exact leT_sln | exact leT_nil) ?_)))) ?_)))) | (first | exact leT_refl _ | exact leT_sl | exact leT_sln | exact leT_nil | (refine leT_tup (by repeat (first | exact leL_refl _ | refine leL_cons (by first | exact leT_refl _ | exact leT_virt | exact leT_junk _ | exact leT_sl | exact leT_sln | exact leT_nil | (refine leT_agg (by repeat (first | exact leL_refl _ | refine leL_cons (by first | exact leT_refl _ | exact leT_sl | exact leT_sln | exact leT_nil) ?_)))) ?_))) | (refine leT_agg (by repeat (first | exact leL_refl _ | refine leL_cons (by first | exact leT_refl _ | exact leT_virt | exact leT_junk _ | exact leT_sl | exact leT_sln | exact leT_nil | (refine leT_agg (by repeat (first | exact leL_refl _ | refine leL_cons (by first | exact leT_refl _ | exact leT_sl | exact leT_sln | exact leT_nil) ?_)))) ?_)))) | (simp only [List.append_assoc, List.cons_append, List.nil_append]; exact leT_refl _) | (rw [List.take_of_length_le (by simp)]; (try simp only [List.append_assoc, List.cons_append, List.nil_append]); exact leT_refl _)
  ·refine runX_condF rfl c1 ?_
   refine runX_skip ?_
   refine endX_seq ?_
   refine runX_seq ?_
   refine runX_regionC fun C hC => ?_
   try simp -implicitDefEqProofs (disch := omega) only [go_sem, ↓reduceIte]
   refine toEnd hC ?_
   refine endX_seq ?_
   refine runX_seq ?_
   refine runX_seq ?_
   refine runX_regionC fun C hC => ?_
   try simp -implicitDefEqProofs (disch := omega) only [go_sem, ↓reduceIte]
   refine toEnd hC ?_
   refine endX_seq ?_
   refine runX_block ?_
   refine runX_loop [0, 4, 5] (fun m S => ∃ (x2 : Int) (x3 : List (Int)), S = F75_S1 a0 x2 x3 ∧ m ≤ n ∧ F75_L1 m a0 x2 x3 = some r) n ⟨F75_S1 a0 (0 : Int) [], ?_, (0 : Int), [], rfl, Nat.le_refl _, h⟩ ?_
   ·(try simp -implicitDefEqProofs (disch := omega) only [go_sem, ↓reduceIte])
    simp only [F75_S1]
    refine leS_trans (leS_pad _ _ 1) ?_
    simp only [List.replicate, List.cons_append, List.nil_append]
    refine leS_virt 0 5 1 rfl ?_ ?_ rfl
    ·repeat (first | exact leL_refl _ | refine leL_cons (by first | exact leT_refl _ | exact leT_virt | exact leT_junk _ | exact leT_sl | exact leT_sln | exact leT_nil | (refine leT_agg (by repeat (first | exact leL_refl _ | refine leL_cons (by first | exact leT_refl _ | exact leT_sl | exact leT_sln | exact leT_nil) ?_)))) ?_)
    ·repeat (first | exact leOs_refl _ | refine leOs.cons (by first | exact leO.same _ | (refine leO.box (leT_agg (by repeat (first | exact leL_refl _ | refine leL_cons (by first | exact leT_refl _ | exact leT_virt | exact leT_junk _ | exact leT_sl | exact leT_sln | exact leT_nil | (refine leT_agg (by repeat (first | exact leL_refl _ | refine leL_cons (by first | exact leT_refl _ | exact leT_sl | exact leT_sln | exact leT_nil) ?_)))) ?_))) rfl) | (refine leO.box (by first | exact leT_virt | exact leT_sl | exact leT_sln) rfl)) ?_)
   ·clear h
    rintro m1 S ⟨x2, x3, rfl, hm1, h⟩
    cases m1 with
    | zero => first | cases (show (none : Option _) = some _ from h) | (rw [F75_L1] at h; cases h)
    | succ m1 =>
     rw [F75_L1] at h
     simp only [F75_S1]
     refine runX_seq ?_
     refine runX_seq ?_
     refine runX_regionC fun C hC => ?_
     try simp -implicitDefEqProofs (maxSteps := 4000000) (disch := first | omega | decide | (simp only [go_sem]; omega)) only [go_sem, ↓reduceIte]
     repeat (with_reducible refine And.intro (by first | assumption | omega | (simp; done) | (simp; omega)) ?_)
     refine toEnd hC ?_
     refine endX_seq ?_
     rcases iteB_some h with ⟨c4, h⟩ | ⟨c4, h⟩
     ·refine runX_condT rfl c4 ?_
      refine runX_skip ?_
      refine endX_seq ?_
      refine runX_seq ?_
      refine runX_block ?_
      refine runX_seq ?_
      refine runX_regionC fun C hC => ?_
      obtain ⟨g5, h⟩ := grd_some h
      obtain ⟨v6, h6, h⟩ := bnd_some h
      try simp -implicitDefEqProofs (maxSteps := 4000000) (disch := first | omega | decide | (simp only [go_sem]; omega)) only [go_sem, ↓reduceIte]
      repeat (with_reducible refine And.intro (by first | assumption | omega | (simp; done) | (simp; omega)) ?_)
      refine callG_X (by first | rfl | (simp only [go_sem]; done) | (simp only [closedL, closedT, Bool.and_true]; exact closedL_map _ (fun _ => by first | rfl | (simp only [go_sem]; done)) _)) (F99_ok m1 ((a0.getD x2.toNat 0).toNat : Int) _ h6) (by repeat (first | exact leL_refl _ | refine leL_cons (by first | exact leT_refl _ | exact leT_virt | exact leT_junk _ | exact leT_sl | exact leT_sln | exact leT_nil | (refine leT_agg (by repeat (first | exact leL_refl _ | refine leL_cons (by first | exact leT_refl _ | exact leT_sl | exact leT_sln | exact leT_nil) ?_)))) ?_)) ?_
      try simp -implicitDefEqProofs (maxSteps := 4000000) (disch := first | omega | decide | (simp only [go_sem]; omega)) only [go_sem, ↓reduceIte]
      repeat (with_reducible refine And.intro (by first | assumption | omega | (simp; done) | (simp; omega)) ?_)
      refine toEnd hC ?_
      refine endX_seq ?_
      refine runX_seq ?_
      refine runX_regionC fun C hC => ?_
      obtain ⟨g7, h⟩ := grd_some h
      obtain ⟨v8, h8, h⟩ := bnd_some h
      try simp -implicitDefEqProofs (maxSteps := 4000000) (disch := first | omega | decide | (simp only [go_sem]; omega)) only [go_sem, ↓reduceIte]
      repeat (with_reducible refine And.intro (by first | assumption | omega | (simp; done) | (simp; omega)) ?_)
      refine callG_X (by first | rfl | (simp only [go_sem]; done) | (simp only [closedL, closedT, Bool.and_true]; exact closedL_map _ (fun _ => by first | rfl | (simp only [go_sem]; done)) _)) (F99_ok m1 ((a0.getD (IntKind.wrap .i64 (x2 + (1 : Int))).toNat 0).toNat : Int) _ h8) (by repeat (first | exact leL_refl _ | refine leL_cons (by first | exact leT_refl _ | exact leT_virt | exact leT_junk _ | exact leT_sl | exact leT_sln | exact leT_nil | (refine leT_agg (by repeat (first | exact leL_refl _ | refine leL_cons (by first | exact leT_refl _ | exact leT_sl | exact leT_sln | exact leT_nil) ?_)))) ?_)) ?_
      try simp -implicitDefEqProofs (maxSteps := 4000000) (disch := first | omega | decide | (simp only [go_sem]; omega)) only [go_sem, ↓reduceIte]
      repeat (with_reducible refine And.intro (by first | assumption | omega | (simp; done) | (simp; omega)) ?_)
      refine toEnd hC ?_
      refine endX_seq ?_
      refine runX_seq ?_
      refine runX_seq ?_
      refine runX_regionC fun C hC => ?_
      try simp -implicitDefEqProofs (disch := omega) only [go_sem, ↓reduceIte]
      rcases iteB_some h with ⟨c9, h⟩ | ⟨c9, h⟩
      ·refine guardK_F c9 ?_
       try simp -implicitDefEqProofs (disch := omega) only [go_sem, ↓reduceIte]
       refine toEnd hC ?_
       refine endX_seq ?_
       refine runX_condT rfl rfl ?_
       refine runX_seq ?_
       refine runX_regionC fun C hC => ?_
       try simp -implicitDefEqProofs (disch := omega) only [go_sem, ↓reduceIte]
       refine toEnd hC ?_
       refine endX_seq ?_
       refine runX_ret ?_
       refine endX_seqR ?_
       refine endX_blkR ?_
       refine endX_seqR ?_
       refine endX_q (roundQ_ret ?_)
       refine endX_blkR ?_
       refine endX_seqR ?_
       refine endX_q ?_
       obtain rfl := Option.some.inj h
       show RetW _ _ _ _ _
       simp only [RetW]
       (try simp -implicitDefEqProofs (disch := omega) only [go_sem, ↓reduceIte])
       (try simp (disch := omega) only [if_pos, Nat.sub_zero])
       first | exact leT_refl _ | (refine ⟨rfl, ?_⟩; first | exact leT_refl _ | exact leT_sl | exact leT_sln | exact leT_nil | (refine leT_tup (by repeat (first | exact leL_refl _ | refine leL_cons (by first | exact leT_refl _ | exact leT_virt | exact leT_junk _ | exact leT_sl | exact leT_sln | exact leT_nil | (refine leT_agg (by repeat (first | exact leL_refl _ | refine leL_cons (by first | exact leT_refl _ | exact leT_sl | exact leT_sln | exact leT_nil) ?_)))) ?_))) | (refine leT_agg (by repeat (first | exact leL_refl _ | refine leL_cons (by first | exact leT_refl _ | exact leT_virt | exact leT_junk _ | exact leT_sl | exact leT_sln | exact leT_nil | (refine leT_agg (by repeat (first | exact leL_refl _ | refine leL_cons (by first | exact leT_refl _ | exact leT_sl | exact leT_sln | exact leT_nil) ?_)))) ?_)))) | (first | exact leT_refl _ | exact leT_sl | exact leT_sln | exact leT_nil | (refine leT_tup (by repeat (first | exact leL_refl _ | refine leL_cons (by first | exact leT_refl _ | exact leT_virt | exact leT_junk _ | exact leT_sl | exact leT_sln | exact leT_nil | (refine leT_agg (by repeat (first | exact leL_refl _ | refine leL_cons (by first | exact leT_refl _ | exact leT_sl | exact leT_sln | exact leT_nil) ?_)))) ?_))) | (refine leT_agg (by repeat (first | exact leL_refl _ | refine leL_cons (by first | exact leT_refl _ | exact leT_virt | exact leT_junk _ | exact leT_sl | exact leT_sln | exact leT_nil | (refine leT_agg (by repeat (first | exact leL_refl _ | refine leL_cons (by first | exact leT_refl _ | exact leT_sl | exact leT_sln | exact leT_nil) ?_)))) ?_)))) | (simp only [List.append_assoc, List.cons_append, List.nil_append]; exact leT_refl _) | (rw [List.take_of_length_le (by simp)]; (try simp only [List.append_assoc, List.cons_append, List.nil_append]); exact leT_refl _)
      ·refine guardK_T c9 ?_
       try simp -implicitDefEqProofs (disch := omega) only [go_sem, ↓reduceIte]
       refine toEnd hC ?_
       refine endX_seq ?_
       rcases iteB_some h with ⟨c10, h⟩ | ⟨c10, h⟩
       ·refine runX_condT rfl c10 ?_
        refine runX_seq ?_
        refine runX_regionC fun C hC => ?_
        try simp -implicitDefEqProofs (disch := omega) only [go_sem, ↓reduceIte]
        refine toEnd hC ?_
        refine endX_seq ?_
        refine runX_ret ?_
        refine endX_seqR ?_
        refine endX_blkR ?_
        refine endX_seqR ?_
        refine endX_q (roundQ_ret ?_)
        refine endX_blkR ?_
        refine endX_seqR ?_
        refine endX_q ?_
        obtain rfl := Option.some.inj h
        show RetW _ _ _ _ _
        simp only [RetW]
        (try simp -implicitDefEqProofs (maxSteps := 4000000) (disch := first | omega | decide | (simp only [go_sem]; omega)) only [go_sem, ↓reduceIte])
        (try simp (disch := omega) only [if_pos, Nat.sub_zero])
        first | exact leT_refl _ | (refine ⟨rfl, ?_⟩; first | exact leT_refl _ | exact leT_sl | exact leT_sln | exact leT_nil | (refine leT_tup (by repeat (first | exact leL_refl _ | refine leL_cons (by first | exact leT_refl _ | exact leT_virt | exact leT_junk _ | exact leT_sl | exact leT_sln | exact leT_nil | (refine leT_agg (by repeat (first | exact leL_refl _ | refine leL_cons (by first | exact leT_refl _ | exact leT_sl | exact leT_sln | exact leT_nil) ?_)))) ?_))) | (refine leT_agg (by repeat (first | exact leL_refl _ | refine leL_cons (by first | exact leT_refl _ | exact leT_virt | exact leT_junk _ | exact leT_sl | exact leT_sln | exact leT_nil | (refine leT_agg (by repeat (first | exact leL_refl _ | refine leL_cons (by first | exact leT_refl _ | exact leT_sl | exact leT_sln | exact leT_nil) ?_)))) ?_)))) | (first | exact leT_refl _ | exact leT_sl | exact leT_sln | exact leT_nil | (refine leT_tup (by repeat (first | exact leL_refl _ | refine leL_cons (by first | exact leT_refl _ | exact leT_virt | exact leT_junk _ | exact leT_sl | exact leT_sln | exact leT_nil | (refine leT_agg (by repeat (first | exact leL_refl _ | refine leL_cons (by first | exact leT_refl _ | exact leT_sl | exact leT_sln | exact leT_nil) ?_)))) ?_))) | (refine leT_agg (by repeat (first | exact leL_refl _ | refine leL_cons (by first | exact leT_refl _ | exact leT_virt | exact leT_junk _ | exact leT_sl | exact leT_sln | exact leT_nil | (refine leT_agg (by repeat (first | exact leL_refl _ | refine leL_cons (by first | exact leT_refl _ | exact leT_sl | exact leT_sln | exact leT_nil) ?_)))) ?_)))) | (simp only [List.append_assoc, List.cons_append, List.nil_append]; exact leT_refl _) | (rw [List.take_of_length_le (by simp)]; (try simp only [List.append_assoc, List.cons_append, List.nil_append]); exact leT_refl _)
       ·refine runX_condF rfl c10 ?_
        refine runX_skip ?_
        refine endX_seq ?_
        refine runX_regionC fun C hC => ?_
        try simp -implicitDefEqProofs (maxSteps := 4000000) (disch := first | omega | decide | (simp only [go_sem]; omega)) only [go_sem, ↓reduceIte]
        repeat (with_reducible refine And.intro (by first | assumption | omega | (simp; done) | (simp; omega)) ?_)
        refine bs_go <| buildX_val ?_
        obtain ⟨g11, h⟩ := grd_some h
        try simp -implicitDefEqProofs (maxSteps := 4000000) (disch := first | omega | decide | (simp only [go_sem]; omega)) only [go_sem, ↓reduceIte]
        repeat (with_reducible refine And.intro (by first | assumption | omega | (simp; done) | (simp; omega)) ?_)
        refine toEnd hC ?_
        refine endX_blk ?_
        refine endX_seq ?_
        refine runX_regionC fun C hC => ?_
        try simp -implicitDefEqProofs (disch := omega) only [go_sem, ↓reduceIte]
        refine toEnd hC ?_
        refine endX_q (roundQ_normal ⟨m1, by omega, F75_S1 a0 (IntKind.wrap .i64 (x2 + (2 : Int))) (x3 ++ [(IntKind.wrap .u8 (bOr .u8 (IntKind.wrap .u8 (bShl .u8 v6.1 4)) v8.1))]), ?_, (IntKind.wrap .i64 (x2 + (2 : Int))), (x3 ++ [(IntKind.wrap .u8 (bOr .u8 (IntKind.wrap .u8 (bShl .u8 v6.1 4)) v8.1))]), rfl, by omega, h⟩)
        simp only [F75_S1]
        (try simp -implicitDefEqProofs (disch := omega) only [go_sem, ↓reduceIte])
        exact leS_refl _
     ·refine runX_condF rfl c4 ?_
      refine runX_exit ?_
      refine endX_seqE ?_
      refine endX_q (roundQ_exit ?_)
      refine endX_blkE ?_
      refine endX_seq ?_
      refine runX_seq ?_
      refine runX_regionC fun C hC => ?_
      try simp -implicitDefEqProofs (disch := omega) only [go_sem, ↓reduceIte]
      refine toEnd hC ?_
      refine endX_seq ?_
      refine runX_ret ?_
      refine endX_q ?_
      obtain rfl := Option.some.inj h
      show RetW _ _ _ _ _
      simp only [RetW]
      (try simp -implicitDefEqProofs (disch := omega) only [go_sem, ↓reduceIte])
      (try simp (disch := omega) only [if_pos, Nat.sub_zero])
      first | exact leT_refl _ | (refine ⟨rfl, ?_⟩; first | exact leT_refl _ | exact leT_sl | exact leT_sln | exact leT_nil | (refine leT_tup (by repeat (first | exact leL_refl _ | refine leL_cons (by first | exact leT_refl _ | exact leT_virt | exact leT_junk _ | exact leT_sl | exact leT_sln | exact leT_nil | (refine leT_agg (by repeat (first | exact leL_refl _ | refine leL_cons (by first | exact leT_refl _ | exact leT_sl | exact leT_sln | exact leT_nil) ?_)))) ?_))) | (refine leT_agg (by repeat (first | exact leL_refl _ | refine leL_cons (by first | exact leT_refl _ | exact leT_virt | exact leT_junk _ | exact leT_sl | exact leT_sln | exact leT_nil | (refine leT_agg (by repeat (first | exact leL_refl _ | refine leL_cons (by first | exact leT_refl _ | exact leT_sl | exact leT_sln | exact leT_nil) ?_)))) ?_)))) | (first | exact leT_refl _ | exact leT_sl | exact leT_sln | exact leT_nil | (refine leT_tup (by repeat (first | exact leL_refl _ | refine leL_cons (by first | exact leT_refl _ | exact leT_virt | exact leT_junk _ | exact leT_sl | exact leT_sln | exact leT_nil | (refine leT_agg (by repeat (first | exact leL_refl _ | refine leL_cons (by first | exact leT_refl _ | exact leT_sl | exact leT_sln | exact leT_nil) ?_)))) ?_))) | (refine leT_agg (by repeat (first | exact leL_refl _ | refine leL_cons (by first | exact leT_refl _ | exact leT_virt | exact leT_junk _ | exact leT_sl | exact leT_sln | exact leT_nil | (refine leT_agg (by repeat (first | exact leL_refl _ | refine leL_cons (by first | exact leT_refl _ | exact leT_sl | exact leT_sln | exact leT_nil) ?_)))) ?_)))) | (simp only [List.append_assoc, List.cons_append, List.nil_append]; exact leT_refl _) | (rw [List.take_of_length_le (by simp)]; (try simp only [List.append_assoc, List.cons_append, List.nil_append]); exact leT_refl _)
end Go.Proofs.YtaiapalhdejngaaX

set_option linter.unusedVariables false
set_option linter.unusedSimpArgs false
namespace Go.Proofs.YtaiapalhdejngaaX
open Go Go.RowKit Go.Proofs
set_option maxRecDepth 100000
attribute [local go_sem ↓] stepsK_build stepsK_bs appendS
attribute [local go_sem] String.reduceEq String.reduceNe reduceCtorEq Int.reduceEq Nat.reduceAdd Nat.reduceSub Nat.reduceMul Nat.reduceLT Nat.reduceLeDiff Nat.reduceEqDiff Nat.reduceBEq Int.reduceToNat Int.reduceLT Int.reduceLE Int.reduceGT Int.reduceGE Int.reduceAdd Int.reduceSub Int.reduceMul Int.reduceNeg Int.reduceBEq Int.reduceBNe Int.reducePow Int.reduceDiv Int.reduceMod Int.reduceTDiv Int.reduceTMod Int.reduceNatCast
/-! ### etag.Sum -/
def F37 (n : Nat) (a0 : List UInt8) : Option ((List (Int)) × (Bool)) := (F75 n a0).bind fun v1 => iteB (!v1.2) (some ([], false)) (iteB ((v1.1.length : Int) != (16 : Int)) (some ([], false)) (some (v1.1, true)))
set_option maxHeartbeats 4000000 in
theorem F37_ok : ∀ (n : Nat) (a0 : List UInt8) (r : (List (Int)) × (Bool)), F37 n a0 = some r → FnC Try.prog 37 [.imm (.string (bs a0))] (.tup [.sl 1 false (List.map byteT r.1), .imm (.bool r.2)])
 | n, a0, r, h => by
  unfold F37 at h
  refine FnC.goX mixed Try.func37 (by kernel_rfl) rfl ?_
  simp only [Try.ntmps37, List.length_cons, List.length_nil, List.replicate, List.cons_append, List.nil_append, Nat.reduceAdd, Nat.reduceSub]
  refine runX_seq ?_
  refine runX_regionC fun C hC => ?_
  try simp -implicitDefEqProofs (disch := omega) only [go_sem, ↓reduceIte]
  refine toEnd hC ?_
  refine endX_seq ?_
  refine runX_seq ?_
  refine runX_regionC fun C hC => ?_
  obtain ⟨v1, h1, h⟩ := bnd_some h
  try simp -implicitDefEqProofs (maxSteps := 4000000) (disch := first | omega | decide | (simp only [go_sem]; omega)) only [go_sem, ↓reduceIte]
  repeat (with_reducible refine And.intro (by first | assumption | omega | (simp; done) | (simp; omega)) ?_)
  refine callG_X (by first | rfl | (simp only [go_sem]; done) | (simp only [closedL, closedT, Bool.and_true]; exact closedL_map _ (fun _ => by first | rfl | (simp only [go_sem]; done)) _)) (F75_ok n a0 _ h1) (by repeat (first | exact leL_refl _ | refine leL_cons (by first | exact leT_refl _ | exact leT_virt | exact leT_junk _ | exact leT_sl | exact leT_sln | exact leT_nil | (refine leT_agg (by repeat (first | exact leL_refl _ | refine leL_cons (by first | exact leT_refl _ | exact leT_sl | exact leT_sln | exact leT_nil) ?_)))) ?_)) ?_
  try simp -implicitDefEqProofs (maxSteps := 4000000) (disch := first | omega | decide | (simp only [go_sem]; omega)) only [go_sem, ↓reduceIte]
  repeat (with_reducible refine And.intro (by first | assumption | omega | (simp; done) | (simp; omega)) ?_)
  refine toEnd hC ?_
  refine endX_seq ?_
  refine runX_seq ?_
  refine runX_seq ?_
  refine runX_regionC fun C hC => ?_
  try simp -implicitDefEqProofs (disch := omega) only [go_sem, ↓reduceIte]
  rcases iteB_some h with ⟨c2, h⟩ | ⟨c2, h⟩
  ·refine guardK_F c2 ?_
   try simp -implicitDefEqProofs (disch := omega) only [go_sem, ↓reduceIte]
   refine toEnd hC ?_
   refine endX_seq ?_
   refine runX_condT rfl rfl ?_
   refine runX_seq ?_
   refine runX_regionC fun C hC => ?_
   try simp -implicitDefEqProofs (disch := omega) only [go_sem, ↓reduceIte]
   refine toEnd hC ?_
   refine endX_seq ?_
   refine runX_ret ?_
   refine endX_seqR ?_
   refine endX_q ?_
   obtain rfl := Option.some.inj h
   show RetW _ _ _ _ _
   simp only [RetW]
   (try simp -implicitDefEqProofs (disch := omega) only [go_sem, ↓reduceIte])
   (try simp (disch := omega) only [if_pos, Nat.sub_zero])
   first | exact leT_refl _ | (refine ⟨rfl, ?_⟩; first | exact leT_refl _ | exact leT_sl | exact leT_sln | exact leT_nil | (refine leT_tup (by repeat (first | exact leL_refl _ | refine leL_cons (by first | exact leT_refl _ | exact leT_virt | exact leT_junk _ | exact leT_sl | exact leT_sln | exact leT_nil | (refine leT_agg (by repeat (first | exact leL_refl _ | refine leL_cons (by first | exact leT_refl _ | exact leT_sl | exact leT_sln | exact leT_nil) ?_)))) ?_))) | (refine leT_agg (by repeat (first | exact leL_refl _ | refine leL_cons (by first | exact leT_refl _ | exact leT_virt | exact leT_junk _ | exact leT_sl | exact leT_sln | exact leT_nil | (refine leT_agg (by repeat (first | exact leL_refl _ | refine leL_cons (by first | exact leT_refl _ | exact leT_sl | exact leT_sln | exact leT_nil) ?_)))) ?_)))) | (first | exact leT_refl _ | exact leT_sl | exact leT_sln | exact leT_nil | (refine leT_tup (by repeat (first | exact leL_refl _ | refine leL_cons (by first | exact leT_refl _ | exact leT_virt | exact leT_junk _ | exact leT_sl | exact leT_sln | exact leT_nil | (refine leT_agg (by repeat (first | exact leL_refl _ | refine leL_cons (by first | exact leT_refl _ | exact leT_sl | exact leT_sln | exact leT_nil) ?_)))) ?_))) | (refine leT_agg (by repeat (first | exact leL_refl _ | refine leL_cons (by first | exact leT_refl _ | exact leT_virt | exact leT_junk _ | exact leT_sl | exact leT_sln | exact leT_nil | (refine leT_agg (by repeat (first | exact leL_refl _ | refine leL_cons (by first | exact leT_refl _ | exact leT_sl | exact leT_sln | exact leT_nil) ?_)))) ?_)))) | (simp only [List.append_assoc, List.cons_append, List.nil_append]; exact leT_refl _) | (rw [List.take_of_length_le (by simp)]; (try simp only [List.append_assoc, List.cons_append, List.nil_append]); exact leT_refl _)
  ·refine guardK_T c2 ?_
   try simp -implicitDefEqProofs (disch := omega) only [go_sem, ↓reduceIte]
   refine toEnd hC ?_
   refine endX_seq ?_
   rcases iteB_some h with ⟨c3, h⟩ | ⟨c3, h⟩
   ·refine runX_condT rfl c3 ?_
    refine runX_seq ?_
    refine runX_regionC fun C hC => ?_
    try simp -implicitDefEqProofs (disch := omega) only [go_sem, ↓reduceIte]
    refine toEnd hC ?_
    refine endX_seq ?_
    refine runX_ret ?_
    refine endX_seqR ?_
    refine endX_q ?_
    obtain rfl := Option.some.inj h
    show RetW _ _ _ _ _
    simp only [RetW]
    (try simp -implicitDefEqProofs (disch := omega) only [go_sem, ↓reduceIte])
    (try simp (disch := omega) only [if_pos, Nat.sub_zero])
    first | exact leT_refl _ | (refine ⟨rfl, ?_⟩; first | exact leT_refl _ | exact leT_sl | exact leT_sln | exact leT_nil | (refine leT_tup (by repeat (first | exact leL_refl _ | refine leL_cons (by first | exact leT_refl _ | exact leT_virt | exact leT_junk _ | exact leT_sl | exact leT_sln | exact leT_nil | (refine leT_agg (by repeat (first | exact leL_refl _ | refine leL_cons (by first | exact leT_refl _ | exact leT_sl | exact leT_sln | exact leT_nil) ?_)))) ?_))) | (refine leT_agg (by repeat (first | exact leL_refl _ | refine leL_cons (by first | exact leT_refl _ | exact leT_virt | exact leT_junk _ | exact leT_sl | exact leT_sln | exact leT_nil | (refine leT_agg (by repeat (first | exact leL_refl _ | refine leL_cons (by first | exact leT_refl _ | exact leT_sl | exact leT_sln | exact leT_nil) ?_)))) ?_)))) | (first | exact leT_refl _ | exact leT_sl | exact leT_sln | exact leT_nil | (refine leT_tup (by repeat (first | exact leL_refl _ | refine leL_cons (by first | exact leT_refl _ | exact leT_virt | exact leT_junk _ | exact leT_sl | exact leT_sln | exact leT_nil | (refine leT_agg (by repeat (first | exact leL_refl _ | refine leL_cons (by first | exact leT_refl _ | exact leT_sl | exact leT_sln | exact leT_nil) ?_)))) ?_))) | (refine leT_agg (by repeat (first | exact leL_refl _ | refine leL_cons (by first | exact leT_refl _ | exact leT_virt | exact leT_junk _ | exact leT_sl | exact leT_sln | exact leT_nil | (refine leT_agg (by repeat (first | exact leL_refl _ | refine leL_cons (by first | exact leT_refl _ | exact leT_sl | exact leT_sln | exact leT_nil) ?_)))) ?_)))) | (simp only [List.append_assoc, List.cons_append, List.nil_append]; exact leT_refl _) | (rw [List.take_of_length_le (by simp)]; (try simp only [List.append_assoc, List.cons_append, List.nil_append]); exact leT_refl _)
   ·refine runX_condF rfl c3 ?_
    refine runX_skip ?_
    refine endX_seq ?_
    refine runX_seq ?_
    refine runX_regionC fun C hC => ?_
    try simp -implicitDefEqProofs (disch := omega) only [go_sem, ↓reduceIte]
    refine toEnd hC ?_
    refine endX_seq ?_
    refine runX_ret ?_
    refine endX_q ?_
    obtain rfl := Option.some.inj h
    show RetW _ _ _ _ _
    simp only [RetW]
    (try simp -implicitDefEqProofs (disch := omega) only [go_sem, ↓reduceIte])
    (try simp (disch := omega) only [if_pos, Nat.sub_zero])
    first | exact leT_refl _ | (refine ⟨rfl, ?_⟩; first | exact leT_refl _ | exact leT_sl | exact leT_sln | exact leT_nil | (refine leT_tup (by repeat (first | exact leL_refl _ | refine leL_cons (by first | exact leT_refl _ | exact leT_virt | exact leT_junk _ | exact leT_sl | exact leT_sln | exact leT_nil | (refine leT_agg (by repeat (first | exact leL_refl _ | refine leL_cons (by first | exact leT_refl _ | exact leT_sl | exact leT_sln | exact leT_nil) ?_)))) ?_))) | (refine leT_agg (by repeat (first | exact leL_refl _ | refine leL_cons (by first | exact leT_refl _ | exact leT_virt | exact leT_junk _ | exact leT_sl | exact leT_sln | exact leT_nil | (refine leT_agg (by repeat (first | exact leL_refl _ | refine leL_cons (by first | exact leT_refl _ | exact leT_sl | exact leT_sln | exact leT_nil) ?_)))) ?_)))) | (first | exact leT_refl _ | exact leT_sl | exact leT_sln | exact leT_nil | (refine leT_tup (by repeat (first | exact leL_refl _ | refine leL_cons (by first | exact leT_refl _ | exact leT_virt | exact leT_junk _ | exact leT_sl | exact leT_sln | exact leT_nil | (refine leT_agg (by repeat (first | exact leL_refl _ | refine leL_cons (by first | exact leT_refl _ | exact leT_sl | exact leT_sln | exact leT_nil) ?_)))) ?_))) | (refine leT_agg (by repeat (first | exact leL_refl _ | refine leL_cons (by first | exact leT_refl _ | exact leT_virt | exact leT_junk _ | exact leT_sl | exact leT_sln | exact leT_nil | (refine leT_agg (by repeat (first | exact leL_refl _ | refine leL_cons (by first | exact leT_refl _ | exact leT_sl | exact leT_sln | exact leT_nil) ?_)))) ?_)))) | (simp only [List.append_assoc, List.cons_append, List.nil_append]; exact leT_refl _) | (rw [List.take_of_length_le (by simp)]; (try simp only [List.append_assoc, List.cons_append, List.nil_append]); exact leT_refl _)
end Go.Proofs.YtaiapalhdejngaaX

set_option linter.unusedVariables false
set_option linter.unusedSimpArgs false
namespace Go.Proofs.YtaiapalhdejngaaX
open Go Go.RowKit Go.Proofs
set_option maxRecDepth 100000
attribute [local go_sem ↓] stepsK_build stepsK_bs appendS
attribute [local go_sem] String.reduceEq String.reduceNe reduceCtorEq Int.reduceEq Nat.reduceAdd Nat.reduceSub Nat.reduceMul Nat.reduceLT Nat.reduceLeDiff Nat.reduceEqDiff Nat.reduceBEq Int.reduceToNat Int.reduceLT Int.reduceLE Int.reduceGT Int.reduceGE Int.reduceAdd Int.reduceSub Int.reduceMul Int.reduceNeg Int.reduceBEq Int.reduceBNe Int.reducePow Int.reduceDiv Int.reduceMod Int.reduceTDiv Int.reduceTMod Int.reduceNatCast
/-! ### shadowboxref04.Kind -/
def F71 (n : Nat) (a0 : Int) : Option (Int) := iteB (decide ((48 : Int) ≤ a0)) (iteB (decide (a0 ≤ (57 : Int))) (some (1 : Int)) (iteB (decide ((97 : Int) ≤ a0)) (iteB (decide (a0 ≤ (102 : Int))) (some (2 : Int)) (iteB (decide ((103 : Int) ≤ a0)) (iteB (decide (a0 ≤ (122 : Int))) (some (3 : Int)) (iteB (decide ((65 : Int) ≤ a0)) (iteB (decide (a0 ≤ (90 : Int))) (some (4 : Int)) (some (0 : Int))) (some (0 : Int)))) (iteB (decide ((65 : Int) ≤ a0)) (iteB (decide (a0 ≤ (90 : Int))) (some (4 : Int)) (some (0 : Int))) (some (0 : Int))))) (iteB (decide ((103 : Int) ≤ a0)) (iteB (decide (a0 ≤ (122 : Int))) (some (3 : Int)) (iteB (decide ((65 : Int) ≤ a0)) (iteB (decide (a0 ≤ (90 : Int))) (some (4 : Int)) (some (0 : Int))) (some (0 : Int)))) (iteB (decide ((65 : Int) ≤ a0)) (iteB (decide (a0 ≤ (90 : Int))) (some (4 : Int)) (some (0 : Int))) (some (0 : Int)))))) (iteB (decide ((97 : Int) ≤ a0)) (iteB (decide (a0 ≤ (102 : Int))) (some (2 : Int)) (iteB (decide ((103 : Int) ≤ a0)) (iteB (decide (a0 ≤ (122 : Int))) (some (3 : Int)) (iteB (decide ((65 : Int) ≤ a0)) (iteB (decide (a0 ≤ (90 : Int))) (some (4 : Int)) (some (0 : Int))) (some (0 : Int)))) (iteB (decide ((65 : Int) ≤ a0)) (iteB (decide (a0 ≤ (90 : Int))) (some (4 : Int)) (some (0 : Int))) (some (0 : Int))))) (iteB (decide ((103 : Int) ≤ a0)) (iteB (decide (a0 ≤ (122 : Int))) (some (3 : Int)) (iteB (decide ((65 : Int) ≤ a0)) (iteB (decide (a0 ≤ (90 : Int))) (some (4 : Int)) (some (0 : Int))) (some (0 : Int)))) (iteB (decide ((65 : Int) ≤ a0)) (iteB (decide (a0 ≤ (90 : Int))) (some (4 : Int)) (some (0 : Int))) (some (0 : Int)))))
set_option maxHeartbeats 4000000 in
theorem F71_ok : ∀ (n : Nat) (a0 : Int) (r : Int), F71 n a0 = some r → FnC Try.prog 71 [.imm (.int .u8 a0)] (.imm (.int .i64 r))
 | n, a0, r, h => by
  unfold F71 at h
  refine FnC.goX mixed Try.func71 (by kernel_rfl) rfl ?_
  simp only [Try.ntmps71, List.length_cons, List.length_nil, List.replicate, List.cons_append, List.nil_append, Nat.reduceAdd, Nat.reduceSub]
  refine runX_seq ?_
  refine runX_regionC fun C hC => ?_
  try simp -implicitDefEqProofs (disch := omega) only [go_sem, ↓reduceIte]
  refine toEnd hC ?_
  refine endX_seq ?_
  refine runX_seq ?_
  refine runX_seq ?_
  refine runX_regionC fun C hC => ?_
  try simp -implicitDefEqProofs (disch := omega) only [go_sem, ↓reduceIte]
  rcases iteB_some h with ⟨c1, h⟩ | ⟨c1, h⟩
  ·refine guardK_T c1 ?_
   try simp -implicitDefEqProofs (disch := omega) only [go_sem, ↓reduceIte]
   refine toEnd hC ?_
   refine endX_seq ?_
   rcases iteB_some h with ⟨c2, h⟩ | ⟨c2, h⟩
   ·refine runX_condT rfl c2 ?_
    refine runX_seq ?_
    refine runX_regionC fun C hC => ?_
    try simp -implicitDefEqProofs (disch := omega) only [go_sem, ↓reduceIte]
    refine toEnd hC ?_
    refine endX_seq ?_
    refine runX_ret ?_
    refine endX_seqR ?_
    refine endX_q ?_
    obtain rfl := Option.some.inj h
    show RetW _ _ _ _ _
    simp only [RetW]
    (try simp -implicitDefEqProofs (disch := omega) only [go_sem, ↓reduceIte])
    (try simp (disch := omega) only [if_pos, Nat.sub_zero])
    exact leT_refl _
   ·refine runX_condF rfl c2 ?_
    refine runX_skip ?_
    refine endX_seq ?_
    refine runX_seq ?_
    refine runX_seq ?_
    refine runX_regionC fun C hC => ?_
    try simp -implicitDefEqProofs (disch := omega) only [go_sem, ↓reduceIte]
    rcases iteB_some h with ⟨c3, h⟩ | ⟨c3, h⟩
    ·refine guardK_T c3 ?_
     try simp -implicitDefEqProofs (disch := omega) only [go_sem, ↓reduceIte]
     refine toEnd hC ?_
     refine endX_seq ?_
     rcases iteB_some h with ⟨c4, h⟩ | ⟨c4, h⟩
     ·refine runX_condT rfl c4 ?_
      refine runX_seq ?_
      refine runX_regionC fun C hC => ?_
      try simp -implicitDefEqProofs (disch := omega) only [go_sem, ↓reduceIte]
      refine toEnd hC ?_
      refine endX_seq ?_
      refine runX_ret ?_
      refine endX_seqR ?_
      refine endX_q ?_
      obtain rfl := Option.some.inj h
      show RetW _ _ _ _ _
      simp only [RetW]
      (try simp -implicitDefEqProofs (disch := omega) only [go_sem, ↓reduceIte])
      (try simp (disch := omega) only [if_pos, Nat.sub_zero])
      exact leT_refl _
     ·refine runX_condF rfl c4 ?_
      refine runX_skip ?_
      refine endX_seq ?_
      refine runX_seq ?_
      refine runX_seq ?_
      refine runX_regionC fun C hC => ?_
      try simp -implicitDefEqProofs (disch := omega) only [go_sem, ↓reduceIte]
      rcases iteB_some h with ⟨c5, h⟩ | ⟨c5, h⟩
      ·refine guardK_T c5 ?_
       try simp -implicitDefEqProofs (disch := omega) only [go_sem, ↓reduceIte]
       refine toEnd hC ?_
       refine endX_seq ?_
       rcases iteB_some h with ⟨c6, h⟩ | ⟨c6, h⟩
       ·refine runX_condT rfl c6 ?_
        refine runX_seq ?_
        refine runX_regionC fun C hC => ?_
        try simp -implicitDefEqProofs (disch := omega) only [go_sem, ↓reduceIte]
        refine toEnd hC ?_
        refine endX_seq ?_
        refine runX_ret ?_
        refine endX_seqR ?_
        refine endX_q ?_
        obtain rfl := Option.some.inj h
        show RetW _ _ _ _ _
        simp only [RetW]
        (try simp -implicitDefEqProofs (disch := omega) only [go_sem, ↓reduceIte])
        (try simp (disch := omega) only [if_pos, Nat.sub_zero])
        exact leT_refl _
       ·refine runX_condF rfl c6 ?_
        refine runX_skip ?_
        refine endX_seq ?_
        refine runX_seq ?_
        refine runX_seq ?_
        refine runX_regionC fun C hC => ?_
        try simp -implicitDefEqProofs (disch := omega) only [go_sem, ↓reduceIte]
        rcases iteB_some h with ⟨c7, h⟩ | ⟨c7, h⟩
        ·refine guardK_T c7 ?_
         try simp -implicitDefEqProofs (disch := omega) only [go_sem, ↓reduceIte]
         refine toEnd hC ?_
         refine endX_seq ?_
         rcases iteB_some h with ⟨c8, h⟩ | ⟨c8, h⟩
         ·refine runX_condT rfl c8 ?_
          refine runX_seq ?_
          refine runX_regionC fun C hC => ?_
          try simp -implicitDefEqProofs (disch := omega) only [go_sem, ↓reduceIte]
          refine toEnd hC ?_
          refine endX_seq ?_
          refine runX_ret ?_
          refine endX_seqR ?_
          refine endX_q ?_
          obtain rfl := Option.some.inj h
          show RetW _ _ _ _ _
          simp only [RetW]
          (try simp -implicitDefEqProofs (disch := omega) only [go_sem, ↓reduceIte])
          (try simp (disch := omega) only [if_pos, Nat.sub_zero])
          exact leT_refl _
         ·refine runX_condF rfl c8 ?_
          refine runX_skip ?_
          refine endX_seq ?_
          refine runX_seq ?_
          refine runX_regionC fun C hC => ?_
          try simp -implicitDefEqProofs (disch := omega) only [go_sem, ↓reduceIte]
          refine toEnd hC ?_
          refine endX_seq ?_
          refine runX_ret ?_
          refine endX_q ?_
          obtain rfl := Option.some.inj h
          show RetW _ _ _ _ _
          simp only [RetW]
          (try simp -implicitDefEqProofs (disch := omega) only [go_sem, ↓reduceIte])
          (try simp (disch := omega) only [if_pos, Nat.sub_zero])
          exact leT_refl _
        ·refine guardK_F c7 ?_
         try simp -implicitDefEqProofs (disch := omega) only [go_sem, ↓reduceIte]
         refine toEnd hC ?_
         refine endX_seq ?_
         refine runX_condF rfl rfl ?_
         refine runX_skip ?_
         refine endX_seq ?_
         refine runX_seq ?_
         refine runX_regionC fun C hC => ?_
         try simp -implicitDefEqProofs (disch := omega) only [go_sem, ↓reduceIte]
         refine toEnd hC ?_
         refine endX_seq ?_
         refine runX_ret ?_
         refine endX_q ?_
         obtain rfl := Option.some.inj h
         show RetW _ _ _ _ _
         simp only [RetW]
         (try simp -implicitDefEqProofs (disch := omega) only [go_sem, ↓reduceIte])
         (try simp (disch := omega) only [if_pos, Nat.sub_zero])
         exact leT_refl _
      ·refine guardK_F c5 ?_
       try simp -implicitDefEqProofs (disch := omega) only [go_sem, ↓reduceIte]
       refine toEnd hC ?_
       refine endX_seq ?_
       refine runX_condF rfl rfl ?_
       refine runX_skip ?_
       refine endX_seq ?_
       refine runX_seq ?_
       refine runX_seq ?_
       refine runX_regionC fun C hC => ?_
       try simp -implicitDefEqProofs (disch := omega) only [go_sem, ↓reduceIte]
       rcases iteB_some h with ⟨c9, h⟩ | ⟨c9, h⟩
       ·refine guardK_T c9 ?_
        try simp -implicitDefEqProofs (disch := omega) only [go_sem, ↓reduceIte]
        refine toEnd hC ?_
        refine endX_seq ?_
        rcases iteB_some h with ⟨c10, h⟩ | ⟨c10, h⟩
        ·refine runX_condT rfl c10 ?_
         refine runX_seq ?_
         refine runX_regionC fun C hC => ?_
         try simp -implicitDefEqProofs (disch := omega) only [go_sem, ↓reduceIte]
         refine toEnd hC ?_
         refine endX_seq ?_
         refine runX_ret ?_
         refine endX_seqR ?_
         refine endX_q ?_
         obtain rfl := Option.some.inj h
         show RetW _ _ _ _ _
         simp only [RetW]
         (try simp -implicitDefEqProofs (disch := omega) only [go_sem, ↓reduceIte])
         (try simp (disch := omega) only [if_pos, Nat.sub_zero])
         exact leT_refl _
        ·refine runX_condF rfl c10 ?_
         refine runX_skip ?_
         refine endX_seq ?_
         refine runX_seq ?_
         refine runX_regionC fun C hC => ?_
         try simp -implicitDefEqProofs (disch := omega) only [go_sem, ↓reduceIte]
         refine toEnd hC ?_
         refine endX_seq ?_
         refine runX_ret ?_
         refine endX_q ?_
         obtain rfl := Option.some.inj h
         show RetW _ _ _ _ _
         simp only [RetW]
         (try simp -implicitDefEqProofs (disch := omega) only [go_sem, ↓reduceIte])
         (try simp (disch := omega) only [if_pos, Nat.sub_zero])
         exact leT_refl _
       ·refine guardK_F c9 ?_
        try simp -implicitDefEqProofs (disch := omega) only [go_sem, ↓reduceIte]
        refine toEnd hC ?_
        refine endX_seq ?_
        refine runX_condF rfl rfl ?_
        refine runX_skip ?_
        refine endX_seq ?_
        refine runX_seq ?_
        refine runX_regionC fun C hC => ?_
        try simp -implicitDefEqProofs (disch := omega) only [go_sem, ↓reduceIte]
        refine toEnd hC ?_
        refine endX_seq ?_
        refine runX_ret ?_
        refine endX_q ?_
        obtain rfl := Option.some.inj h
        show RetW _ _ _ _ _
        simp only [RetW]
        (try simp -implicitDefEqProofs (disch := omega) only [go_sem, ↓reduceIte])
        (try simp (disch := omega) only [if_pos, Nat.sub_zero])
        exact leT_refl _
    ·refine guardK_F c3 ?_
     try simp -implicitDefEqProofs (disch := omega) only [go_sem, ↓reduceIte]
     refine toEnd hC ?_
     refine endX_seq ?_
     refine runX_condF rfl rfl ?_
     refine runX_skip ?_
     refine endX_seq ?_
     refine runX_seq ?_
     refine runX_seq ?_
     refine runX_regionC fun C hC => ?_
     try simp -implicitDefEqProofs (disch := omega) only [go_sem, ↓reduceIte]
     rcases iteB_some h with ⟨c11, h⟩ | ⟨c11, h⟩
     ·refine guardK_T c11 ?_
      try simp -implicitDefEqProofs (disch := omega) only [go_sem, ↓reduceIte]
      refine toEnd hC ?_
      refine endX_seq ?_
      rcases iteB_some h with ⟨c12, h⟩ | ⟨c12, h⟩
      ·refine runX_condT rfl c12 ?_
       refine runX_seq ?_
       refine runX_regionC fun C hC => ?_
       try simp -implicitDefEqProofs (disch := omega) only [go_sem, ↓reduceIte]
       refine toEnd hC ?_
       refine endX_seq ?_
       refine runX_ret ?_
       refine endX_seqR ?_
       refine endX_q ?_
       obtain rfl := Option.some.inj h
       show RetW _ _ _ _ _
       simp only [RetW]
       (try simp -implicitDefEqProofs (disch := omega) only [go_sem, ↓reduceIte])
       (try simp (disch := omega) only [if_pos, Nat.sub_zero])
       exact leT_refl _
      ·refine runX_condF rfl c12 ?_
       refine runX_skip ?_
       refine endX_seq ?_
       refine runX_seq ?_
       refine runX_seq ?_
       refine runX_regionC fun C hC => ?_
       try simp -implicitDefEqProofs (disch := omega) only [go_sem, ↓reduceIte]
       rcases iteB_some h with ⟨c13, h⟩ | ⟨c13, h⟩
       ·refine guardK_T c13 ?_
        try simp -implicitDefEqProofs (disch := omega) only [go_sem, ↓reduceIte]
        refine toEnd hC ?_
        refine endX_seq ?_
        rcases iteB_some h with ⟨c14, h⟩ | ⟨c14, h⟩
        ·refine runX_condT rfl c14 ?_
         refine runX_seq ?_
         refine runX_regionC fun C hC => ?_
         try simp -implicitDefEqProofs (disch := omega) only [go_sem, ↓reduceIte]
         refine toEnd hC ?_
         refine endX_seq ?_
         refine runX_ret ?_
         refine endX_seqR ?_
         refine endX_q ?_
         obtain rfl := Option.some.inj h
         show RetW _ _ _ _ _
         simp only [RetW]
         (try simp -implicitDefEqProofs (disch := omega) only [go_sem, ↓reduceIte])
         (try simp (disch := omega) only [if_pos, Nat.sub_zero])
         exact leT_refl _
        ·refine runX_condF rfl c14 ?_
         refine runX_skip ?_
         refine endX_seq ?_
         refine runX_seq ?_
         refine runX_regionC fun C hC => ?_
         try simp -implicitDefEqProofs (disch := omega) only [go_sem, ↓reduceIte]
         refine toEnd hC ?_
         refine endX_seq ?_
         refine runX_ret ?_
         refine endX_q ?_
         obtain rfl := Option.some.inj h
         show RetW _ _ _ _ _
         simp only [RetW]
         (try simp -implicitDefEqProofs (disch := omega) only [go_sem, ↓reduceIte])
         (try simp (disch := omega) only [if_pos, Nat.sub_zero])
         exact leT_refl _
       ·refine guardK_F c13 ?_
        try simp -implicitDefEqProofs (disch := omega) only [go_sem, ↓reduceIte]
        refine toEnd hC ?_
        refine endX_seq ?_
        refine runX_condF rfl rfl ?_
        refine runX_skip ?_
        refine endX_seq ?_
        refine runX_seq ?_
        refine runX_regionC fun C hC => ?_
        try simp -implicitDefEqProofs (disch := omega) only [go_sem, ↓reduceIte]
        refine toEnd hC ?_
        refine endX_seq ?_
        refine runX_ret ?_
        refine endX_q ?_
        obtain rfl := Option.some.inj h
        show RetW _ _ _ _ _
        simp only [RetW]
        (try simp -implicitDefEqProofs (disch := omega) only [go_sem, ↓reduceIte])
        (try simp (disch := omega) only [if_pos, Nat.sub_zero])
        exact leT_refl _
     ·refine guardK_F c11 ?_
      try simp -implicitDefEqProofs (disch := omega) only [go_sem, ↓reduceIte]
      refine toEnd hC ?_
      refine endX_seq ?_
      refine runX_condF rfl rfl ?_
      refine runX_skip ?_
      refine endX_seq ?_
      refine runX_seq ?_
      refine runX_seq ?_
      refine runX_regionC fun C hC => ?_
      try simp -implicitDefEqProofs (disch := omega) only [go_sem, ↓reduceIte]
      rcases iteB_some h with ⟨c15, h⟩ | ⟨c15, h⟩
      ·refine guardK_T c15 ?_
       try simp -implicitDefEqProofs (disch := omega) only [go_sem, ↓reduceIte]
       refine toEnd hC ?_
       refine endX_seq ?_
       rcases iteB_some h with ⟨c16, h⟩ | ⟨c16, h⟩
       ·refine runX_condT rfl c16 ?_
        refine runX_seq ?_
        refine runX_regionC fun C hC => ?_
        try simp -implicitDefEqProofs (disch := omega) only [go_sem, ↓reduceIte]
        refine toEnd hC ?_
        refine endX_seq ?_
        refine runX_ret ?_
        refine endX_seqR ?_
        refine endX_q ?_
        obtain rfl := Option.some.inj h
        show RetW _ _ _ _ _
        simp only [RetW]
        (try simp -implicitDefEqProofs (disch := omega) only [go_sem, ↓reduceIte])
        (try simp (disch := omega) only [if_pos, Nat.sub_zero])
        exact leT_refl _
       ·refine runX_condF rfl c16 ?_
        refine runX_skip ?_
        refine endX_seq ?_
        refine runX_seq ?_
        refine runX_regionC fun C hC => ?_
        try simp -implicitDefEqProofs (disch := omega) only [go_sem, ↓reduceIte]
        refine toEnd hC ?_
        refine endX_seq ?_
        refine runX_ret ?_
        refine endX_q ?_
        obtain rfl := Option.some.inj h
        show RetW _ _ _ _ _
        simp only [RetW]
        (try simp -implicitDefEqProofs (disch := omega) only [go_sem, ↓reduceIte])
        (try simp (disch := omega) only [if_pos, Nat.sub_zero])
        exact leT_refl _
      ·refine guardK_F c15 ?_
       try simp -implicitDefEqProofs (disch := omega) only [go_sem, ↓reduceIte]
       refine toEnd hC ?_
       refine endX_seq ?_
       refine runX_condF rfl rfl ?_
       refine runX_skip ?_
       refine endX_seq ?_
       refine runX_seq ?_
       refine runX_regionC fun C hC => ?_
       try simp -implicitDefEqProofs (disch := omega) only [go_sem, ↓reduceIte]
       refine toEnd hC ?_
       refine endX_seq ?_
       refine runX_ret ?_
       refine endX_q ?_
       obtain rfl := Option.some.inj h
       show RetW _ _ _ _ _
       simp only [RetW]
       (try simp -implicitDefEqProofs (disch := omega) only [go_sem, ↓reduceIte])
       (try simp (disch := omega) only [if_pos, Nat.sub_zero])
       exact leT_refl _
  ·refine guardK_F c1 ?_
   try simp -implicitDefEqProofs (disch := omega) only [go_sem, ↓reduceIte]
   refine toEnd hC ?_
   refine endX_seq ?_
   refine runX_condF rfl rfl ?_
   refine runX_skip ?_
   refine endX_seq ?_
   refine runX_seq ?_
   refine runX_seq ?_
   refine runX_regionC fun C hC => ?_
   try simp -implicitDefEqProofs (disch := omega) only [go_sem, ↓reduceIte]
   rcases iteB_some h with ⟨c17, h⟩ | ⟨c17, h⟩
   ·refine guardK_T c17 ?_
    try simp -implicitDefEqProofs (disch := omega) only [go_sem, ↓reduceIte]
    refine toEnd hC ?_
    refine endX_seq ?_
    rcases iteB_some h with ⟨c18, h⟩ | ⟨c18, h⟩
    ·refine runX_condT rfl c18 ?_
     refine runX_seq ?_
     refine runX_regionC fun C hC => ?_
     try simp -implicitDefEqProofs (disch := omega) only [go_sem, ↓reduceIte]
     refine toEnd hC ?_
     refine endX_seq ?_
     refine runX_ret ?_
     refine endX_seqR ?_
     refine endX_q ?_
     obtain rfl := Option.some.inj h
     show RetW _ _ _ _ _
     simp only [RetW]
     (try simp -implicitDefEqProofs (disch := omega) only [go_sem, ↓reduceIte])
     (try simp (disch := omega) only [if_pos, Nat.sub_zero])
     exact leT_refl _
    ·refine runX_condF rfl c18 ?_
     refine runX_skip ?_
     refine endX_seq ?_
     refine runX_seq ?_
     refine runX_seq ?_
     refine runX_regionC fun C hC => ?_
     try simp -implicitDefEqProofs (disch := omega) only [go_sem, ↓reduceIte]
     rcases iteB_some h with ⟨c19, h⟩ | ⟨c19, h⟩
     ·refine guardK_T c19 ?_
      try simp -implicitDefEqProofs (disch := omega) only [go_sem, ↓reduceIte]
      refine toEnd hC ?_
      refine endX_seq ?_
      rcases iteB_some h with ⟨c20, h⟩ | ⟨c20, h⟩
      ·refine runX_condT rfl c20 ?_
       refine runX_seq ?_
       refine runX_regionC fun C hC => ?_
       try simp -implicitDefEqProofs (disch := omega) only [go_sem, ↓reduceIte]
       refine toEnd hC ?_
       refine endX_seq ?_
       refine runX_ret ?_
       refine endX_seqR ?_
       refine endX_q ?_
       obtain rfl := Option.some.inj h
       show RetW _ _ _ _ _
       simp only [RetW]
       (try simp -implicitDefEqProofs (disch := omega) only [go_sem, ↓reduceIte])
       (try simp (disch := omega) only [if_pos, Nat.sub_zero])
       exact leT_refl _
      ·refine runX_condF rfl c20 ?_
       refine runX_skip ?_
       refine endX_seq ?_
       refine runX_seq ?_
       refine runX_seq ?_
       refine runX_regionC fun C hC => ?_
       try simp -implicitDefEqProofs (disch := omega) only [go_sem, ↓reduceIte]
       rcases iteB_some h with ⟨c21, h⟩ | ⟨c21, h⟩
       ·refine guardK_T c21 ?_
        try simp -implicitDefEqProofs (disch := omega) only [go_sem, ↓reduceIte]
        refine toEnd hC ?_
        refine endX_seq ?_
        rcases iteB_some h with ⟨c22, h⟩ | ⟨c22, h⟩
        ·refine runX_condT rfl c22 ?_
         refine runX_seq ?_
         refine runX_regionC fun C hC => ?_
         try simp -implicitDefEqProofs (disch := omega) only [go_sem, ↓reduceIte]
         refine toEnd hC ?_
         refine endX_seq ?_
         refine runX_ret ?_
         refine endX_seqR ?_
         refine endX_q ?_
         obtain rfl := Option.some.inj h
         show RetW _ _ _ _ _
         simp only [RetW]
         (try simp -implicitDefEqProofs (disch := omega) only [go_sem, ↓reduceIte])
         (try simp (disch := omega) only [if_pos, Nat.sub_zero])
         exact leT_refl _
        ·refine runX_condF rfl c22 ?_
         refine runX_skip ?_
         refine endX_seq ?_
         refine runX_seq ?_
         refine runX_regionC fun C hC => ?_
         try simp -implicitDefEqProofs (disch := omega) only [go_sem, ↓reduceIte]
         refine toEnd hC ?_
         refine endX_seq ?_
         refine runX_ret ?_
         refine endX_q ?_
         obtain rfl := Option.some.inj h
         show RetW _ _ _ _ _
         simp only [RetW]
         (try simp -implicitDefEqProofs (disch := omega) only [go_sem, ↓reduceIte])
         (try simp (disch := omega) only [if_pos, Nat.sub_zero])
         exact leT_refl _
       ·refine guardK_F c21 ?_
        try simp -implicitDefEqProofs (disch := omega) only [go_sem, ↓reduceIte]
        refine toEnd hC ?_
        refine endX_seq ?_
        refine runX_condF rfl rfl ?_
        refine runX_skip ?_
        refine endX_seq ?_
        refine runX_seq ?_
        refine runX_regionC fun C hC => ?_
        try simp -implicitDefEqProofs (disch := omega) only [go_sem, ↓reduceIte]
        refine toEnd hC ?_
        refine endX_seq ?_
        refine runX_ret ?_
        refine endX_q ?_
        obtain rfl := Option.some.inj h
        show RetW _ _ _ _ _
        simp only [RetW]
        (try simp -implicitDefEqProofs (disch := omega) only [go_sem, ↓reduceIte])
        (try simp (disch := omega) only [if_pos, Nat.sub_zero])
        exact leT_refl _
     ·refine guardK_F c19 ?_
      try simp -implicitDefEqProofs (disch := omega) only [go_sem, ↓reduceIte]
      refine toEnd hC ?_
      refine endX_seq ?_
      refine runX_condF rfl rfl ?_
      refine runX_skip ?_
      refine endX_seq ?_
      refine runX_seq ?_
      refine runX_seq ?_
      refine runX_regionC fun C hC => ?_
      try simp -implicitDefEqProofs (disch := omega) only [go_sem, ↓reduceIte]
      rcases iteB_some h with ⟨c23, h⟩ | ⟨c23, h⟩
      ·refine guardK_T c23 ?_
       try simp -implicitDefEqProofs (disch := omega) only [go_sem, ↓reduceIte]
       refine toEnd hC ?_
       refine endX_seq ?_
       rcases iteB_some h with ⟨c24, h⟩ | ⟨c24, h⟩
       ·refine runX_condT rfl c24 ?_
        refine runX_seq ?_
        refine runX_regionC fun C hC => ?_
        try simp -implicitDefEqProofs (disch := omega) only [go_sem, ↓reduceIte]
        refine toEnd hC ?_
        refine endX_seq ?_
        refine runX_ret ?_
        refine endX_seqR ?_
        refine endX_q ?_
        obtain rfl := Option.some.inj h
        show RetW _ _ _ _ _
        simp only [RetW]
        (try simp -implicitDefEqProofs (disch := omega) only [go_sem, ↓reduceIte])
        (try simp (disch := omega) only [if_pos, Nat.sub_zero])
        exact leT_refl _
       ·refine runX_condF rfl c24 ?_
        refine runX_skip ?_
        refine endX_seq ?_
        refine runX_seq ?_
        refine runX_regionC fun C hC => ?_
        try simp -implicitDefEqProofs (disch := omega) only [go_sem, ↓reduceIte]
        refine toEnd hC ?_
        refine endX_seq ?_
        refine runX_ret ?_
        refine endX_q ?_
        obtain rfl := Option.some.inj h
        show RetW _ _ _ _ _
        simp only [RetW]
        (try simp -implicitDefEqProofs (disch := omega) only [go_sem, ↓reduceIte])
        (try simp (disch := omega) only [if_pos, Nat.sub_zero])
        exact leT_refl _
      ·refine guardK_F c23 ?_
       try simp -implicitDefEqProofs (disch := omega) only [go_sem, ↓reduceIte]
       refine toEnd hC ?_
       refine endX_seq ?_
       refine runX_condF rfl rfl ?_
       refine runX_skip ?_
       refine endX_seq ?_
       refine runX_seq ?_
       refine runX_regionC fun C hC => ?_
       try simp -implicitDefEqProofs (disch := omega) only [go_sem, ↓reduceIte]
       refine toEnd hC ?_
       refine endX_seq ?_
       refine runX_ret ?_
       refine endX_q ?_
       obtain rfl := Option.some.inj h
       show RetW _ _ _ _ _
       simp only [RetW]
       (try simp -implicitDefEqProofs (disch := omega) only [go_sem, ↓reduceIte])
       (try simp (disch := omega) only [if_pos, Nat.sub_zero])
       exact leT_refl _
   ·refine guardK_F c17 ?_
    try simp -implicitDefEqProofs (disch := omega) only [go_sem, ↓reduceIte]
    refine toEnd hC ?_
    refine endX_seq ?_
    refine runX_condF rfl rfl ?_
    refine runX_skip ?_
    refine endX_seq ?_
    refine runX_seq ?_
    refine runX_seq ?_
    refine runX_regionC fun C hC => ?_
    try simp -implicitDefEqProofs (disch := omega) only [go_sem, ↓reduceIte]
    rcases iteB_some h with ⟨c25, h⟩ | ⟨c25, h⟩
    ·refine guardK_T c25 ?_
     try simp -implicitDefEqProofs (disch := omega) only [go_sem, ↓reduceIte]
     refine toEnd hC ?_
     refine endX_seq ?_
     rcases iteB_some h with ⟨c26, h⟩ | ⟨c26, h⟩
     ·refine runX_condT rfl c26 ?_
      refine runX_seq ?_
      refine runX_regionC fun C hC => ?_
      try simp -implicitDefEqProofs (disch := omega) only [go_sem, ↓reduceIte]
      refine toEnd hC ?_
      refine endX_seq ?_
      refine runX_ret ?_
      refine endX_seqR ?_
      refine endX_q ?_
      obtain rfl := Option.some.inj h
      show RetW _ _ _ _ _
      simp only [RetW]
      (try simp -implicitDefEqProofs (disch := omega) only [go_sem, ↓reduceIte])
      (try simp (disch := omega) only [if_pos, Nat.sub_zero])
      exact leT_refl _
     ·refine runX_condF rfl c26 ?_
      refine runX_skip ?_
      refine endX_seq ?_
      refine runX_seq ?_
      refine runX_seq ?_
      refine runX_regionC fun C hC => ?_
      try simp -implicitDefEqProofs (disch := omega) only [go_sem, ↓reduceIte]
      rcases iteB_some h with ⟨c27, h⟩ | ⟨c27, h⟩
      ·refine guardK_T c27 ?_
       try simp -implicitDefEqProofs (disch := omega) only [go_sem, ↓reduceIte]
       refine toEnd hC ?_
       refine endX_seq ?_
       rcases iteB_some h with ⟨c28, h⟩ | ⟨c28, h⟩
       ·refine runX_condT rfl c28 ?_
        refine runX_seq ?_
        refine runX_regionC fun C hC => ?_
        try simp -implicitDefEqProofs (disch := omega) only [go_sem, ↓reduceIte]
        refine toEnd hC ?_
        refine endX_seq ?_
        refine runX_ret ?_
        refine endX_seqR ?_
        refine endX_q ?_
        obtain rfl := Option.some.inj h
        show RetW _ _ _ _ _
        simp only [RetW]
        (try simp -implicitDefEqProofs (disch := omega) only [go_sem, ↓reduceIte])
        (try simp (disch := omega) only [if_pos, Nat.sub_zero])
        exact leT_refl _
       ·refine runX_condF rfl c28 ?_
        refine runX_skip ?_
        refine endX_seq ?_
        refine runX_seq ?_
        refine runX_regionC fun C hC => ?_
        try simp -implicitDefEqProofs (disch := omega) only [go_sem, ↓reduceIte]
        refine toEnd hC ?_
        refine endX_seq ?_
        refine runX_ret ?_
        refine endX_q ?_
        obtain rfl := Option.some.inj h
        show RetW _ _ _ _ _
        simp only [RetW]
        (try simp -implicitDefEqProofs (disch := omega) only [go_sem, ↓reduceIte])
        (try simp (disch := omega) only [if_pos, Nat.sub_zero])
        exact leT_refl _
      ·refine guardK_F c27 ?_
       try simp -implicitDefEqProofs (disch := omega) only [go_sem, ↓reduceIte]
       refine toEnd hC ?_
       refine endX_seq ?_
       refine runX_condF rfl rfl ?_
       refine runX_skip ?_
       refine endX_seq ?_
       refine runX_seq ?_
       refine runX_regionC fun C hC => ?_
       try simp -implicitDefEqProofs (disch := omega) only [go_sem, ↓reduceIte]
       refine toEnd hC ?_
       refine endX_seq ?_
       refine runX_ret ?_
       refine endX_q ?_
       obtain rfl := Option.some.inj h
       show RetW _ _ _ _ _
       simp only [RetW]
       (try simp -implicitDefEqProofs (disch := omega) only [go_sem, ↓reduceIte])
       (try simp (disch := omega) only [if_pos, Nat.sub_zero])
       exact leT_refl _
    ·refine guardK_F c25 ?_
     try simp -implicitDefEqProofs (disch := omega) only [go_sem, ↓reduceIte]
     refine toEnd hC ?_
     refine endX_seq ?_
     refine runX_condF rfl rfl ?_
     refine runX_skip ?_
     refine endX_seq ?_
     refine runX_seq ?_
     refine runX_seq ?_
     refine runX_regionC fun C hC => ?_
     try simp -implicitDefEqProofs (disch := omega) only [go_sem, ↓reduceIte]
     rcases iteB_some h with ⟨c29, h⟩ | ⟨c29, h⟩
     ·refine guardK_T c29 ?_
      try simp -implicitDefEqProofs (disch := omega) only [go_sem, ↓reduceIte]
      refine toEnd hC ?_
      refine endX_seq ?_
      rcases iteB_some h with ⟨c30, h⟩ | ⟨c30, h⟩
      ·refine runX_condT rfl c30 ?_
       refine runX_seq ?_
       refine runX_regionC fun C hC => ?_
       try simp -implicitDefEqProofs (disch := omega) only [go_sem, ↓reduceIte]
       refine toEnd hC ?_
       refine endX_seq ?_
       refine runX_ret ?_
       refine endX_seqR ?_
       refine endX_q ?_
       obtain rfl := Option.some.inj h
       show RetW _ _ _ _ _
       simp only [RetW]
       (try simp -implicitDefEqProofs (disch := omega) only [go_sem, ↓reduceIte])
       (try simp (disch := omega) only [if_pos, Nat.sub_zero])
       exact leT_refl _
      ·refine runX_condF rfl c30 ?_
       refine runX_skip ?_
       refine endX_seq ?_
       refine runX_seq ?_
       refine runX_regionC fun C hC => ?_
       try simp -implicitDefEqProofs (disch := omega) only [go_sem, ↓reduceIte]
       refine toEnd hC ?_
       refine endX_seq ?_
       refine runX_ret ?_
       refine endX_q ?_
       obtain rfl := Option.some.inj h
       show RetW _ _ _ _ _
       simp only [RetW]
       (try simp -implicitDefEqProofs (disch := omega) only [go_sem, ↓reduceIte])
       (try simp (disch := omega) only [if_pos, Nat.sub_zero])
       exact leT_refl _
     ·refine guardK_F c29 ?_
      try simp -implicitDefEqProofs (disch := omega) only [go_sem, ↓reduceIte]
      refine toEnd hC ?_
      refine endX_seq ?_
      refine runX_condF rfl rfl ?_
      refine runX_skip ?_
      refine endX_seq ?_
      refine runX_seq ?_
      refine runX_regionC fun C hC => ?_
      try simp -implicitDefEqProofs (disch := omega) only [go_sem, ↓reduceIte]
      refine toEnd hC ?_
      refine endX_seq ?_
      refine runX_ret ?_
      refine endX_q ?_
      obtain rfl := Option.some.inj h
      show RetW _ _ _ _ _
      simp only [RetW]
      (try simp -implicitDefEqProofs (disch := omega) only [go_sem, ↓reduceIte])
      (try simp (disch := omega) only [if_pos, Nat.sub_zero])
      exact leT_refl _
end Go.Proofs.YtaiapalhdejngaaX

set_option linter.unusedVariables false
set_option linter.unusedSimpArgs false
namespace Go.Proofs.YtaiapalhdejngaaX
open Go Go.RowKit Go.Proofs
set_option maxRecDepth 100000
attribute [local go_sem ↓] stepsK_build stepsK_bs appendS
attribute [local go_sem] String.reduceEq String.reduceNe reduceCtorEq Int.reduceEq Nat.reduceAdd Nat.reduceSub Nat.reduceMul Nat.reduceLT Nat.reduceLeDiff Nat.reduceEqDiff Nat.reduceBEq Int.reduceToNat Int.reduceLT Int.reduceLE Int.reduceGT Int.reduceGE Int.reduceAdd Int.reduceSub Int.reduceMul Int.reduceNeg Int.reduceBEq Int.reduceBNe Int.reducePow Int.reduceDiv Int.reduceMod Int.reduceTDiv Int.reduceTMod Int.reduceNatCast
/-! ### shadowboxref04.value -/
def F94 (n : Nat) (a0 : Int) : Option (Int) := (F71 n a0).bind fun v1 => iteB (v1 == (1 : Int)) (some (IntKind.wrap .i64 ((IntKind.wrap .u8 (a0 - (48 : Int)))))) (iteB (v1 == (2 : Int)) (some (IntKind.wrap .i64 ((IntKind.wrap .i64 ((IntKind.wrap .u8 (a0 - (97 : Int))))) + (10 : Int)))) (some (-1 : Int)))
set_option maxHeartbeats 4000000 in
theorem F94_ok : ∀ (n : Nat) (a0 : Int) (r : Int), F94 n a0 = some r → FnC Try.prog 94 [.imm (.int .u8 a0)] (.imm (.int .i64 r))
 | n, a0, r, h => by
  unfold F94 at h
  refine FnC.goX mixed Try.func94 (by kernel_rfl) rfl ?_
  simp only [Try.ntmps94, List.length_cons, List.length_nil, List.replicate, List.cons_append, List.nil_append, Nat.reduceAdd, Nat.reduceSub]
  refine runX_seq ?_
  refine runX_regionC fun C hC => ?_
  try simp -implicitDefEqProofs (maxSteps := 4000000) (disch := first | omega | decide | (simp only [go_sem]; omega)) only [go_sem, ↓reduceIte]
  repeat (with_reducible refine And.intro (by first | assumption | omega | (simp; done) | (simp; omega)) ?_)
  refine toEnd hC ?_
  refine endX_seq ?_
  refine runX_seq ?_
  refine runX_seq ?_
  refine runX_regionC fun C hC => ?_
  obtain ⟨v1, h1, h⟩ := bnd_some h
  try simp -implicitDefEqProofs (maxSteps := 4000000) (disch := first | omega | decide | (simp only [go_sem]; omega)) only [go_sem, ↓reduceIte]
  repeat (with_reducible refine And.intro (by first | assumption | omega | (simp; done) | (simp; omega)) ?_)
  refine callG_X (by first | rfl | (simp only [go_sem]; done) | (simp only [closedL, closedT, Bool.and_true]; exact closedL_map _ (fun _ => by first | rfl | (simp only [go_sem]; done)) _)) (F71_ok n a0 _ h1) (by repeat (first | exact leL_refl _ | refine leL_cons (by first | exact leT_refl _ | exact leT_virt | exact leT_junk _ | exact leT_sl | exact leT_sln | exact leT_nil | (refine leT_agg (by repeat (first | exact leL_refl _ | refine leL_cons (by first | exact leT_refl _ | exact leT_sl | exact leT_sln | exact leT_nil) ?_)))) ?_)) ?_
  try simp -implicitDefEqProofs (maxSteps := 4000000) (disch := first | omega | decide | (simp only [go_sem]; omega)) only [go_sem, ↓reduceIte]
  repeat (with_reducible refine And.intro (by first | assumption | omega | (simp; done) | (simp; omega)) ?_)
  refine toEnd hC ?_
  refine endX_seq ?_
  refine runX_block ?_
  refine runX_seq ?_
  refine runX_regionC fun C hC => ?_
  try simp -implicitDefEqProofs (maxSteps := 4000000) (disch := first | omega | decide | (simp only [go_sem]; omega)) only [go_sem, ↓reduceIte]
  repeat (with_reducible refine And.intro (by first | assumption | omega | (simp; done) | (simp; omega)) ?_)
  refine toEnd hC ?_
  refine endX_seq ?_
  rcases iteB_some h with ⟨c2, h⟩ | ⟨c2, h⟩
  ·refine runX_condT rfl c2 ?_
   refine runX_seq ?_
   refine runX_regionC fun C hC => ?_
   try simp -implicitDefEqProofs (maxSteps := 4000000) (disch := first | omega | decide | (simp only [go_sem]; omega)) only [go_sem, ↓reduceIte]
   repeat (with_reducible refine And.intro (by first | assumption | omega | (simp; done) | (simp; omega)) ?_)
   refine toEnd hC ?_
   refine endX_seq ?_
   refine runX_ret ?_
   refine endX_blkR ?_
   refine endX_seqR ?_
   refine endX_q ?_
   obtain rfl := Option.some.inj h
   show RetW _ _ _ _ _
   simp only [RetW]
   (try simp -implicitDefEqProofs (maxSteps := 4000000) (disch := first | omega | decide | (simp only [go_sem]; omega)) only [go_sem, ↓reduceIte])
   (try simp (disch := omega) only [if_pos, Nat.sub_zero])
   exact leT_refl _
  ·refine runX_condF rfl c2 ?_
   refine runX_seq ?_
   refine runX_regionC fun C hC => ?_
   try simp -implicitDefEqProofs (maxSteps := 4000000) (disch := first | omega | decide | (simp only [go_sem]; omega)) only [go_sem, ↓reduceIte]
   repeat (with_reducible refine And.intro (by first | assumption | omega | (simp; done) | (simp; omega)) ?_)
   refine toEnd hC ?_
   refine endX_seq ?_
   rcases iteB_some h with ⟨c3, h⟩ | ⟨c3, h⟩
   ·refine runX_condT rfl c3 ?_
    refine runX_seq ?_
    refine runX_regionC fun C hC => ?_
    try simp -implicitDefEqProofs (maxSteps := 4000000) (disch := first | omega | decide | (simp only [go_sem]; omega)) only [go_sem, ↓reduceIte]
    repeat (with_reducible refine And.intro (by first | assumption | omega | (simp; done) | (simp; omega)) ?_)
    refine toEnd hC ?_
    refine endX_seq ?_
    refine runX_ret ?_
    refine endX_blkR ?_
    refine endX_seqR ?_
    refine endX_q ?_
    obtain rfl := Option.some.inj h
    show RetW _ _ _ _ _
    simp only [RetW]
    (try simp -implicitDefEqProofs (maxSteps := 4000000) (disch := first | omega | decide | (simp only [go_sem]; omega)) only [go_sem, ↓reduceIte])
    (try simp (disch := omega) only [if_pos, Nat.sub_zero])
    exact leT_refl _
   ·refine runX_condF rfl c3 ?_
    refine runX_skip ?_
    refine endX_blk ?_
    refine endX_seq ?_
    refine runX_seq ?_
    refine runX_regionC fun C hC => ?_
    try simp -implicitDefEqProofs (maxSteps := 4000000) (disch := first | omega | decide | (simp only [go_sem]; omega)) only [go_sem, ↓reduceIte]
    repeat (with_reducible refine And.intro (by first | assumption | omega | (simp; done) | (simp; omega)) ?_)
    refine toEnd hC ?_
    refine endX_seq ?_
    refine runX_ret ?_
    refine endX_q ?_
    obtain rfl := Option.some.inj h
    show RetW _ _ _ _ _
    simp only [RetW]
    (try simp -implicitDefEqProofs (maxSteps := 4000000) (disch := first | omega | decide | (simp only [go_sem]; omega)) only [go_sem, ↓reduceIte])
    (try simp (disch := omega) only [if_pos, Nat.sub_zero])
    exact leT_refl _
end Go.Proofs.YtaiapalhdejngaaX

set_option linter.unusedVariables false
set_option linter.unusedSimpArgs false
namespace Go.Proofs.YtaiapalhdejngaaX
open Go Go.RowKit Go.Proofs
set_option maxRecDepth 100000
attribute [local go_sem ↓] stepsK_build stepsK_bs appendS
attribute [local go_sem] String.reduceEq String.reduceNe reduceCtorEq Int.reduceEq Nat.reduceAdd Nat.reduceSub Nat.reduceMul Nat.reduceLT Nat.reduceLeDiff Nat.reduceEqDiff Nat.reduceBEq Int.reduceToNat Int.reduceLT Int.reduceLE Int.reduceGT Int.reduceGE Int.reduceAdd Int.reduceSub Int.reduceMul Int.reduceNeg Int.reduceBEq Int.reduceBNe Int.reducePow Int.reduceDiv Int.reduceMod Int.reduceTDiv Int.reduceTMod Int.reduceNatCast
/-! ### shadowboxref04.ReadHex -/
def F76_S1 (a0 : List UInt8) (x2 : Int) (x3 : List (Int)) : St := ⟨[.imm (.string (bs a0)), .junk, .junk, .junk, .rsl 0 1 0 x3.length, .imm (.int .i64 x2), .junk, .junk, .junk, .junk, .junk, .junk, .junk, .junk, .junk, .junk, .junk, .junk, .junk, .junk, .junk, .junk, .junk, .junk, .junk, .junk, .junk, .junk, .junk, .junk, .junk, .junk, .junk, .junk, .junk, .junk, .junk, .junk, .junk, .junk, .junk, .junk, .junk], [some (.buf 5 1 (List.map byteT x3) 0)]⟩
def F76_L1 : Nat → (List UInt8) → (Int) → (List (Int)) → Option ((List (Int)) × (Bool))
 | 0, _, _, _ => none
 | m1 + 1, a0, x2, x3 => iteB (decide ((IntKind.wrap .i64 (x2 + (1 : Int))) < (a0.length : Int))) (grd (0 ≤ x2 ∧ x2 < (a0.length : Int)) ((F94 m1 ((a0.getD x2.toNat 0).toNat : Int)).bind fun v6 => grd (0 ≤ (IntKind.wrap .i64 (x2 + (1 : Int))) ∧ (IntKind.wrap .i64 (x2 + (1 : Int))) < (a0.length : Int)) ((F94 m1 ((a0.getD (IntKind.wrap .i64 (x2 + (1 : Int))).toNat 0).toNat : Int)).bind fun v8 => iteB (decide (v6 < (0 : Int))) (some ([], false)) (iteB (decide (v8 < (0 : Int))) (some ([], false)) (grd ((x3.length + 1) ≤ 549755813888) (F76_L1 m1 a0 (IntKind.wrap .i64 (x2 + (2 : Int))) (x3 ++ [(IntKind.wrap .u8 ((IntKind.wrap .i64 ((IntKind.wrap .i64 ((16 : Int) * v6)) + v8))))]))))))) (some (x3, true))
def F76 (n : Nat) (a0 : List UInt8) : Option ((List (Int)) × (Bool)) := iteB (((a0.length : Int).tmod (2 : Int)) != (0 : Int)) (some ([], false)) (F76_L1 n a0 (0 : Int) [])
set_option maxHeartbeats 4000000 in
theorem F76_ok : ∀ (n : Nat) (a0 : List UInt8) (r : (List (Int)) × (Bool)), F76 n a0 = some r → FnC Try.prog 76 [.imm (.string (bs a0))] (.tup [.sl 1 false (List.map byteT r.1), .imm (.bool r.2)])
 | n, a0, r, h => by
  unfold F76 at h
  refine FnC.goX mixed Try.func76 (by kernel_rfl) rfl ?_
  simp only [Try.ntmps76, List.length_cons, List.length_nil, List.replicate, List.cons_append, List.nil_append, Nat.reduceAdd, Nat.reduceSub]
  refine runX_seq ?_
  refine runX_regionC fun C hC => ?_
  try simp -implicitDefEqProofs (disch := omega) only [go_sem, ↓reduceIte]
  refine toEnd hC ?_
  refine endX_seq ?_
  refine runX_seq ?_
  refine runX_seq ?_
  refine runX_regionC fun C hC => ?_
  try simp -implicitDefEqProofs (disch := omega) only [go_sem, ↓reduceIte]
  refine toEnd hC ?_
  refine endX_seq ?_
  rcases iteB_some h with ⟨c1, h⟩ | ⟨c1, h⟩
  ·refine runX_condT rfl c1 ?_
   refine runX_seq ?_
   refine runX_regionC fun C hC => ?_
   try simp -implicitDefEqProofs (disch := omega) only [go_sem, ↓reduceIte]
   refine toEnd hC ?_
   refine endX_seq ?_
   refine runX_ret ?_
   refine endX_seqR ?_
   refine endX_q ?_
   obtain rfl := Option.some.inj h
   show RetW _ _ _ _ _
   simp only [RetW]
   (try simp -implicitDefEqProofs (disch := omega) only [go_sem, ↓reduceIte])
   (try simp (disch := omega) only [if_pos, Nat.sub_zero])
   first | exact leT_refl _ | (refine ⟨rfl, ?_⟩; first | exact leT_refl _ | exact leT_sl | exact leT_sln | exact leT_nil | (refine leT_tup (by repeat (first | exact leL_refl _ | refine leL_cons (by first | exact leT_refl _ | exact leT_virt | exact leT_junk _ | exact leT_sl | exact leT_sln | exact leT_nil | (refine leT_agg (by repeat (first | exact leL_refl _ | refine leL_cons (by first | exact leT_refl _ | exact leT_sl | exact leT_sln | exact leT_nil) ?_)))) ?_))) | (refine leT_agg (by repeat (first | exact leL_refl _ | refine leL_cons (by first | exact leT_refl _ | exact leT_virt | exact leT_junk _ | exact leT_sl | exact leT_sln | exact leT_nil | (refine leT_agg (by repeat (first | exact leL_refl _ | refine leL_cons (by first | exact leT_refl _ | exact leT_sl | exact leT_sln | exact leT_nil) ?_)))) ?_)))) | (first | exact leT_refl _ | exact leT_sl | exact leT_sln | exact leT_nil | (refine leT_tup (by repeat (first | exact leL_refl _ | refine leL_cons (by first | exact leT_refl _ | exact leT_virt | exact leT_junk _ | exact leT_sl | exact leT_sln | exact leT_nil | (refine leT_agg (by repeat (first | exact leL_refl _ | refine leL_cons (by first | exact leT_refl _ | exact leT_sl | exact leT_sln | exact leT_nil) ?_)))) ?_))) | (refine leT_agg (by repeat (first | exact leL_refl _ | refine leL_cons (by first | exact leT_refl _ | exact leT_virt | exact leT_junk _ | exact leT_sl | exact leT_sln | exact leT_nil | (refine leT_agg (by repeat (first | exact leL_refl _ | refine leL_cons (by first | exact leT_refl _ | exact leT_sl | exact leT_sln | exact leT_nil) ?_)))) ?_)))) | (simp only [List.append_assoc, List.cons_append, List.nil_append]; exact leT_refl _) | (rw [List.take_of_length_le (by simp)]; (try simp only [List.append_assoc, List.cons_append, List.nil_append]); exact leT_refl _)
  ·refine runX_condF rfl c1 ?_
   refine runX_skip ?_
   refine endX_seq ?_
   refine runX_seq ?_
   refine runX_regionC fun C hC => ?_
   try simp -implicitDefEqProofs (disch := omega) only [go_sem, ↓reduceIte]
   refine toEnd hC ?_
   refine endX_seq ?_
   refine runX_seq ?_
   refine runX_seq ?_
   refine runX_regionC fun C hC => ?_
   try simp -implicitDefEqProofs (disch := omega) only [go_sem, ↓reduceIte]
   refine toEnd hC ?_
   refine endX_seq ?_
   refine runX_block ?_
   refine runX_loop [0, 4, 5] (fun m S => ∃ (x2 : Int) (x3 : List (Int)), S = F76_S1 a0 x2 x3 ∧ m ≤ n ∧ F76_L1 m a0 x2 x3 = some r) n ⟨F76_S1 a0 (0 : Int) [], ?_, (0 : Int), [], rfl, Nat.le_refl _, h⟩ ?_
   ·(try simp -implicitDefEqProofs (disch := omega) only [go_sem, ↓reduceIte])
    simp only [F76_S1]
    refine leS_trans (leS_pad _ _ 1) ?_
    simp only [List.replicate, List.cons_append, List.nil_append]
    refine leS_virt 0 5 1 rfl ?_ ?_ rfl
    ·repeat (first | exact leL_refl _ | refine leL_cons (by first | exact leT_refl _ | exact leT_virt | exact leT_junk _ | exact leT_sl | exact leT_sln | exact leT_nil | (refine leT_agg (by repeat (first | exact leL_refl _ | refine leL_cons (by first | exact leT_refl _ | exact leT_sl | exact leT_sln | exact leT_nil) ?_)))) ?_)
    ·repeat (first | exact leOs_refl _ | refine leOs.cons (by first | exact leO.same _ | (refine leO.box (leT_agg (by repeat (first | exact leL_refl _ | refine leL_cons (by first | exact leT_refl _ | exact leT_virt | exact leT_junk _ | exact leT_sl | exact leT_sln | exact leT_nil | (refine leT_agg (by repeat (first | exact leL_refl _ | refine leL_cons (by first | exact leT_refl _ | exact leT_sl | exact leT_sln | exact leT_nil) ?_)))) ?_))) rfl) | (refine leO.box (by first | exact leT_virt | exact leT_sl | exact leT_sln) rfl)) ?_)
   ·clear h
    rintro m1 S ⟨x2, x3, rfl, hm1, h⟩
    cases m1 with
    | zero => first | cases (show (none : Option _) = some _ from h) | (rw [F76_L1] at h; cases h)
    | succ m1 =>
     rw [F76_L1] at h
     simp only [F76_S1]
     refine runX_seq ?_
     refine runX_seq ?_
     refine runX_regionC fun C hC => ?_
     try simp -implicitDefEqProofs (maxSteps := 4000000) (disch := first | omega | decide | (simp only [go_sem]; omega)) only [go_sem, ↓reduceIte]
     repeat (with_reducible refine And.intro (by first | assumption | omega | (simp; done) | (simp; omega)) ?_)
     refine toEnd hC ?_
     refine endX_seq ?_
     rcases iteB_some h with ⟨c4, h⟩ | ⟨c4, h⟩
     ·refine runX_condT rfl c4 ?_
      refine runX_skip ?_
      refine endX_seq ?_
      refine runX_seq ?_
      refine runX_block ?_
      refine runX_seq ?_
      refine runX_regionC fun C hC => ?_
      obtain ⟨g5, h⟩ := grd_some h
      obtain ⟨v6, h6, h⟩ := bnd_some h
      try simp -implicitDefEqProofs (maxSteps := 4000000) (disch := first | omega | decide | (simp only [go_sem]; omega)) only [go_sem, ↓reduceIte]
      repeat (with_reducible refine And.intro (by first | assumption | omega | (simp; done) | (simp; omega)) ?_)
      refine callG_X (by first | rfl | (simp only [go_sem]; done) | (simp only [closedL, closedT, Bool.and_true]; exact closedL_map _ (fun _ => by first | rfl | (simp only [go_sem]; done)) _)) (F94_ok m1 ((a0.getD x2.toNat 0).toNat : Int) _ h6) (by repeat (first | exact leL_refl _ | refine leL_cons (by first | exact leT_refl _ | exact leT_virt | exact leT_junk _ | exact leT_sl | exact leT_sln | exact leT_nil | (refine leT_agg (by repeat (first | exact leL_refl _ | refine leL_cons (by first | exact leT_refl _ | exact leT_sl | exact leT_sln | exact leT_nil) ?_)))) ?_)) ?_
      try simp -implicitDefEqProofs (maxSteps := 4000000) (disch := first | omega | decide | (simp only [go_sem]; omega)) only [go_sem, ↓reduceIte]
      repeat (with_reducible refine And.intro (by first | assumption | omega | (simp; done) | (simp; omega)) ?_)
      refine toEnd hC ?_
      refine endX_seq ?_
      refine runX_seq ?_
      refine runX_regionC fun C hC => ?_
      obtain ⟨g7, h⟩ := grd_some h
      obtain ⟨v8, h8, h⟩ := bnd_some h
      try simp -implicitDefEqProofs (maxSteps := 4000000) (disch := first | omega | decide | (simp only [go_sem]; omega)) only [go_sem, ↓reduceIte]
      repeat (with_reducible refine And.intro (by first | assumption | omega | (simp; done) | (simp; omega)) ?_)
      refine callG_X (by first | rfl | (simp only [go_sem]; done) | (simp only [closedL, closedT, Bool.and_true]; exact closedL_map _ (fun _ => by first | rfl | (simp only [go_sem]; done)) _)) (F94_ok m1 ((a0.getD (IntKind.wrap .i64 (x2 + (1 : Int))).toNat 0).toNat : Int) _ h8) (by repeat (first | exact leL_refl _ | refine leL_cons (by first | exact leT_refl _ | exact leT_virt | exact leT_junk _ | exact leT_sl | exact leT_sln | exact leT_nil | (refine leT_agg (by repeat (first | exact leL_refl _ | refine leL_cons (by first | exact leT_refl _ | exact leT_sl | exact leT_sln | exact leT_nil) ?_)))) ?_)) ?_
      try simp -implicitDefEqProofs (maxSteps := 4000000) (disch := first | omega | decide | (simp only [go_sem]; omega)) only [go_sem, ↓reduceIte]
      repeat (with_reducible refine And.intro (by first | assumption | omega | (simp; done) | (simp; omega)) ?_)
      refine toEnd hC ?_
      refine endX_seq ?_
      refine runX_seq ?_
      refine runX_seq ?_
      refine runX_regionC fun C hC => ?_
      try simp -implicitDefEqProofs (disch := omega) only [go_sem, ↓reduceIte]
      rcases iteB_some h with ⟨c9, h⟩ | ⟨c9, h⟩
      ·refine guardK_F c9 ?_
       try simp -implicitDefEqProofs (disch := omega) only [go_sem, ↓reduceIte]
       refine toEnd hC ?_
       refine endX_seq ?_
       refine runX_condT rfl rfl ?_
       refine runX_seq ?_
       refine runX_regionC fun C hC => ?_
       try simp -implicitDefEqProofs (disch := omega) only [go_sem, ↓reduceIte]
       refine toEnd hC ?_
       refine endX_seq ?_
       refine runX_ret ?_
       refine endX_seqR ?_
       refine endX_blkR ?_
       refine endX_seqR ?_
       refine endX_q (roundQ_ret ?_)
       refine endX_blkR ?_
       refine endX_seqR ?_
       refine endX_q ?_
       obtain rfl := Option.some.inj h
       show RetW _ _ _ _ _
       simp only [RetW]
       (try simp -implicitDefEqProofs (disch := omega) only [go_sem, ↓reduceIte])
       (try simp (disch := omega) only [if_pos, Nat.sub_zero])
       first | exact leT_refl _ | (refine ⟨rfl, ?_⟩; first | exact leT_refl _ | exact leT_sl | exact leT_sln | exact leT_nil | (refine leT_tup (by repeat (first | exact leL_refl _ | refine leL_cons (by first | exact leT_refl _ | exact leT_virt | exact leT_junk _ | exact leT_sl | exact leT_sln | exact leT_nil | (refine leT_agg (by repeat (first | exact leL_refl _ | refine leL_cons (by first | exact leT_refl _ | exact leT_sl | exact leT_sln | exact leT_nil) ?_)))) ?_))) | (refine leT_agg (by repeat (first | exact leL_refl _ | refine leL_cons (by first | exact leT_refl _ | exact leT_virt | exact leT_junk _ | exact leT_sl | exact leT_sln | exact leT_nil | (refine leT_agg (by repeat (first | exact leL_refl _ | refine leL_cons (by first | exact leT_refl _ | exact leT_sl | exact leT_sln | exact leT_nil) ?_)))) ?_)))) | (first | exact leT_refl _ | exact leT_sl | exact leT_sln | exact leT_nil | (refine leT_tup (by repeat (first | exact leL_refl _ | refine leL_cons (by first | exact leT_refl _ | exact leT_virt | exact leT_junk _ | exact leT_sl | exact leT_sln | exact leT_nil | (refine leT_agg (by repeat (first | exact leL_refl _ | refine leL_cons (by first | exact leT_refl _ | exact leT_sl | exact leT_sln | exact leT_nil) ?_)))) ?_))) | (refine leT_agg (by repeat (first | exact leL_refl _ | refine leL_cons (by first | exact leT_refl _ | exact leT_virt | exact leT_junk _ | exact leT_sl | exact leT_sln | exact leT_nil | (refine leT_agg (by repeat (first | exact leL_refl _ | refine leL_cons (by first | exact leT_refl _ | exact leT_sl | exact leT_sln | exact leT_nil) ?_)))) ?_)))) | (simp only [List.append_assoc, List.cons_append, List.nil_append]; exact leT_refl _) | (rw [List.take_of_length_le (by simp)]; (try simp only [List.append_assoc, List.cons_append, List.nil_append]); exact leT_refl _)
      ·refine guardK_T c9 ?_
       try simp -implicitDefEqProofs (disch := omega) only [go_sem, ↓reduceIte]
       refine toEnd hC ?_
       refine endX_seq ?_
       rcases iteB_some h with ⟨c10, h⟩ | ⟨c10, h⟩
       ·refine runX_condT rfl c10 ?_
        refine runX_seq ?_
        refine runX_regionC fun C hC => ?_
        try simp -implicitDefEqProofs (disch := omega) only [go_sem, ↓reduceIte]
        refine toEnd hC ?_
        refine endX_seq ?_
        refine runX_ret ?_
        refine endX_seqR ?_
        refine endX_blkR ?_
        refine endX_seqR ?_
        refine endX_q (roundQ_ret ?_)
        refine endX_blkR ?_
        refine endX_seqR ?_
        refine endX_q ?_
        obtain rfl := Option.some.inj h
        show RetW _ _ _ _ _
        simp only [RetW]
        (try simp -implicitDefEqProofs (maxSteps := 4000000) (disch := first | omega | decide | (simp only [go_sem]; omega)) only [go_sem, ↓reduceIte])
        (try simp (disch := omega) only [if_pos, Nat.sub_zero])
        first | exact leT_refl _ | (refine ⟨rfl, ?_⟩; first | exact leT_refl _ | exact leT_sl | exact leT_sln | exact leT_nil | (refine leT_tup (by repeat (first | exact leL_refl _ | refine leL_cons (by first | exact leT_refl _ | exact leT_virt | exact leT_junk _ | exact leT_sl | exact leT_sln | exact leT_nil | (refine leT_agg (by repeat (first | exact leL_refl _ | refine leL_cons (by first | exact leT_refl _ | exact leT_sl | exact leT_sln | exact leT_nil) ?_)))) ?_))) | (refine leT_agg (by repeat (first | exact leL_refl _ | refine leL_cons (by first | exact leT_refl _ | exact leT_virt | exact leT_junk _ | exact leT_sl | exact leT_sln | exact leT_nil | (refine leT_agg (by repeat (first | exact leL_refl _ | refine leL_cons (by first | exact leT_refl _ | exact leT_sl | exact leT_sln | exact leT_nil) ?_)))) ?_)))) | (first | exact leT_refl _ | exact leT_sl | exact leT_sln | exact leT_nil | (refine leT_tup (by repeat (first | exact leL_refl _ | refine leL_cons (by first | exact leT_refl _ | exact leT_virt | exact leT_junk _ | exact leT_sl | exact leT_sln | exact leT_nil | (refine leT_agg (by repeat (first | exact leL_refl _ | refine leL_cons (by first | exact leT_refl _ | exact leT_sl | exact leT_sln | exact leT_nil) ?_)))) ?_))) | (refine leT_agg (by repeat (first | exact leL_refl _ | refine leL_cons (by first | exact leT_refl _ | exact leT_virt | exact leT_junk _ | exact leT_sl | exact leT_sln | exact leT_nil | (refine leT_agg (by repeat (first | exact leL_refl _ | refine leL_cons (by first | exact leT_refl _ | exact leT_sl | exact leT_sln | exact leT_nil) ?_)))) ?_)))) | (simp only [List.append_assoc, List.cons_append, List.nil_append]; exact leT_refl _) | (rw [List.take_of_length_le (by simp)]; (try simp only [List.append_assoc, List.cons_append, List.nil_append]); exact leT_refl _)
       ·refine runX_condF rfl c10 ?_
        refine runX_skip ?_
        refine endX_seq ?_
        refine runX_regionC fun C hC => ?_
        try simp -implicitDefEqProofs (maxSteps := 4000000) (disch := first | omega | decide | (simp only [go_sem]; omega)) only [go_sem, ↓reduceIte]
        repeat (with_reducible refine And.intro (by first | assumption | omega | (simp; done) | (simp; omega)) ?_)
        refine bs_go <| buildX_val ?_
        obtain ⟨g11, h⟩ := grd_some h
        try simp -implicitDefEqProofs (maxSteps := 4000000) (disch := first | omega | decide | (simp only [go_sem]; omega)) only [go_sem, ↓reduceIte]
        repeat (with_reducible refine And.intro (by first | assumption | omega | (simp; done) | (simp; omega)) ?_)
        refine toEnd hC ?_
        refine endX_blk ?_
        refine endX_seq ?_
        refine runX_regionC fun C hC => ?_
        try simp -implicitDefEqProofs (disch := omega) only [go_sem, ↓reduceIte]
        refine toEnd hC ?_
        refine endX_q (roundQ_normal ⟨m1, by omega, F76_S1 a0 (IntKind.wrap .i64 (x2 + (2 : Int))) (x3 ++ [(IntKind.wrap .u8 ((IntKind.wrap .i64 ((IntKind.wrap .i64 ((16 : Int) * v6)) + v8))))]), ?_, (IntKind.wrap .i64 (x2 + (2 : Int))), (x3 ++ [(IntKind.wrap .u8 ((IntKind.wrap .i64 ((IntKind.wrap .i64 ((16 : Int) * v6)) + v8))))]), rfl, by omega, h⟩)
        simp only [F76_S1]
        (try simp -implicitDefEqProofs (disch := omega) only [go_sem, ↓reduceIte])
        exact leS_refl _
     ·refine runX_condF rfl c4 ?_
      refine runX_exit ?_
      refine endX_seqE ?_
      refine endX_q (roundQ_exit ?_)
      refine endX_blkE ?_
      refine endX_seq ?_
      refine runX_seq ?_
      refine runX_regionC fun C hC => ?_
      try simp -implicitDefEqProofs (disch := omega) only [go_sem, ↓reduceIte]
      refine toEnd hC ?_
      refine endX_seq ?_
      refine runX_ret ?_
      refine endX_q ?_
      obtain rfl := Option.some.inj h
      show RetW _ _ _ _ _
      simp only [RetW]
      (try simp -implicitDefEqProofs (disch := omega) only [go_sem, ↓reduceIte])
      (try simp (disch := omega) only [if_pos, Nat.sub_zero])
      first | exact leT_refl _ | (refine ⟨rfl, ?_⟩; first | exact leT_refl _ | exact leT_sl | exact leT_sln | exact leT_nil | (refine leT_tup (by repeat (first | exact leL_refl _ | refine leL_cons (by first | exact leT_refl _ | exact leT_virt | exact leT_junk _ | exact leT_sl | exact leT_sln | exact leT_nil | (refine leT_agg (by repeat (first | exact leL_refl _ | refine leL_cons (by first | exact leT_refl _ | exact leT_sl | exact leT_sln | exact leT_nil) ?_)))) ?_))) | (refine leT_agg (by repeat (first | exact leL_refl _ | refine leL_cons (by first | exact leT_refl _ | exact leT_virt | exact leT_junk _ | exact leT_sl | exact leT_sln | exact leT_nil | (refine leT_agg (by repeat (first | exact leL_refl _ | refine leL_cons (by first | exact leT_refl _ | exact leT_sl | exact leT_sln | exact leT_nil) ?_)))) ?_)))) | (first | exact leT_refl _ | exact leT_sl | exact leT_sln | exact leT_nil | (refine leT_tup (by repeat (first | exact leL_refl _ | refine leL_cons (by first | exact leT_refl _ | exact leT_virt | exact leT_junk _ | exact leT_sl | exact leT_sln | exact leT_nil | (refine leT_agg (by repeat (first | exact leL_refl _ | refine leL_cons (by first | exact leT_refl _ | exact leT_sl | exact leT_sln | exact leT_nil) ?_)))) ?_))) | (refine leT_agg (by repeat (first | exact leL_refl _ | refine leL_cons (by first | exact leT_refl _ | exact leT_virt | exact leT_junk _ | exact leT_sl | exact leT_sln | exact leT_nil | (refine leT_agg (by repeat (first | exact leL_refl _ | refine leL_cons (by first | exact leT_refl _ | exact leT_sl | exact leT_sln | exact leT_nil) ?_)))) ?_)))) | (simp only [List.append_assoc, List.cons_append, List.nil_append]; exact leT_refl _) | (rw [List.take_of_length_le (by simp)]; (try simp only [List.append_assoc, List.cons_append, List.nil_append]); exact leT_refl _)
end Go.Proofs.YtaiapalhdejngaaX

set_option linter.unusedVariables false
set_option linter.unusedSimpArgs false
namespace Go.Proofs.YtaiapalhdejngaaX
open Go Go.RowKit Go.Proofs
set_option maxRecDepth 100000
attribute [local go_sem ↓] stepsK_build stepsK_bs appendS
attribute [local go_sem] String.reduceEq String.reduceNe reduceCtorEq Int.reduceEq Nat.reduceAdd Nat.reduceSub Nat.reduceMul Nat.reduceLT Nat.reduceLeDiff Nat.reduceEqDiff Nat.reduceBEq Int.reduceToNat Int.reduceLT Int.reduceLE Int.reduceGT Int.reduceGE Int.reduceAdd Int.reduceSub Int.reduceMul Int.reduceNeg Int.reduceBEq Int.reduceBNe Int.reducePow Int.reduceDiv Int.reduceMod Int.reduceTDiv Int.reduceTMod Int.reduceNatCast
/-! ### shadowboxref37.Sum -/
def F38 (n : Nat) (a0 : List UInt8) : Option ((List (Int)) × (Bool)) := (F76 n a0).bind fun v1 => iteB (!v1.2) (some ([], false)) (iteB ((v1.1.length : Int) != (16 : Int)) (some ([], false)) (some (v1.1, true)))
set_option maxHeartbeats 4000000 in
theorem F38_ok : ∀ (n : Nat) (a0 : List UInt8) (r : (List (Int)) × (Bool)), F38 n a0 = some r → FnC Try.prog 38 [.imm (.string (bs a0))] (.tup [.sl 1 false (List.map byteT r.1), .imm (.bool r.2)])
 | n, a0, r, h => by
  unfold F38 at h
  refine FnC.goX mixed Try.func38 (by kernel_rfl) rfl ?_
  simp only [Try.ntmps38, List.length_cons, List.length_nil, List.replicate, List.cons_append, List.nil_append, Nat.reduceAdd, Nat.reduceSub]
  refine runX_seq ?_
  refine runX_regionC fun C hC => ?_
  try simp -implicitDefEqProofs (disch := omega) only [go_sem, ↓reduceIte]
  refine toEnd hC ?_
  refine endX_seq ?_
  refine runX_seq ?_
  refine runX_regionC fun C hC => ?_
  obtain ⟨v1, h1, h⟩ := bnd_some h
  try simp -implicitDefEqProofs (maxSteps := 4000000) (disch := first | omega | decide | (simp only [go_sem]; omega)) only [go_sem, ↓reduceIte]
  repeat (with_reducible refine And.intro (by first | assumption | omega | (simp; done) | (simp; omega)) ?_)
  refine callG_X (by first | rfl | (simp only [go_sem]; done) | (simp only [closedL, closedT, Bool.and_true]; exact closedL_map _ (fun _ => by first | rfl | (simp only [go_sem]; done)) _)) (F76_ok n a0 _ h1) (by repeat (first | exact leL_refl _ | refine leL_cons (by first | exact leT_refl _ | exact leT_virt | exact leT_junk _ | exact leT_sl | exact leT_sln | exact leT_nil | (refine leT_agg (by repeat (first | exact leL_refl _ | refine leL_cons (by first | exact leT_refl _ | exact leT_sl | exact leT_sln | exact leT_nil) ?_)))) ?_)) ?_
  try simp -implicitDefEqProofs (maxSteps := 4000000) (disch := first | omega | decide | (simp only [go_sem]; omega)) only [go_sem, ↓reduceIte]
  repeat (with_reducible refine And.intro (by first | assumption | omega | (simp; done) | (simp; omega)) ?_)
  refine toEnd hC ?_
  refine endX_seq ?_
  refine runX_seq ?_
  refine runX_seq ?_
  refine runX_regionC fun C hC => ?_
  try simp -implicitDefEqProofs (disch := omega) only [go_sem, ↓reduceIte]
  rcases iteB_some h with ⟨c2, h⟩ | ⟨c2, h⟩
  ·refine guardK_F c2 ?_
   try simp -implicitDefEqProofs (disch := omega) only [go_sem, ↓reduceIte]
   refine toEnd hC ?_
   refine endX_seq ?_
   refine runX_condT rfl rfl ?_
   refine runX_seq ?_
   refine runX_regionC fun C hC => ?_
   try simp -implicitDefEqProofs (disch := omega) only [go_sem, ↓reduceIte]
   refine toEnd hC ?_
   refine endX_seq ?_
   refine runX_ret ?_
   refine endX_seqR ?_
   refine endX_q ?_
   obtain rfl := Option.some.inj h
   show RetW _ _ _ _ _
   simp only [RetW]
   (try simp -implicitDefEqProofs (disch := omega) only [go_sem, ↓reduceIte])
   (try simp (disch := omega) only [if_pos, Nat.sub_zero])
   first | exact leT_refl _ | (refine ⟨rfl, ?_⟩; first | exact leT_refl _ | exact leT_sl | exact leT_sln | exact leT_nil | (refine leT_tup (by repeat (first | exact leL_refl _ | refine leL_cons (by first | exact leT_refl _ | exact leT_virt | exact leT_junk _ | exact leT_sl | exact leT_sln | exact leT_nil | (refine leT_agg (by repeat (first | exact leL_refl _ | refine leL_cons (by first | exact leT_refl _ | exact leT_sl | exact leT_sln | exact leT_nil) ?_)))) ?_))) | (refine leT_agg (by repeat (first | exact leL_refl _ | refine leL_cons (by first | exact leT_refl _ | exact leT_virt | exact leT_junk _ | exact leT_sl | exact leT_sln | exact leT_nil | (refine leT_agg (by repeat (first | exact leL_refl _ | refine leL_cons (by first | exact leT_refl _ | exact leT_sl | exact leT_sln | exact leT_nil) ?_)))) ?_)))) | (first | exact leT_refl _ | exact leT_sl | exact leT_sln | exact leT_nil | (refine leT_tup (by repeat (first | exact leL_refl _ | refine leL_cons (by first | exact leT_refl _ | exact leT_virt | exact leT_junk _ | exact leT_sl | exact leT_sln | exact leT_nil | (refine leT_agg (by repeat (first | exact leL_refl _ | refine leL_cons (by first | exact leT_refl _ | exact leT_sl | exact leT_sln | exact leT_nil) ?_)))) ?_))) | (refine leT_agg (by repeat (first | exact leL_refl _ | refine leL_cons (by first | exact leT_refl _ | exact leT_virt | exact leT_junk _ | exact leT_sl | exact leT_sln | exact leT_nil | (refine leT_agg (by repeat (first | exact leL_refl _ | refine leL_cons (by first | exact leT_refl _ | exact leT_sl | exact leT_sln | exact leT_nil) ?_)))) ?_)))) | (simp only [List.append_assoc, List.cons_append, List.nil_append]; exact leT_refl _) | (rw [List.take_of_length_le (by simp)]; (try simp only [List.append_assoc, List.cons_append, List.nil_append]); exact leT_refl _)
  ·refine guardK_T c2 ?_
   try simp -implicitDefEqProofs (disch := omega) only [go_sem, ↓reduceIte]
   refine toEnd hC ?_
   refine endX_seq ?_
   rcases iteB_some h with ⟨c3, h⟩ | ⟨c3, h⟩
   ·refine runX_condT rfl c3 ?_
    refine runX_seq ?_
    refine runX_regionC fun C hC => ?_
    try simp -implicitDefEqProofs (disch := omega) only [go_sem, ↓reduceIte]
    refine toEnd hC ?_
    refine endX_seq ?_
    refine runX_ret ?_
    refine endX_seqR ?_
    refine endX_q ?_
    obtain rfl := Option.some.inj h
    show RetW _ _ _ _ _
    simp only [RetW]
    (try simp -implicitDefEqProofs (disch := omega) only [go_sem, ↓reduceIte])
    (try simp (disch := omega) only [if_pos, Nat.sub_zero])
    first | exact leT_refl _ | (refine ⟨rfl, ?_⟩; first | exact leT_refl _ | exact leT_sl | exact leT_sln | exact leT_nil | (refine leT_tup (by repeat (first | exact leL_refl _ | refine leL_cons (by first | exact leT_refl _ | exact leT_virt | exact leT_junk _ | exact leT_sl | exact leT_sln | exact leT_nil | (refine leT_agg (by repeat (first | exact leL_refl _ | refine leL_cons (by first | exact leT_refl _ | exact leT_sl | exact leT_sln | exact leT_nil) ?_)))) ?_))) | (refine leT_agg (by repeat (first | exact leL_refl _ | refine leL_cons (by first | exact leT_refl _ | exact leT_virt | exact leT_junk _ | exact leT_sl | exact leT_sln | exact leT_nil | (refine leT_agg (by repeat (first | exact leL_refl _ | refine leL_cons (by first | exact leT_refl _ | exact leT_sl | exact leT_sln | exact leT_nil) ?_)))) ?_)))) | (first | exact leT_refl _ | exact leT_sl | exact leT_sln | exact leT_nil | (refine leT_tup (by repeat (first | exact leL_refl _ | refine leL_cons (by first | exact leT_refl _ | exact leT_virt | exact leT_junk _ | exact leT_sl | exact leT_sln | exact leT_nil | (refine leT_agg (by repeat (first | exact leL_refl _ | refine leL_cons (by first | exact leT_refl _ | exact leT_sl | exact leT_sln | exact leT_nil) ?_)))) ?_))) | (refine leT_agg (by repeat (first | exact leL_refl _ | refine leL_cons (by first | exact leT_refl _ | exact leT_virt | exact leT_junk _ | exact leT_sl | exact leT_sln | exact leT_nil | (refine leT_agg (by repeat (first | exact leL_refl _ | refine leL_cons (by first | exact leT_refl _ | exact leT_sl | exact leT_sln | exact leT_nil) ?_)))) ?_)))) | (simp only [List.append_assoc, List.cons_append, List.nil_append]; exact leT_refl _) | (rw [List.take_of_length_le (by simp)]; (try simp only [List.append_assoc, List.cons_append, List.nil_append]); exact leT_refl _)
   ·refine runX_condF rfl c3 ?_
    refine runX_skip ?_
    refine endX_seq ?_
    refine runX_seq ?_
    refine runX_regionC fun C hC => ?_
    try simp -implicitDefEqProofs (disch := omega) only [go_sem, ↓reduceIte]
    refine toEnd hC ?_
    refine endX_seq ?_
    refine runX_ret ?_
    refine endX_q ?_
    obtain rfl := Option.some.inj h
    show RetW _ _ _ _ _
    simp only [RetW]
    (try simp -implicitDefEqProofs (disch := omega) only [go_sem, ↓reduceIte])
    (try simp (disch := omega) only [if_pos, Nat.sub_zero])
    first | exact leT_refl _ | (refine ⟨rfl, ?_⟩; first | exact leT_refl _ | exact leT_sl | exact leT_sln | exact leT_nil | (refine leT_tup (by repeat (first | exact leL_refl _ | refine leL_cons (by first | exact leT_refl _ | exact leT_virt | exact leT_junk _ | exact leT_sl | exact leT_sln | exact leT_nil | (refine leT_agg (by repeat (first | exact leL_refl _ | refine leL_cons (by first | exact leT_refl _ | exact leT_sl | exact leT_sln | exact leT_nil) ?_)))) ?_))) | (refine leT_agg (by repeat (first | exact leL_refl _ | refine leL_cons (by first | exact leT_refl _ | exact leT_virt | exact leT_junk _ | exact leT_sl | exact leT_sln | exact leT_nil | (refine leT_agg (by repeat (first | exact leL_refl _ | refine leL_cons (by first | exact leT_refl _ | exact leT_sl | exact leT_sln | exact leT_nil) ?_)))) ?_)))) | (first | exact leT_refl _ | exact leT_sl | exact leT_sln | exact leT_nil | (refine leT_tup (by repeat (first | exact leL_refl _ | refine leL_cons (by first | exact leT_refl _ | exact leT_virt | exact leT_junk _ | exact leT_sl | exact leT_sln | exact leT_nil | (refine leT_agg (by repeat (first | exact leL_refl _ | refine leL_cons (by first | exact leT_refl _ | exact leT_sl | exact leT_sln | exact leT_nil) ?_)))) ?_))) | (refine leT_agg (by repeat (first | exact leL_refl _ | refine leL_cons (by first | exact leT_refl _ | exact leT_virt | exact leT_junk _ | exact leT_sl | exact leT_sln | exact leT_nil | (refine leT_agg (by repeat (first | exact leL_refl _ | refine leL_cons (by first | exact leT_refl _ | exact leT_sl | exact leT_sln | exact leT_nil) ?_)))) ?_)))) | (simp only [List.append_assoc, List.cons_append, List.nil_append]; exact leT_refl _) | (rw [List.take_of_length_le (by simp)]; (try simp only [List.append_assoc, List.cons_append, List.nil_append]); exact leT_refl _)
end Go.Proofs.YtaiapalhdejngaaX

set_option linter.unusedVariables false
set_option linter.unusedSimpArgs false
namespace Go.Proofs.YtaiapalhdejngaaX
open Go Go.RowKit Go.Proofs
set_option maxRecDepth 100000
attribute [local go_sem ↓] stepsK_build stepsK_bs appendS
attribute [local go_sem] String.reduceEq String.reduceNe reduceCtorEq Int.reduceEq Nat.reduceAdd Nat.reduceSub Nat.reduceMul Nat.reduceLT Nat.reduceLeDiff Nat.reduceEqDiff Nat.reduceBEq Int.reduceToNat Int.reduceLT Int.reduceLE Int.reduceGT Int.reduceGE Int.reduceAdd Int.reduceSub Int.reduceMul Int.reduceNeg Int.reduceBEq Int.reduceBNe Int.reducePow Int.reduceDiv Int.reduceMod Int.reduceTDiv Int.reduceTMod Int.reduceNatCast
/-! ### md5.Begin -/
def F81 (n : Nat)  : Option ((List (Int)) × (Int)) := some ([(1732584193 : Int), (4023233417 : Int), (2562383102 : Int), (271733878 : Int)], (0 : Int))
set_option maxHeartbeats 4000000 in
theorem F81_ok : ∀ (n : Nat) (r : (List (Int)) × (Int)), F81 n = some r → FnC Try.prog 81 [] (.agg [.imm (.int .u32 (r.1.getD 0 default)), .imm (.int .u32 (r.1.getD 1 default)), .imm (.int .u32 (r.1.getD 2 default)), .imm (.int .u32 (r.1.getD 3 default)), .imm (.int .u64 r.2)])
 | n, r, h => by
  unfold F81 at h
  refine FnC.goX mixed Try.func81 (by kernel_rfl) rfl ?_
  simp only [Try.ntmps81, List.length_cons, List.length_nil, List.replicate, List.cons_append, List.nil_append, Nat.reduceAdd, Nat.reduceSub]
  refine runX_seq ?_
  refine runX_regionC fun C hC => ?_
  try simp -implicitDefEqProofs (maxSteps := 4000000) (disch := first | omega | decide | (simp only [go_sem]; omega)) only [go_sem, ↓reduceIte]
  repeat (with_reducible refine And.intro (by first | assumption | omega | (simp; done) | (simp; omega)) ?_)
  refine toEnd hC ?_
  refine endX_seq ?_
  refine runX_seq ?_
  refine runX_regionC fun C hC => ?_
  simp only [runK_region, runK_draw, liteL, liteL2, dstsL, gL, List.getD_cons_zero, List.getD_cons_succ]
  try simp -implicitDefEqProofs (maxSteps := 4000000) (disch := first | omega | decide | (simp only [go_sem]; omega)) only [go_sem, ↓reduceIte]
  repeat (with_reducible refine And.intro (by first | assumption | omega | (simp; done) | (simp; omega)) ?_)
  refine bldG_of [.imm (.int .u32 (1732584193 : Int)), .imm (.int .u32 (4023233417 : Int)), .imm (.int .u32 (2562383102 : Int)), .imm (.int .u32 (271733878 : Int))] (by kernel_rfl) ?_
  try simp -implicitDefEqProofs (maxSteps := 4000000) (disch := first | omega | decide | (simp only [go_sem]; omega)) only [go_sem, ↓reduceIte]
  repeat (with_reducible refine And.intro (by first | assumption | omega | (simp; done) | (simp; omega)) ?_)
  refine bldG_of [.imm (.int .u32 (1732584193 : Int)), .imm (.int .u32 (4023233417 : Int)), .imm (.int .u32 (2562383102 : Int)), .imm (.int .u32 (271733878 : Int)), .imm (.int .u64 (0 : Int))] (by kernel_rfl) ?_
  try simp -implicitDefEqProofs (maxSteps := 4000000) (disch := first | omega | decide | (simp only [go_sem]; omega)) only [go_sem, ↓reduceIte]
  repeat (with_reducible refine And.intro (by first | assumption | omega | (simp; done) | (simp; omega)) ?_)
  refine toEnd hC ?_
  refine endX_seq ?_
  refine runX_ret ?_
  refine endX_q ?_
  obtain rfl := Option.some.inj h
  show RetW _ _ _ _ _
  simp only [RetW]
  (try simp -implicitDefEqProofs (maxSteps := 4000000) (disch := first | omega | decide | (simp only [go_sem]; omega)) only [go_sem, ↓reduceIte])
  (try simp (disch := omega) only [if_pos, Nat.sub_zero])
  exact leT_refl _
end Go.Proofs.YtaiapalhdejngaaX

set_option linter.unusedVariables false
set_option linter.unusedSimpArgs false
namespace Go.Proofs.YtaiapalhdejngaaX
open Go Go.RowKit Go.Proofs
set_option maxRecDepth 100000
attribute [local go_sem ↓] stepsK_build stepsK_bs appendS
attribute [local go_sem] String.reduceEq String.reduceNe reduceCtorEq Int.reduceEq Nat.reduceAdd Nat.reduceSub Nat.reduceMul Nat.reduceLT Nat.reduceLeDiff Nat.reduceEqDiff Nat.reduceBEq Int.reduceToNat Int.reduceLT Int.reduceLE Int.reduceGT Int.reduceGE Int.reduceAdd Int.reduceSub Int.reduceMul Int.reduceNeg Int.reduceBEq Int.reduceBNe Int.reducePow Int.reduceDiv Int.reduceMod Int.reduceTDiv Int.reduceTMod Int.reduceNatCast
/-! ### md5.spread -/
def F105_S1 (a0 : List (Int)) (x2 : Int) (x3 : List (Int)) : St := ⟨[.junk, .junk, .ref 1 0 0 0, .ref 2 0 0 0, .junk, .junk, .agg (List.map byteT (a0.take 64)), .imm (.int .i64 x2), .junk, .junk, .junk, .junk, .junk, .junk, .junk, .junk, .junk, .junk, .junk, .junk, .junk, .junk, .junk, .junk, .junk], [none, some (.box 137 (.agg [.imm (.int .u32 (0 : Int)), .imm (.int .u32 (0 : Int)), .imm (.int .u32 (0 : Int)), .imm (.int .u32 (0 : Int)), .imm (.int .u32 (0 : Int)), .imm (.int .u32 (0 : Int)), .imm (.int .u32 (0 : Int)), .imm (.int .u32 (0 : Int)), .imm (.int .u32 (0 : Int)), .imm (.int .u32 (0 : Int)), .imm (.int .u32 (0 : Int)), .imm (.int .u32 (0 : Int)), .imm (.int .u32 (0 : Int)), .imm (.int .u32 (0 : Int)), .imm (.int .u32 (0 : Int)), .imm (.int .u32 (0 : Int))]) false), some (.box 137 (.agg (List.map (eI .u32) x3)) false)]⟩
def F105_L1 : Nat → (List (Int)) → (Int) → (List (Int)) → Option (List (Int))
 | 0, _, _, _ => none
 | m1 + 1, a0, x2, x3 => iteB (decide (x2 < (64 : Int))) (grd (0 ≤ x2 ∧ x2 < (64 : Int) ∧ x2.toNat < (a0.take 64).length) (grd (0 ≤ (IntKind.wrap .i64 (x2.tdiv (4 : Int))) ∧ (IntKind.wrap .i64 (x2.tdiv (4 : Int))) < (16 : Int)) (grd ((IntKind.wrap .i64 (x2.tdiv (4 : Int))).toNat < x3.length) (grd (0 ≤ (IntKind.wrap .i64 ((8 : Int) * (x2.tmod (4 : Int))))) (grd (0 ≤ (IntKind.wrap .i64 (x2.tdiv (4 : Int))) ∧ (IntKind.wrap .i64 (x2.tdiv (4 : Int))) < (16 : Int)) (grd ((IntKind.wrap .i64 (x2.tdiv (4 : Int))).toNat < x3.length) (F105_L1 m1 a0 (IntKind.wrap .i64 (x2 + (1 : Int))) (List.set x3 ((IntKind.wrap .i64 (x2.tdiv (4 : Int))).toNat) (IntKind.wrap .u32 (bOr .u32 (x3.getD ((IntKind.wrap .i64 (x2.tdiv (4 : Int))).toNat) default) (IntKind.wrap .u32 (bShl .u32 (IntKind.wrap .u32 (((a0.take 64).getD x2.toNat default))) ((IntKind.wrap .i64 ((8 : Int) * (x2.tmod (4 : Int)))).toNat))))))))))))) (grd (16 ≤ x3.length) (grd ((x3.take 16).length = 16) (grd (16 ≤ (x3.take 16).length) (some ((x3.take 16).take 16)))))
def F105 (n : Nat) (a0 : List (Int)) : Option (List (Int)) := grd (64 ≤ a0.length) (F105_L1 n a0 (0 : Int) [(0 : Int), (0 : Int), (0 : Int), (0 : Int), (0 : Int), (0 : Int), (0 : Int), (0 : Int), (0 : Int), (0 : Int), (0 : Int), (0 : Int), (0 : Int), (0 : Int), (0 : Int), (0 : Int)])
set_option maxHeartbeats 4000000 in
theorem F105_ok : ∀ (n : Nat) (a0 : List (Int)) (r : List (Int)), F105 n a0 = some r → FnC Try.prog 105 [.agg (List.map byteT a0)] (.agg (List.map (eI .u32) r))
 | n, a0, r, h => by
  unfold F105 at h
  refine FnC.goX mixed Try.func105 (by kernel_rfl) rfl ?_
  simp only [Try.ntmps105, List.length_cons, List.length_nil, List.replicate, List.cons_append, List.nil_append, Nat.reduceAdd, Nat.reduceSub]
  refine runX_seq ?_
  refine runX_regionC fun C hC => ?_
  try simp -implicitDefEqProofs (disch := omega) only [go_sem, ↓reduceIte]
  refine toEnd hC ?_
  refine endX_seq ?_
  refine runX_seq ?_
  refine runX_regionC fun C hC => ?_
  try simp -implicitDefEqProofs (disch := omega) only [go_sem, ↓reduceIte]
  refine toEnd hC ?_
  refine endX_seq ?_
  refine runX_seq ?_
  refine runX_seq ?_
  refine runX_regionC fun C hC => ?_
  obtain ⟨g1, h⟩ := grd_some h
  try simp -implicitDefEqProofs (maxSteps := 4000000) (disch := first | omega | decide | (simp only [go_sem]; omega)) only [go_sem, ↓reduceIte]
  repeat (with_reducible refine And.intro (by first | assumption | omega | (simp; done) | (simp; omega)) ?_)
  refine toEnd hC ?_
  refine endX_seq ?_
  refine runX_block ?_
  refine runX_loop [2, 3, 6, 7] (fun m S => ∃ (x2 : Int) (x3 : List (Int)), S = F105_S1 a0 x2 x3 ∧ m ≤ n ∧ F105_L1 m a0 x2 x3 = some r) n ⟨F105_S1 a0 (0 : Int) [(0 : Int), (0 : Int), (0 : Int), (0 : Int), (0 : Int), (0 : Int), (0 : Int), (0 : Int), (0 : Int), (0 : Int), (0 : Int), (0 : Int), (0 : Int), (0 : Int), (0 : Int), (0 : Int)], ?_, (0 : Int), [(0 : Int), (0 : Int), (0 : Int), (0 : Int), (0 : Int), (0 : Int), (0 : Int), (0 : Int), (0 : Int), (0 : Int), (0 : Int), (0 : Int), (0 : Int), (0 : Int), (0 : Int), (0 : Int)], rfl, Nat.le_refl _, h⟩ ?_
  ·simp only [F105_S1]
   (try simp -implicitDefEqProofs (disch := omega) only [go_sem, ↓reduceIte])
   exact leS_refl _
  ·clear h
   rintro m1 S ⟨x2, x3, rfl, hm1, h⟩
   cases m1 with
   | zero => first | cases (show (none : Option _) = some _ from h) | (rw [F105_L1] at h; cases h)
   | succ m1 =>
    rw [F105_L1] at h
    simp only [F105_S1]
    refine runX_seq ?_
    refine runX_regionC fun C hC => ?_
    try simp -implicitDefEqProofs (disch := omega) only [go_sem, ↓reduceIte]
    refine toEnd hC ?_
    refine endX_seq ?_
    refine runX_seq ?_
    rcases iteB_some h with ⟨c4, h⟩ | ⟨c4, h⟩
    ·refine runX_condT rfl c4 ?_
     refine runX_skip ?_
     refine endX_seq ?_
     refine runX_seq ?_
     refine runX_block ?_
     refine runX_seq ?_
     refine runX_regionC fun C hC => ?_
     obtain ⟨g5, h⟩ := grd_some h
     try simp -implicitDefEqProofs (maxSteps := 4000000) (disch := first | omega | decide | (simp only [go_sem]; omega)) only [go_sem, ↓reduceIte]
     repeat (with_reducible refine And.intro (by first | assumption | omega | (simp; done) | (simp; omega)) ?_)
     refine toEnd hC ?_
     refine endX_seq ?_
     refine runX_drawC mixed (by kernel_rfl) fun C hC => ?_
     obtain ⟨g6, h⟩ := grd_some h
     obtain ⟨g7, h⟩ := grd_some h
     obtain ⟨g8, h⟩ := grd_some h
     obtain ⟨g9, h⟩ := grd_some h
     obtain ⟨g10, h⟩ := grd_some h
     have e11 : patchT (List.map (eI .u32) x3) ((IntKind.wrap .i64 (x2.tdiv (4 : Int))).toNat) ([.imm (.int .u32 (IntKind.wrap .u32 (bOr .u32 (x3.getD ((IntKind.wrap .i64 (x2.tdiv (4 : Int))).toNat) default) (IntKind.wrap .u32 (bShl .u32 (IntKind.wrap .u32 (((a0.take 64).getD x2.toNat default))) ((IntKind.wrap .i64 ((8 : Int) * (x2.tmod (4 : Int)))).toNat))))))] : List T) = List.map (eI .u32) (List.set x3 ((IntKind.wrap .i64 (x2.tdiv (4 : Int))).toNat) (IntKind.wrap .u32 (bOr .u32 (x3.getD ((IntKind.wrap .i64 (x2.tdiv (4 : Int))).toNat) default) (IntKind.wrap .u32 (bShl .u32 (IntKind.wrap .u32 (((a0.take 64).getD x2.toNat default))) ((IntKind.wrap .i64 ((8 : Int) * (x2.tmod (4 : Int)))).toNat)))))) := patch_map (eI .u32) (l := x3) (i := (IntKind.wrap .i64 (x2.tdiv (4 : Int))).toNat) (v := (IntKind.wrap .u32 (bOr .u32 (x3.getD ((IntKind.wrap .i64 (x2.tdiv (4 : Int))).toNat) default) (IntKind.wrap .u32 (bShl .u32 (IntKind.wrap .u32 (((a0.take 64).getD x2.toNat default))) ((IntKind.wrap .i64 ((8 : Int) * (x2.tmod (4 : Int)))).toNat)))))) (by first | omega | (simp only [List.length_cons, List.length_nil]; omega) | (simp only [List.length_append]; omega) | (simp only [List.length_append, List.length_drop, List.length_cons, List.length_nil] at *; omega))
     try simp -implicitDefEqProofs (maxSteps := 4000000) (disch := first | omega | decide | (simp only [go_sem]; omega)) only [go_sem, ↓reduceIte, e11]
     repeat (with_reducible refine And.intro (by first | assumption | omega | (simp; done) | (simp; omega)) ?_)
     refine toEnd hC ?_
     refine endX_blk ?_
     refine endX_seq ?_
     refine runX_regionC fun C hC => ?_
     try simp -implicitDefEqProofs (disch := omega) only [go_sem, ↓reduceIte]
     refine toEnd hC ?_
     refine endX_q (roundQ_normal ⟨m1, by omega, F105_S1 a0 (IntKind.wrap .i64 (x2 + (1 : Int))) (List.set x3 ((IntKind.wrap .i64 (x2.tdiv (4 : Int))).toNat) (IntKind.wrap .u32 (bOr .u32 (x3.getD ((IntKind.wrap .i64 (x2.tdiv (4 : Int))).toNat) default) (IntKind.wrap .u32 (bShl .u32 (IntKind.wrap .u32 (((a0.take 64).getD x2.toNat default))) ((IntKind.wrap .i64 ((8 : Int) * (x2.tmod (4 : Int)))).toNat)))))), ?_, (IntKind.wrap .i64 (x2 + (1 : Int))), (List.set x3 ((IntKind.wrap .i64 (x2.tdiv (4 : Int))).toNat) (IntKind.wrap .u32 (bOr .u32 (x3.getD ((IntKind.wrap .i64 (x2.tdiv (4 : Int))).toNat) default) (IntKind.wrap .u32 (bShl .u32 (IntKind.wrap .u32 (((a0.take 64).getD x2.toNat default))) ((IntKind.wrap .i64 ((8 : Int) * (x2.tmod (4 : Int)))).toNat)))))), rfl, by omega, h⟩)
     simp only [F105_S1]
     (try simp -implicitDefEqProofs (maxSteps := 4000000) (disch := first | omega | decide | (simp only [go_sem]; omega)) only [go_sem, ↓reduceIte])
     exact leS_le (leL_refl _) (leOs_refl _)
    ·refine runX_condF rfl c4 ?_
     refine runX_exit ?_
     refine endX_seqE ?_
     refine endX_q (roundQ_exit ?_)
     refine endX_blkE ?_
     refine endX_seq ?_
     refine runX_seq ?_
     refine runX_regionC fun C hC => ?_
     obtain ⟨g12, h⟩ := grd_some h
     obtain ⟨g13, h⟩ := grd_some h
     have e14 : List.drop ((x3.take 16).length) ([.imm (.int .u32 (0 : Int)), .imm (.int .u32 (0 : Int)), .imm (.int .u32 (0 : Int)), .imm (.int .u32 (0 : Int)), .imm (.int .u32 (0 : Int)), .imm (.int .u32 (0 : Int)), .imm (.int .u32 (0 : Int)), .imm (.int .u32 (0 : Int)), .imm (.int .u32 (0 : Int)), .imm (.int .u32 (0 : Int)), .imm (.int .u32 (0 : Int)), .imm (.int .u32 (0 : Int)), .imm (.int .u32 (0 : Int)), .imm (.int .u32 (0 : Int)), .imm (.int .u32 (0 : Int)), .imm (.int .u32 (0 : Int))] : List T) = [] := drop_all (by first | (simp only [List.length_cons, List.length_nil]; omega) | (simp; omega))
     try simp -implicitDefEqProofs (maxSteps := 4000000) (disch := first | omega | decide | (simp only [go_sem]; omega)) only [go_sem, ↓reduceIte, e14]
     repeat (with_reducible refine And.intro (by first | assumption | omega | (simp; done) | (simp; omega)) ?_)
     refine toEnd hC ?_
     refine endX_seq ?_
     refine runX_ret ?_
     refine endX_q ?_
     obtain ⟨g15, h⟩ := grd_some h
     obtain rfl := Option.some.inj h
     show RetW _ _ _ _ _
     simp only [RetW]
     (try simp -implicitDefEqProofs (maxSteps := 4000000) (disch := first | omega | decide | (simp only [go_sem]; omega)) only [go_sem, ↓reduceIte])
     repeat (with_reducible refine And.intro (by first | assumption | omega | (simp; done) | (simp; omega)) ?_)
     (try simp (disch := omega) only [if_pos, Nat.sub_zero])
     exact leT_refl _
end Go.Proofs.YtaiapalhdejngaaX

set_option linter.unusedVariables false
set_option linter.unusedSimpArgs false
namespace Go.Proofs.YtaiapalhdejngaaX
open Go Go.RowKit Go.Proofs
set_option maxRecDepth 100000
attribute [local go_sem ↓] stepsK_build stepsK_bs appendS
attribute [local go_sem] String.reduceEq String.reduceNe reduceCtorEq Int.reduceEq Nat.reduceAdd Nat.reduceSub Nat.reduceMul Nat.reduceLT Nat.reduceLeDiff Nat.reduceEqDiff Nat.reduceBEq Int.reduceToNat Int.reduceLT Int.reduceLE Int.reduceGT Int.reduceGE Int.reduceAdd Int.reduceSub Int.reduceMul Int.reduceNeg Int.reduceBEq Int.reduceBNe Int.reducePow Int.reduceDiv Int.reduceMod Int.reduceTDiv Int.reduceTMod Int.reduceNatCast
/-! ### md5.sines -/
def F106 (n : Nat)  : Option (List (Int)) := some ((3614090360 : Int) :: (3905402710 : Int) :: (606105819 : Int) :: (3250441966 : Int) :: (4118548399 : Int) :: (1200080426 : Int) :: (2821735955 : Int) :: (4249261313 : Int) :: (1770035416 : Int) :: (2336552879 : Int) :: (4294925233 : Int) :: (2304563134 : Int) :: (1804603682 : Int) :: (4254626195 : Int) :: (2792965006 : Int) :: (1236535329 : Int) :: (4129170786 : Int) :: (3225465664 : Int) :: (643717713 : Int) :: (3921069994 : Int) :: (3593408605 : Int) :: (38016083 : Int) :: (3634488961 : Int) :: (3889429448 : Int) :: (568446438 : Int) :: (3275163606 : Int) :: (4107603335 : Int) :: (1163531501 : Int) :: (2850285829 : Int) :: (4243563512 : Int) :: (1735328473 : Int) :: (2368359562 : Int) :: (4294588738 : Int) :: (2272392833 : Int) :: (1839030562 : Int) :: (4259657740 : Int) :: (2763975236 : Int) :: (1272893353 : Int) :: (4139469664 : Int) :: (3200236656 : Int) :: (681279174 : Int) :: (3936430074 : Int) :: (3572445317 : Int) :: (76029189 : Int) :: (3654602809 : Int) :: (3873151461 : Int) :: (530742520 : Int) :: (3299628645 : Int) :: (4096336452 : Int) :: (1126891415 : Int) :: (2878612391 : Int) :: (4237533241 : Int) :: (1700485571 : Int) :: (2399980690 : Int) :: (4293915773 : Int) :: (2240044497 : Int) :: (1873313359 : Int) :: (4264355552 : Int) :: (2734768916 : Int) :: (1309151649 : Int) :: (4149444226 : Int) :: (3174756917 : Int) :: (718787259 : Int) :: (3951481745 : Int) :: ([] : List Int))
set_option maxHeartbeats 4000000 in
theorem F106_ok : ∀ (n : Nat) (r : List (Int)), F106 n = some r → FnC Try.prog 106 [] (.agg (List.map (eI .u32) r))
 | n, r, h => by
  unfold F106 at h
  refine FnC.goX mixed Try.func106 (by kernel_rfl) rfl ?_
  simp only [Try.ntmps106, List.length_cons, List.length_nil, List.replicate, List.cons_append, List.nil_append, Nat.reduceAdd, Nat.reduceSub]
  refine runX_seq ?_
  refine runX_regionC fun C hC => ?_
  try simp -implicitDefEqProofs (maxSteps := 4000000) (disch := first | omega | decide | (simp only [go_sem]; omega)) only [go_sem, ↓reduceIte]
  repeat (with_reducible refine And.intro (by first | assumption | omega | (simp; done) | (simp; omega)) ?_)
  refine toEnd hC ?_
  refine endX_seq ?_
  refine runX_seq ?_
  refine runX_regionC fun C hC => ?_
  simp only [runK_region, runK_draw, liteL, liteL2, dstsL, gL, List.getD_cons_zero, List.getD_cons_succ]
  try simp -implicitDefEqProofs (maxSteps := 4000000) (disch := first | omega | decide | (simp only [go_sem]; omega)) only [go_sem, ↓reduceIte]
  repeat (with_reducible refine And.intro (by first | assumption | omega | (simp; done) | (simp; omega)) ?_)
  refine bldG_of [.imm (.int .u32 (3614090360 : Int)), .imm (.int .u32 (3905402710 : Int)), .imm (.int .u32 (606105819 : Int)), .imm (.int .u32 (3250441966 : Int)), .imm (.int .u32 (4118548399 : Int)), .imm (.int .u32 (1200080426 : Int)), .imm (.int .u32 (2821735955 : Int)), .imm (.int .u32 (4249261313 : Int)), .imm (.int .u32 (1770035416 : Int)), .imm (.int .u32 (2336552879 : Int)), .imm (.int .u32 (4294925233 : Int)), .imm (.int .u32 (2304563134 : Int)), .imm (.int .u32 (1804603682 : Int)), .imm (.int .u32 (4254626195 : Int)), .imm (.int .u32 (2792965006 : Int)), .imm (.int .u32 (1236535329 : Int)), .imm (.int .u32 (4129170786 : Int)), .imm (.int .u32 (3225465664 : Int)), .imm (.int .u32 (643717713 : Int)), .imm (.int .u32 (3921069994 : Int)), .imm (.int .u32 (3593408605 : Int)), .imm (.int .u32 (38016083 : Int)), .imm (.int .u32 (3634488961 : Int)), .imm (.int .u32 (3889429448 : Int)), .imm (.int .u32 (568446438 : Int)), .imm (.int .u32 (3275163606 : Int)), .imm (.int .u32 (4107603335 : Int)), .imm (.int .u32 (1163531501 : Int)), .imm (.int .u32 (2850285829 : Int)), .imm (.int .u32 (4243563512 : Int)), .imm (.int .u32 (1735328473 : Int)), .imm (.int .u32 (2368359562 : Int)), .imm (.int .u32 (4294588738 : Int)), .imm (.int .u32 (2272392833 : Int)), .imm (.int .u32 (1839030562 : Int)), .imm (.int .u32 (4259657740 : Int)), .imm (.int .u32 (2763975236 : Int)), .imm (.int .u32 (1272893353 : Int)), .imm (.int .u32 (4139469664 : Int)), .imm (.int .u32 (3200236656 : Int)), .imm (.int .u32 (681279174 : Int)), .imm (.int .u32 (3936430074 : Int)), .imm (.int .u32 (3572445317 : Int)), .imm (.int .u32 (76029189 : Int)), .imm (.int .u32 (3654602809 : Int)), .imm (.int .u32 (3873151461 : Int)), .imm (.int .u32 (530742520 : Int)), .imm (.int .u32 (3299628645 : Int)), .imm (.int .u32 (4096336452 : Int)), .imm (.int .u32 (1126891415 : Int)), .imm (.int .u32 (2878612391 : Int)), .imm (.int .u32 (4237533241 : Int)), .imm (.int .u32 (1700485571 : Int)), .imm (.int .u32 (2399980690 : Int)), .imm (.int .u32 (4293915773 : Int)), .imm (.int .u32 (2240044497 : Int)), .imm (.int .u32 (1873313359 : Int)), .imm (.int .u32 (4264355552 : Int)), .imm (.int .u32 (2734768916 : Int)), .imm (.int .u32 (1309151649 : Int)), .imm (.int .u32 (4149444226 : Int)), .imm (.int .u32 (3174756917 : Int)), .imm (.int .u32 (718787259 : Int)), .imm (.int .u32 (3951481745 : Int))] (by kernel_rfl) ?_
  try simp -implicitDefEqProofs (maxSteps := 4000000) (disch := first | omega | decide | (simp only [go_sem]; omega)) only [go_sem, ↓reduceIte]
  repeat (with_reducible refine And.intro (by first | assumption | omega | (simp; done) | (simp; omega)) ?_)
  refine toEnd hC ?_
  refine endX_seq ?_
  refine runX_ret ?_
  refine endX_q ?_
  obtain rfl := Option.some.inj h
  show RetW _ _ _ _ _
  simp only [RetW]
  (try simp -implicitDefEqProofs (maxSteps := 4000000) (disch := first | omega | decide | (simp only [go_sem]; omega)) only [go_sem, ↓reduceIte])
  (try simp (disch := omega) only [if_pos, Nat.sub_zero])
  exact leT_refl _
end Go.Proofs.YtaiapalhdejngaaX

set_option linter.unusedVariables false
set_option linter.unusedSimpArgs false
namespace Go.Proofs.YtaiapalhdejngaaX
open Go Go.RowKit Go.Proofs
set_option maxRecDepth 100000
attribute [local go_sem ↓] stepsK_build stepsK_bs appendS
attribute [local go_sem] String.reduceEq String.reduceNe reduceCtorEq Int.reduceEq Nat.reduceAdd Nat.reduceSub Nat.reduceMul Nat.reduceLT Nat.reduceLeDiff Nat.reduceEqDiff Nat.reduceBEq Int.reduceToNat Int.reduceLT Int.reduceLE Int.reduceGT Int.reduceGE Int.reduceAdd Int.reduceSub Int.reduceMul Int.reduceNeg Int.reduceBEq Int.reduceBNe Int.reducePow Int.reduceDiv Int.reduceMod Int.reduceTDiv Int.reduceTMod Int.reduceNatCast
/-! ### md5.turns -/
def F107 (n : Nat)  : Option (List (Int)) := some [(7 : Int), (12 : Int), (17 : Int), (22 : Int), (5 : Int), (9 : Int), (14 : Int), (20 : Int), (4 : Int), (11 : Int), (16 : Int), (23 : Int), (6 : Int), (10 : Int), (15 : Int), (21 : Int)]
set_option maxHeartbeats 4000000 in
theorem F107_ok : ∀ (n : Nat) (r : List (Int)), F107 n = some r → FnC Try.prog 107 [] (.agg (List.map (eI .i64) r))
 | n, r, h => by
  unfold F107 at h
  refine FnC.goX mixed Try.func107 (by kernel_rfl) rfl ?_
  simp only [Try.ntmps107, List.length_cons, List.length_nil, List.replicate, List.cons_append, List.nil_append, Nat.reduceAdd, Nat.reduceSub]
  refine runX_seq ?_
  refine runX_regionC fun C hC => ?_
  try simp -implicitDefEqProofs (maxSteps := 4000000) (disch := first | omega | decide | (simp only [go_sem]; omega)) only [go_sem, ↓reduceIte]
  repeat (with_reducible refine And.intro (by first | assumption | omega | (simp; done) | (simp; omega)) ?_)
  refine toEnd hC ?_
  refine endX_seq ?_
  refine runX_seq ?_
  refine runX_regionC fun C hC => ?_
  simp only [runK_region, runK_draw, liteL, liteL2, dstsL, gL, List.getD_cons_zero, List.getD_cons_succ]
  try simp -implicitDefEqProofs (maxSteps := 4000000) (disch := first | omega | decide | (simp only [go_sem]; omega)) only [go_sem, ↓reduceIte]
  repeat (with_reducible refine And.intro (by first | assumption | omega | (simp; done) | (simp; omega)) ?_)
  refine bldG_of [.imm (.int .i64 (7 : Int)), .imm (.int .i64 (12 : Int)), .imm (.int .i64 (17 : Int)), .imm (.int .i64 (22 : Int))] (by kernel_rfl) ?_
  try simp -implicitDefEqProofs (maxSteps := 4000000) (disch := first | omega | decide | (simp only [go_sem]; omega)) only [go_sem, ↓reduceIte]
  repeat (with_reducible refine And.intro (by first | assumption | omega | (simp; done) | (simp; omega)) ?_)
  refine bldG_of [.imm (.int .i64 (5 : Int)), .imm (.int .i64 (9 : Int)), .imm (.int .i64 (14 : Int)), .imm (.int .i64 (20 : Int))] (by kernel_rfl) ?_
  try simp -implicitDefEqProofs (maxSteps := 4000000) (disch := first | omega | decide | (simp only [go_sem]; omega)) only [go_sem, ↓reduceIte]
  repeat (with_reducible refine And.intro (by first | assumption | omega | (simp; done) | (simp; omega)) ?_)
  refine bldG_of [.imm (.int .i64 (4 : Int)), .imm (.int .i64 (11 : Int)), .imm (.int .i64 (16 : Int)), .imm (.int .i64 (23 : Int))] (by kernel_rfl) ?_
  try simp -implicitDefEqProofs (maxSteps := 4000000) (disch := first | omega | decide | (simp only [go_sem]; omega)) only [go_sem, ↓reduceIte]
  repeat (with_reducible refine And.intro (by first | assumption | omega | (simp; done) | (simp; omega)) ?_)
  refine bldG_of [.imm (.int .i64 (6 : Int)), .imm (.int .i64 (10 : Int)), .imm (.int .i64 (15 : Int)), .imm (.int .i64 (21 : Int))] (by kernel_rfl) ?_
  try simp -implicitDefEqProofs (maxSteps := 4000000) (disch := first | omega | decide | (simp only [go_sem]; omega)) only [go_sem, ↓reduceIte]
  repeat (with_reducible refine And.intro (by first | assumption | omega | (simp; done) | (simp; omega)) ?_)
  refine bldG_of [.imm (.int .i64 (7 : Int)), .imm (.int .i64 (12 : Int)), .imm (.int .i64 (17 : Int)), .imm (.int .i64 (22 : Int)), .imm (.int .i64 (5 : Int)), .imm (.int .i64 (9 : Int)), .imm (.int .i64 (14 : Int)), .imm (.int .i64 (20 : Int)), .imm (.int .i64 (4 : Int)), .imm (.int .i64 (11 : Int)), .imm (.int .i64 (16 : Int)), .imm (.int .i64 (23 : Int)), .imm (.int .i64 (6 : Int)), .imm (.int .i64 (10 : Int)), .imm (.int .i64 (15 : Int)), .imm (.int .i64 (21 : Int))] (by kernel_rfl) ?_
  try simp -implicitDefEqProofs (maxSteps := 4000000) (disch := first | omega | decide | (simp only [go_sem]; omega)) only [go_sem, ↓reduceIte]
  repeat (with_reducible refine And.intro (by first | assumption | omega | (simp; done) | (simp; omega)) ?_)
  refine toEnd hC ?_
  refine endX_seq ?_
  refine runX_ret ?_
  refine endX_q ?_
  obtain rfl := Option.some.inj h
  show RetW _ _ _ _ _
  simp only [RetW]
  (try simp -implicitDefEqProofs (maxSteps := 4000000) (disch := first | omega | decide | (simp only [go_sem]; omega)) only [go_sem, ↓reduceIte])
  (try simp (disch := omega) only [if_pos, Nat.sub_zero])
  exact leT_refl _
end Go.Proofs.YtaiapalhdejngaaX

set_option linter.unusedVariables false
set_option linter.unusedSimpArgs false
namespace Go.Proofs.YtaiapalhdejngaaX
open Go Go.RowKit Go.Proofs
set_option maxRecDepth 100000
attribute [local go_sem ↓] stepsK_build stepsK_bs appendS
attribute [local go_sem] String.reduceEq String.reduceNe reduceCtorEq Int.reduceEq Nat.reduceAdd Nat.reduceSub Nat.reduceMul Nat.reduceLT Nat.reduceLeDiff Nat.reduceEqDiff Nat.reduceBEq Int.reduceToNat Int.reduceLT Int.reduceLE Int.reduceGT Int.reduceGE Int.reduceAdd Int.reduceSub Int.reduceMul Int.reduceNeg Int.reduceBEq Int.reduceBNe Int.reducePow Int.reduceDiv Int.reduceMod Int.reduceTDiv Int.reduceTMod Int.reduceNatCast
/-! ### md5.mix -/
def F108 (n : Nat) (a0 : Int) (a1 : Int) (a2 : Int) (a3 : Int) : Option ((Int) × (Int)) := iteB ((IntKind.wrap .i64 (a0.tdiv (16 : Int))) == (0 : Int)) (some ((IntKind.wrap .u32 (bOr .u32 (IntKind.wrap .u32 (bAnd .u32 a1 a2)) (IntKind.wrap .u32 (bAnd .u32 (IntKind.wrap .u32 (bNot .u32 a1)) a3)))), a0)) (iteB ((IntKind.wrap .i64 (a0.tdiv (16 : Int))) == (1 : Int)) (some ((IntKind.wrap .u32 (bOr .u32 (IntKind.wrap .u32 (bAnd .u32 a3 a1)) (IntKind.wrap .u32 (bAnd .u32 (IntKind.wrap .u32 (bNot .u32 a3)) a2)))), (IntKind.wrap .i64 ((IntKind.wrap .i64 ((5 : Int) * a0)) + (1 : Int))))) (iteB ((IntKind.wrap .i64 (a0.tdiv (16 : Int))) == (2 : Int)) (some ((IntKind.wrap .u32 (bXor .u32 (IntKind.wrap .u32 (bXor .u32 a1 a2)) a3)), (IntKind.wrap .i64 ((IntKind.wrap .i64 ((3 : Int) * a0)) + (5 : Int))))) (some ((IntKind.wrap .u32 (bXor .u32 a2 (IntKind.wrap .u32 (bOr .u32 a1 (IntKind.wrap .u32 (bNot .u32 a3)))))), (IntKind.wrap .i64 ((7 : Int) * a0))))))
set_option maxHeartbeats 4000000 in
theorem F108_ok : ∀ (n : Nat) (a0 : Int) (a1 : Int) (a2 : Int) (a3 : Int) (r : (Int) × (Int)), F108 n a0 a1 a2 a3 = some r → FnC Try.prog 108 [.imm (.int .i64 a0), .imm (.int .u32 a1), .imm (.int .u32 a2), .imm (.int .u32 a3)] (.tup [.imm (.int .u32 r.1), .imm (.int .i64 r.2)])
 | n, a0, a1, a2, a3, r, h => by
  unfold F108 at h
  refine FnC.goX mixed Try.func108 (by kernel_rfl) rfl ?_
  simp only [Try.ntmps108, List.length_cons, List.length_nil, List.replicate, List.cons_append, List.nil_append, Nat.reduceAdd, Nat.reduceSub]
  refine runX_seq ?_
  refine runX_regionC fun C hC => ?_
  try simp -implicitDefEqProofs (maxSteps := 4000000) (disch := first | omega | decide | (simp only [go_sem]; omega)) only [go_sem, ↓reduceIte]
  repeat (with_reducible refine And.intro (by first | assumption | omega | (simp; done) | (simp; omega)) ?_)
  refine toEnd hC ?_
  refine endX_seq ?_
  refine runX_seq ?_
  refine runX_seq ?_
  refine runX_regionC fun C hC => ?_
  try simp -implicitDefEqProofs (maxSteps := 4000000) (disch := first | omega | decide | (simp only [go_sem]; omega)) only [go_sem, ↓reduceIte]
  repeat (with_reducible refine And.intro (by first | assumption | omega | (simp; done) | (simp; omega)) ?_)
  refine toEnd hC ?_
  refine endX_seq ?_
  refine runX_block ?_
  refine runX_seq ?_
  refine runX_regionC fun C hC => ?_
  try simp -implicitDefEqProofs (maxSteps := 4000000) (disch := first | omega | decide | (simp only [go_sem]; omega)) only [go_sem, ↓reduceIte]
  repeat (with_reducible refine And.intro (by first | assumption | omega | (simp; done) | (simp; omega)) ?_)
  refine toEnd hC ?_
  refine endX_seq ?_
  rcases iteB_some h with ⟨c1, h⟩ | ⟨c1, h⟩
  ·refine runX_condT rfl c1 ?_
   refine runX_seq ?_
   refine runX_regionC fun C hC => ?_
   try simp -implicitDefEqProofs (maxSteps := 4000000) (disch := first | omega | decide | (simp only [go_sem]; omega)) only [go_sem, ↓reduceIte]
   repeat (with_reducible refine And.intro (by first | assumption | omega | (simp; done) | (simp; omega)) ?_)
   refine toEnd hC ?_
   refine endX_seq ?_
   refine runX_ret ?_
   refine endX_blkR ?_
   refine endX_seqR ?_
   refine endX_q ?_
   obtain rfl := Option.some.inj h
   show RetW _ _ _ _ _
   simp only [RetW]
   (try simp -implicitDefEqProofs (maxSteps := 4000000) (disch := first | omega | decide | (simp only [go_sem]; omega)) only [go_sem, ↓reduceIte])
   (try simp (disch := omega) only [if_pos, Nat.sub_zero])
   exact leT_refl _
  ·refine runX_condF rfl c1 ?_
   refine runX_seq ?_
   refine runX_regionC fun C hC => ?_
   try simp -implicitDefEqProofs (maxSteps := 4000000) (disch := first | omega | decide | (simp only [go_sem]; omega)) only [go_sem, ↓reduceIte]
   repeat (with_reducible refine And.intro (by first | assumption | omega | (simp; done) | (simp; omega)) ?_)
   refine toEnd hC ?_
   refine endX_seq ?_
   rcases iteB_some h with ⟨c2, h⟩ | ⟨c2, h⟩
   ·refine runX_condT rfl c2 ?_
    refine runX_seq ?_
    refine runX_regionC fun C hC => ?_
    try simp -implicitDefEqProofs (maxSteps := 4000000) (disch := first | omega | decide | (simp only [go_sem]; omega)) only [go_sem, ↓reduceIte]
    repeat (with_reducible refine And.intro (by first | assumption | omega | (simp; done) | (simp; omega)) ?_)
    refine toEnd hC ?_
    refine endX_seq ?_
    refine runX_ret ?_
    refine endX_blkR ?_
    refine endX_seqR ?_
    refine endX_q ?_
    obtain rfl := Option.some.inj h
    show RetW _ _ _ _ _
    simp only [RetW]
    (try simp -implicitDefEqProofs (maxSteps := 4000000) (disch := first | omega | decide | (simp only [go_sem]; omega)) only [go_sem, ↓reduceIte])
    (try simp (disch := omega) only [if_pos, Nat.sub_zero])
    exact leT_refl _
   ·refine runX_condF rfl c2 ?_
    refine runX_seq ?_
    refine runX_regionC fun C hC => ?_
    try simp -implicitDefEqProofs (maxSteps := 4000000) (disch := first | omega | decide | (simp only [go_sem]; omega)) only [go_sem, ↓reduceIte]
    repeat (with_reducible refine And.intro (by first | assumption | omega | (simp; done) | (simp; omega)) ?_)
    refine toEnd hC ?_
    refine endX_seq ?_
    rcases iteB_some h with ⟨c3, h⟩ | ⟨c3, h⟩
    ·refine runX_condT rfl c3 ?_
     refine runX_seq ?_
     refine runX_regionC fun C hC => ?_
     try simp -implicitDefEqProofs (maxSteps := 4000000) (disch := first | omega | decide | (simp only [go_sem]; omega)) only [go_sem, ↓reduceIte]
     repeat (with_reducible refine And.intro (by first | assumption | omega | (simp; done) | (simp; omega)) ?_)
     refine toEnd hC ?_
     refine endX_seq ?_
     refine runX_ret ?_
     refine endX_blkR ?_
     refine endX_seqR ?_
     refine endX_q ?_
     obtain rfl := Option.some.inj h
     show RetW _ _ _ _ _
     simp only [RetW]
     (try simp -implicitDefEqProofs (maxSteps := 4000000) (disch := first | omega | decide | (simp only [go_sem]; omega)) only [go_sem, ↓reduceIte])
     (try simp (disch := omega) only [if_pos, Nat.sub_zero])
     exact leT_refl _
    ·refine runX_condF rfl c3 ?_
     refine runX_skip ?_
     refine endX_blk ?_
     refine endX_seq ?_
     refine runX_seq ?_
     refine runX_regionC fun C hC => ?_
     try simp -implicitDefEqProofs (maxSteps := 4000000) (disch := first | omega | decide | (simp only [go_sem]; omega)) only [go_sem, ↓reduceIte]
     repeat (with_reducible refine And.intro (by first | assumption | omega | (simp; done) | (simp; omega)) ?_)
     refine toEnd hC ?_
     refine endX_seq ?_
     refine runX_ret ?_
     refine endX_q ?_
     obtain rfl := Option.some.inj h
     show RetW _ _ _ _ _
     simp only [RetW]
     (try simp -implicitDefEqProofs (maxSteps := 4000000) (disch := first | omega | decide | (simp only [go_sem]; omega)) only [go_sem, ↓reduceIte])
     (try simp (disch := omega) only [if_pos, Nat.sub_zero])
     exact leT_refl _
end Go.Proofs.YtaiapalhdejngaaX

set_option linter.unusedVariables false
set_option linter.unusedSimpArgs false
namespace Go.Proofs.YtaiapalhdejngaaX
open Go Go.RowKit Go.Proofs
set_option maxRecDepth 100000
attribute [local go_sem ↓] stepsK_build stepsK_bs appendS
attribute [local go_sem] String.reduceEq String.reduceNe reduceCtorEq Int.reduceEq Nat.reduceAdd Nat.reduceSub Nat.reduceMul Nat.reduceLT Nat.reduceLeDiff Nat.reduceEqDiff Nat.reduceBEq Int.reduceToNat Int.reduceLT Int.reduceLE Int.reduceGT Int.reduceGE Int.reduceAdd Int.reduceSub Int.reduceMul Int.reduceNeg Int.reduceBEq Int.reduceBNe Int.reducePow Int.reduceDiv Int.reduceMod Int.reduceTDiv Int.reduceTMod Int.reduceNatCast
/-! ### math/bits.RotateLeft32 -/
def F109 (n : Nat) (a0 : Int) (a1 : Int) : Option (Int) := grd (0 ≤ (IntKind.wrap .u64 (bAnd .u64 (IntKind.wrap .u64 (a1)) (31 : Int)))) (grd (0 ≤ (IntKind.wrap .u64 ((32 : Int) - (IntKind.wrap .u64 (bAnd .u64 (IntKind.wrap .u64 (a1)) (31 : Int)))))) (some (IntKind.wrap .u32 (bOr .u32 (IntKind.wrap .u32 (bShl .u32 a0 ((IntKind.wrap .u64 (bAnd .u64 (IntKind.wrap .u64 (a1)) (31 : Int))).toNat))) (bShr .u32 a0 ((IntKind.wrap .u64 ((32 : Int) - (IntKind.wrap .u64 (bAnd .u64 (IntKind.wrap .u64 (a1)) (31 : Int))))).toNat))))))
set_option maxHeartbeats 4000000 in
theorem F109_ok : ∀ (n : Nat) (a0 : Int) (a1 : Int) (r : Int), F109 n a0 a1 = some r → FnC Try.prog 109 [.imm (.int .u32 a0), .imm (.int .i64 a1)] (.imm (.int .u32 r))
 | n, a0, a1, r, h => by
  unfold F109 at h
  refine FnC.goX mixed Try.func109 (by kernel_rfl) rfl ?_
  simp only [Try.ntmps109, List.length_cons, List.length_nil, List.replicate, List.cons_append, List.nil_append, Nat.reduceAdd, Nat.reduceSub]
  refine runX_seq ?_
  refine runX_regionC fun C hC => ?_
  try simp -implicitDefEqProofs (maxSteps := 4000000) (disch := first | omega | decide | (simp only [go_sem]; omega)) only [go_sem, ↓reduceIte]
  repeat (with_reducible refine And.intro (by first | assumption | omega | (simp; done) | (simp; omega)) ?_)
  refine toEnd hC ?_
  refine endX_seq ?_
  refine runX_seq ?_
  refine runX_regionC fun C hC => ?_
  try simp -implicitDefEqProofs (maxSteps := 4000000) (disch := first | omega | decide | (simp only [go_sem]; omega)) only [go_sem, ↓reduceIte]
  repeat (with_reducible refine And.intro (by first | assumption | omega | (simp; done) | (simp; omega)) ?_)
  refine toEnd hC ?_
  refine endX_seq ?_
  refine runX_seq ?_
  refine runX_regionC fun C hC => ?_
  obtain ⟨g1, h⟩ := grd_some h
  obtain ⟨g2, h⟩ := grd_some h
  try simp -implicitDefEqProofs (maxSteps := 4000000) (disch := first | omega | decide | (simp only [go_sem]; omega)) only [go_sem, ↓reduceIte]
  repeat (with_reducible refine And.intro (by first | assumption | omega | (simp; done) | (simp; omega)) ?_)
  refine toEnd hC ?_
  refine endX_seq ?_
  refine runX_ret ?_
  refine endX_q ?_
  obtain rfl := Option.some.inj h
  show RetW _ _ _ _ _
  simp only [RetW]
  (try simp -implicitDefEqProofs (maxSteps := 4000000) (disch := first | omega | decide | (simp only [go_sem]; omega)) only [go_sem, ↓reduceIte])
  (try simp (disch := omega) only [if_pos, Nat.sub_zero])
  exact leT_refl _
end Go.Proofs.YtaiapalhdejngaaX

set_option linter.unusedVariables false
set_option linter.unusedSimpArgs false
namespace Go.Proofs.YtaiapalhdejngaaX
open Go Go.RowKit Go.Proofs
set_option maxRecDepth 100000
attribute [local go_sem ↓] stepsK_build stepsK_bs appendS
attribute [local go_sem] String.reduceEq String.reduceNe reduceCtorEq Int.reduceEq Nat.reduceAdd Nat.reduceSub Nat.reduceMul Nat.reduceLT Nat.reduceLeDiff Nat.reduceEqDiff Nat.reduceBEq Int.reduceToNat Int.reduceLT Int.reduceLE Int.reduceGT Int.reduceGE Int.reduceAdd Int.reduceSub Int.reduceMul Int.reduceNeg Int.reduceBEq Int.reduceBNe Int.reducePow Int.reduceDiv Int.reduceMod Int.reduceTDiv Int.reduceTMod Int.reduceNatCast
/-! ### (md5.State).Block -/
def F82_S1 (a0 : (List (Int)) × (Int)) (v2 : List (Int)) (v3 : List (Int)) (v4 : List (Int)) (x11 : Int) (x12 : Int) (x13 : Int) (x14 : Int) (x15 : Int) : St := ⟨[.junk, .junk, .ref 0 0 0 0, .junk, .ref 2 0 0 0, .ref 3 0 0 0, .ref 4 0 0 0, .ref 5 0 0 0, .ref 6 0 0 0, .junk, .junk, .junk, .junk, .junk, .junk, .junk, .junk, .junk, .junk, .junk, .imm (.int .i64 x11), .junk, .junk, .junk, .junk, .junk, .junk, .junk, .junk, .junk, .junk, .junk, .junk, .junk, .junk, .junk, .junk, .junk, .junk, .junk, .junk, .junk, .junk, .junk, .junk, .junk, .junk, .junk, .junk, .junk, .junk, .junk, .junk, .junk, .junk, .junk, .junk, .junk, .junk, .junk, .junk, .junk, .junk, .junk, .junk, .junk, .junk, .junk, .junk, .junk, .junk, .junk, .junk, .junk, .junk, .junk, .junk, .junk, .junk, .junk, .junk, .junk, .junk, .junk, .junk, .junk], [some (.box 113 (.agg [.imm (.int .u32 (a0.1.getD 0 default)), .imm (.int .u32 (a0.1.getD 1 default)), .imm (.int .u32 (a0.1.getD 2 default)), .imm (.int .u32 (a0.1.getD 3 default)), .imm (.int .u64 a0.2)]) false), none, some (.box 113 (.agg [.imm (.int .u32 (0 : Int)), .imm (.int .u32 (0 : Int)), .imm (.int .u32 (0 : Int)), .imm (.int .u32 (0 : Int)), .imm (.int .u64 (0 : Int))]) false), some (.box 137 (.agg (List.map (eI .u32) v2)) false), some (.box 139 (.agg (List.map (eI .u32) v3)) false), some (.box 142 (.agg (List.map (eI .i64) v4)) false), some (.box 110 (.agg [.imm (.int .u32 x12), .imm (.int .u32 x13), .imm (.int .u32 x14), .imm (.int .u32 x15)]) false)]⟩
def F82_L1 : Nat → ((List (Int)) × (Int)) → (List (Int)) → (List (Int)) → (List (Int)) → (Int) → (Int) → (Int) → (Int) → (Int) → Option ((List (Int)) × (Int))
 | 0, _, _, _, _, _, _, _, _, _ => none
 | m1 + 1, a0, v2, v3, v4, x11, x12, x13, x14, x15 => iteB (decide (x11 < (64 : Int))) ((F108 m1 x11 x13 x14 x15).bind fun v17 => grd (0 ≤ (v17.2.tmod (16 : Int)) ∧ (v17.2.tmod (16 : Int)) < (16 : Int)) (grd ((v17.2.tmod (16 : Int)).toNat < v2.length) (grd (0 ≤ x11 ∧ x11 < (64 : Int)) (grd (x11.toNat < v3.length) (grd (0 ≤ (IntKind.wrap .i64 (x11.tdiv (16 : Int))) ∧ (IntKind.wrap .i64 (x11.tdiv (16 : Int))) < (4 : Int)) (grd (0 ≤ (x11.tmod (4 : Int)) ∧ (x11.tmod (4 : Int)) < (4 : Int)) (grd ((IntKind.wrap .i64 (x11.tdiv (16 : Int))).toNat * 4 + (x11.tmod (4 : Int)).toNat < v4.length) ((F109 m1 (IntKind.wrap .u32 ((IntKind.wrap .u32 ((IntKind.wrap .u32 (x12 + v17.1)) + (v2.getD ((v17.2.tmod (16 : Int)).toNat) default))) + (v3.getD x11.toNat default))) (v4.getD ((IntKind.wrap .i64 (x11.tdiv (16 : Int))).toNat * 4 + (x11.tmod (4 : Int)).toNat) default)).bind fun v25 => F82_L1 m1 a0 v2 v3 v4 (IntKind.wrap .i64 (x11 + (1 : Int))) x15 (IntKind.wrap .u32 (x13 + v25)) x13 x14)))))))) (some ([(IntKind.wrap .u32 ((a0.1.getD 0 default) + x12)), (IntKind.wrap .u32 ((a0.1.getD 1 default) + x13)), (IntKind.wrap .u32 ((a0.1.getD 2 default) + x14)), (IntKind.wrap .u32 ((a0.1.getD 3 default) + x15))], (IntKind.wrap .u64 (a0.2 + (64 : Int)))))
def F82 (n : Nat) (a0 : (List (Int)) × (Int)) (a1 : List (Int)) : Option ((List (Int)) × (Int)) := grd (64 ≤ a1.length) ((F105 n (a1.take 64)).bind fun v2 => (F106 n ).bind fun v3 => (F107 n ).bind fun v4 => grd (v2.length = 16) (grd (v3.length = 64) (grd (v4.length = 16) (F82_L1 n a0 v2 v3 v4 (0 : Int) (a0.1.getD 0 default) (a0.1.getD 1 default) (a0.1.getD 2 default) (a0.1.getD 3 default)))))
set_option maxHeartbeats 4000000 in
theorem F82_ok : ∀ (n : Nat) (a0 : (List (Int)) × (Int)) (a1 : List (Int)) (r : (List (Int)) × (Int)), F82 n a0 a1 = some r → FnC Try.prog 82 [.agg [.imm (.int .u32 (a0.1.getD 0 default)), .imm (.int .u32 (a0.1.getD 1 default)), .imm (.int .u32 (a0.1.getD 2 default)), .imm (.int .u32 (a0.1.getD 3 default)), .imm (.int .u64 a0.2)], .agg (List.map byteT a1)] (.agg [.imm (.int .u32 (r.1.getD 0 default)), .imm (.int .u32 (r.1.getD 1 default)), .imm (.int .u32 (r.1.getD 2 default)), .imm (.int .u32 (r.1.getD 3 default)), .imm (.int .u64 r.2)])
 | n, a0, a1, r, h => by
  unfold F82 at h
  refine FnC.goX mixed Try.func82 (by kernel_rfl) rfl ?_
  simp only [Try.ntmps82, List.length_cons, List.length_nil, List.replicate, List.cons_append, List.nil_append, Nat.reduceAdd, Nat.reduceSub]
  refine runX_seq ?_
  refine runX_regionC fun C hC => ?_
  try simp -implicitDefEqProofs (disch := omega) only [go_sem, ↓reduceIte]
  refine toEnd hC ?_
  refine endX_seq ?_
  refine runX_seq ?_
  refine runX_regionC fun C hC => ?_
  obtain ⟨g1, h⟩ := grd_some h
  obtain ⟨v2, h2, h⟩ := bnd_some h
  try simp -implicitDefEqProofs (maxSteps := 4000000) (disch := first | omega | decide | (simp only [go_sem]; omega)) only [go_sem, ↓reduceIte]
  repeat (with_reducible refine And.intro (by first | assumption | omega | (simp; done) | (simp; omega)) ?_)
  refine callG_X (by first | rfl | (simp only [go_sem]; done) | (simp only [closedL, closedT, Bool.and_true]; exact closedL_map _ (fun _ => by first | rfl | (simp only [go_sem]; done)) _)) (F105_ok n (a1.take 64) _ h2) (by repeat (first | exact leL_refl _ | refine leL_cons (by first | exact leT_refl _ | exact leT_virt | exact leT_junk _ | exact leT_sl | exact leT_sln | exact leT_nil | (refine leT_agg (by repeat (first | exact leL_refl _ | refine leL_cons (by first | exact leT_refl _ | exact leT_sl | exact leT_sln | exact leT_nil) ?_)))) ?_)) ?_
  obtain ⟨v3, h3, h⟩ := bnd_some h
  try simp -implicitDefEqProofs (maxSteps := 4000000) (disch := first | omega | decide | (simp only [go_sem]; omega)) only [go_sem, ↓reduceIte]
  repeat (with_reducible refine And.intro (by first | assumption | omega | (simp; done) | (simp; omega)) ?_)
  refine callG_X (by first | rfl | (simp only [go_sem]; done) | (simp only [closedL, closedT, Bool.and_true]; exact closedL_map _ (fun _ => by first | rfl | (simp only [go_sem]; done)) _)) (F106_ok n  _ h3) (by repeat (first | exact leL_refl _ | refine leL_cons (by first | exact leT_refl _ | exact leT_virt | exact leT_junk _ | exact leT_sl | exact leT_sln | exact leT_nil | (refine leT_agg (by repeat (first | exact leL_refl _ | refine leL_cons (by first | exact leT_refl _ | exact leT_sl | exact leT_sln | exact leT_nil) ?_)))) ?_)) ?_
  obtain ⟨v4, h4, h⟩ := bnd_some h
  try simp -implicitDefEqProofs (maxSteps := 4000000) (disch := first | omega | decide | (simp only [go_sem]; omega)) only [go_sem, ↓reduceIte]
  repeat (with_reducible refine And.intro (by first | assumption | omega | (simp; done) | (simp; omega)) ?_)
  refine callG_X (by first | rfl | (simp only [go_sem]; done) | (simp only [closedL, closedT, Bool.and_true]; exact closedL_map _ (fun _ => by first | rfl | (simp only [go_sem]; done)) _)) (F107_ok n  _ h4) (by repeat (first | exact leL_refl _ | refine leL_cons (by first | exact leT_refl _ | exact leT_virt | exact leT_junk _ | exact leT_sl | exact leT_sln | exact leT_nil | (refine leT_agg (by repeat (first | exact leL_refl _ | refine leL_cons (by first | exact leT_refl _ | exact leT_sl | exact leT_sln | exact leT_nil) ?_)))) ?_)) ?_
  obtain ⟨g5, h⟩ := grd_some h
  have e6 : List.drop v2.length ([.imm (.int .u32 (0 : Int)), .imm (.int .u32 (0 : Int)), .imm (.int .u32 (0 : Int)), .imm (.int .u32 (0 : Int)), .imm (.int .u32 (0 : Int)), .imm (.int .u32 (0 : Int)), .imm (.int .u32 (0 : Int)), .imm (.int .u32 (0 : Int)), .imm (.int .u32 (0 : Int)), .imm (.int .u32 (0 : Int)), .imm (.int .u32 (0 : Int)), .imm (.int .u32 (0 : Int)), .imm (.int .u32 (0 : Int)), .imm (.int .u32 (0 : Int)), .imm (.int .u32 (0 : Int)), .imm (.int .u32 (0 : Int))] : List T) = [] := drop_all (by first | (simp only [List.length_cons, List.length_nil]; omega) | (simp; omega))
  obtain ⟨g7, h⟩ := grd_some h
  have e8 : List.drop v3.length ((.imm (.int .u32 (0 : Int)) :: .imm (.int .u32 (0 : Int)) :: .imm (.int .u32 (0 : Int)) :: .imm (.int .u32 (0 : Int)) :: .imm (.int .u32 (0 : Int)) :: .imm (.int .u32 (0 : Int)) :: .imm (.int .u32 (0 : Int)) :: .imm (.int .u32 (0 : Int)) :: .imm (.int .u32 (0 : Int)) :: .imm (.int .u32 (0 : Int)) :: .imm (.int .u32 (0 : Int)) :: .imm (.int .u32 (0 : Int)) :: .imm (.int .u32 (0 : Int)) :: .imm (.int .u32 (0 : Int)) :: .imm (.int .u32 (0 : Int)) :: .imm (.int .u32 (0 : Int)) :: .imm (.int .u32 (0 : Int)) :: .imm (.int .u32 (0 : Int)) :: .imm (.int .u32 (0 : Int)) :: .imm (.int .u32 (0 : Int)) :: .imm (.int .u32 (0 : Int)) :: .imm (.int .u32 (0 : Int)) :: .imm (.int .u32 (0 : Int)) :: .imm (.int .u32 (0 : Int)) :: .imm (.int .u32 (0 : Int)) :: .imm (.int .u32 (0 : Int)) :: .imm (.int .u32 (0 : Int)) :: .imm (.int .u32 (0 : Int)) :: .imm (.int .u32 (0 : Int)) :: .imm (.int .u32 (0 : Int)) :: .imm (.int .u32 (0 : Int)) :: .imm (.int .u32 (0 : Int)) :: .imm (.int .u32 (0 : Int)) :: .imm (.int .u32 (0 : Int)) :: .imm (.int .u32 (0 : Int)) :: .imm (.int .u32 (0 : Int)) :: .imm (.int .u32 (0 : Int)) :: .imm (.int .u32 (0 : Int)) :: .imm (.int .u32 (0 : Int)) :: .imm (.int .u32 (0 : Int)) :: .imm (.int .u32 (0 : Int)) :: .imm (.int .u32 (0 : Int)) :: .imm (.int .u32 (0 : Int)) :: .imm (.int .u32 (0 : Int)) :: .imm (.int .u32 (0 : Int)) :: .imm (.int .u32 (0 : Int)) :: .imm (.int .u32 (0 : Int)) :: .imm (.int .u32 (0 : Int)) :: .imm (.int .u32 (0 : Int)) :: .imm (.int .u32 (0 : Int)) :: .imm (.int .u32 (0 : Int)) :: .imm (.int .u32 (0 : Int)) :: .imm (.int .u32 (0 : Int)) :: .imm (.int .u32 (0 : Int)) :: .imm (.int .u32 (0 : Int)) :: .imm (.int .u32 (0 : Int)) :: .imm (.int .u32 (0 : Int)) :: .imm (.int .u32 (0 : Int)) :: .imm (.int .u32 (0 : Int)) :: .imm (.int .u32 (0 : Int)) :: .imm (.int .u32 (0 : Int)) :: .imm (.int .u32 (0 : Int)) :: .imm (.int .u32 (0 : Int)) :: .imm (.int .u32 (0 : Int)) :: ([] : List T)) : List T) = [] := drop_all (by first | (simp only [List.length_cons, List.length_nil]; omega) | (simp; omega))
  obtain ⟨g9, h⟩ := grd_some h
  have e10 : List.drop v4.length ([.imm (.int .i64 (0 : Int)), .imm (.int .i64 (0 : Int)), .imm (.int .i64 (0 : Int)), .imm (.int .i64 (0 : Int)), .imm (.int .i64 (0 : Int)), .imm (.int .i64 (0 : Int)), .imm (.int .i64 (0 : Int)), .imm (.int .i64 (0 : Int)), .imm (.int .i64 (0 : Int)), .imm (.int .i64 (0 : Int)), .imm (.int .i64 (0 : Int)), .imm (.int .i64 (0 : Int)), .imm (.int .i64 (0 : Int)), .imm (.int .i64 (0 : Int)), .imm (.int .i64 (0 : Int)), .imm (.int .i64 (0 : Int))] : List T) = [] := drop_all (by first | (simp only [List.length_cons, List.length_nil]; omega) | (simp; omega))
  try simp -implicitDefEqProofs (maxSteps := 4000000) (disch := first | omega | decide | (simp only [go_sem]; omega)) only [go_sem, ↓reduceIte, e6, e8, e10]
  repeat (with_reducible refine And.intro (by first | assumption | omega | (simp; done) | (simp; omega)) ?_)
  refine toEnd hC ?_
  refine endX_seq ?_
  refine runX_seq ?_
  refine runX_regionC fun C hC => ?_
  try simp -implicitDefEqProofs (disch := omega) only [go_sem, ↓reduceIte]
  refine toEnd hC ?_
  refine endX_seq ?_
  refine runX_seq ?_
  refine runX_seq ?_
  refine runX_regionC fun C hC => ?_
  try simp -implicitDefEqProofs (disch := omega) only [go_sem, ↓reduceIte]
  refine toEnd hC ?_
  refine endX_seq ?_
  refine runX_block ?_
  refine runX_loop [2, 4, 5, 6, 7, 8, 20] (fun m S => ∃ (x11 : Int) (x12 : Int) (x13 : Int) (x14 : Int) (x15 : Int), S = F82_S1 a0 v2 v3 v4 x11 x12 x13 x14 x15 ∧ m ≤ n ∧ F82_L1 m a0 v2 v3 v4 x11 x12 x13 x14 x15 = some r) n ⟨F82_S1 a0 v2 v3 v4 (0 : Int) (a0.1.getD 0 default) (a0.1.getD 1 default) (a0.1.getD 2 default) (a0.1.getD 3 default), ?_, (0 : Int), (a0.1.getD 0 default), (a0.1.getD 1 default), (a0.1.getD 2 default), (a0.1.getD 3 default), rfl, Nat.le_refl _, h⟩ ?_
  ·simp only [F82_S1]
   (try simp -implicitDefEqProofs (disch := omega) only [go_sem, ↓reduceIte])
   exact leS_refl _
  ·clear h
   rintro m1 S ⟨x11, x12, x13, x14, x15, rfl, hm1, h⟩
   cases m1 with
   | zero => first | cases (show (none : Option _) = some _ from h) | (rw [F82_L1] at h; cases h)
   | succ m1 =>
    rw [F82_L1] at h
    simp only [F82_S1]
    refine runX_seq ?_
    refine runX_regionC fun C hC => ?_
    try simp -implicitDefEqProofs (maxSteps := 4000000) (disch := first | omega | decide | (simp only [go_sem]; omega)) only [go_sem, ↓reduceIte]
    repeat (with_reducible refine And.intro (by first | assumption | omega | (simp; done) | (simp; omega)) ?_)
    refine toEnd hC ?_
    refine endX_seq ?_
    refine runX_seq ?_
    rcases iteB_some h with ⟨c16, h⟩ | ⟨c16, h⟩
    ·refine runX_condT rfl c16 ?_
     refine runX_skip ?_
     refine endX_seq ?_
     refine runX_seq ?_
     refine runX_block ?_
     refine runX_seq ?_
     refine runX_regionC fun C hC => ?_
     try simp -implicitDefEqProofs (disch := omega) only [go_sem, ↓reduceIte]
     refine toEnd hC ?_
     refine endX_seq ?_
     refine runX_seq ?_
     refine runX_regionC fun C hC => ?_
     obtain ⟨v17, h17, h⟩ := bnd_some h
     try simp -implicitDefEqProofs (maxSteps := 4000000) (disch := first | omega | decide | (simp only [go_sem]; omega)) only [go_sem, ↓reduceIte]
     repeat (with_reducible refine And.intro (by first | assumption | omega | (simp; done) | (simp; omega)) ?_)
     refine callG_X (by first | rfl | (simp only [go_sem]; done) | (simp only [closedL, closedT, Bool.and_true]; exact closedL_map _ (fun _ => by first | rfl | (simp only [go_sem]; done)) _)) (F108_ok m1 x11 x13 x14 x15 _ h17) (by repeat (first | exact leL_refl _ | refine leL_cons (by first | exact leT_refl _ | exact leT_virt | exact leT_junk _ | exact leT_sl | exact leT_sln | exact leT_nil | (refine leT_agg (by repeat (first | exact leL_refl _ | refine leL_cons (by first | exact leT_refl _ | exact leT_sl | exact leT_sln | exact leT_nil) ?_)))) ?_)) ?_
     try simp -implicitDefEqProofs (maxSteps := 4000000) (disch := first | omega | decide | (simp only [go_sem]; omega)) only [go_sem, ↓reduceIte]
     repeat (with_reducible refine And.intro (by first | assumption | omega | (simp; done) | (simp; omega)) ?_)
     refine toEnd hC ?_
     refine endX_seq ?_
     refine runX_seq ?_
     refine runX_drawC mixed (by kernel_rfl) fun C hC => ?_
     obtain ⟨g18, h⟩ := grd_some h
     obtain ⟨g19, h⟩ := grd_some h
     obtain ⟨g20, h⟩ := grd_some h
     obtain ⟨g21, h⟩ := grd_some h
     obtain ⟨g22, h⟩ := grd_some h
     obtain ⟨g23, h⟩ := grd_some h
     obtain ⟨g24, h⟩ := grd_some h
     obtain ⟨v25, h25, h⟩ := bnd_some h
     try simp -implicitDefEqProofs (maxSteps := 4000000) (disch := first | omega | decide | (simp only [go_sem]; omega)) only [go_sem, ↓reduceIte]
     repeat (with_reducible refine And.intro (by first | assumption | omega | (simp; done) | (simp; omega)) ?_)
     refine callD_X (F109_ok m1 (IntKind.wrap .u32 ((IntKind.wrap .u32 ((IntKind.wrap .u32 (x12 + v17.1)) + (v2.getD ((v17.2.tmod (16 : Int)).toNat) default))) + (v3.getD x11.toNat default))) (v4.getD ((IntKind.wrap .i64 (x11.tdiv (16 : Int))).toNat * 4 + (x11.tmod (4 : Int)).toNat) default) _ h25) (by repeat (first | exact leL_refl _ | refine leL_cons (by first | exact leT_refl _ | exact leT_virt | exact leT_junk _ | exact leT_sl | exact leT_sln | exact leT_nil | (refine leT_agg (by repeat (first | exact leL_refl _ | refine leL_cons (by first | exact leT_refl _ | exact leT_sl | exact leT_sln | exact leT_nil) ?_)))) ?_)) ?_
     try simp -implicitDefEqProofs (maxSteps := 4000000) (disch := first | omega | decide | (simp only [go_sem]; omega)) only [go_sem, ↓reduceIte]
     repeat (with_reducible refine And.intro (by first | assumption | omega | (simp; done) | (simp; omega)) ?_)
     refine toEnd hC ?_
     refine endX_seq ?_
     refine runX_regionC fun C hC => ?_
     try simp -implicitDefEqProofs (disch := omega) only [go_sem, ↓reduceIte]
     refine bldG_of [.imm (.int .u32 x15), .imm (.int .u32 (IntKind.wrap .u32 (x13 + v25))), .imm (.int .u32 x13), .imm (.int .u32 x14)] (by kernel_rfl) ?_
     try simp -implicitDefEqProofs (disch := omega) only [go_sem, ↓reduceIte]
     refine toEnd hC ?_
     refine endX_blk ?_
     refine endX_seq ?_
     refine runX_regionC fun C hC => ?_
     try simp -implicitDefEqProofs (disch := omega) only [go_sem, ↓reduceIte]
     refine toEnd hC ?_
     refine endX_q (roundQ_normal ⟨m1, by omega, F82_S1 a0 v2 v3 v4 (IntKind.wrap .i64 (x11 + (1 : Int))) x15 (IntKind.wrap .u32 (x13 + v25)) x13 x14, ?_, (IntKind.wrap .i64 (x11 + (1 : Int))), x15, (IntKind.wrap .u32 (x13 + v25)), x13, x14, rfl, by omega, h⟩)
     simp only [F82_S1]
     (try simp -implicitDefEqProofs (disch := omega) only [go_sem, ↓reduceIte])
     exact leS_refl _
    ·refine runX_condF rfl c16 ?_
     refine runX_exit ?_
     refine endX_seqE ?_
     refine endX_q (roundQ_exit ?_)
     refine endX_blkE ?_
     refine endX_seq ?_
     refine runX_seq ?_
     refine runX_seq ?_
     refine runX_regionC fun C hC => ?_
     try simp -implicitDefEqProofs (disch := omega) only [go_sem, ↓reduceIte]
     refine toEnd hC ?_
     refine endX_seq ?_
     refine runX_block ?_
     refine runX_unroll 4 ?_
     refine runX_seq ?_
     refine runX_regionC fun C hC => ?_
     try simp -implicitDefEqProofs (disch := omega) only [go_sem, ↓reduceIte]
     refine toEnd hC ?_
     refine endX_seq ?_
     refine runX_seq ?_
     refine runX_condT rfl rfl ?_
     refine runX_skip ?_
     refine endX_seq ?_
     refine runX_seq ?_
     refine runX_block ?_
     refine runX_seq ?_
     refine runX_regionC fun C hC => ?_
     try simp -implicitDefEqProofs (disch := omega) only [go_sem, ↓reduceIte]
     refine toEnd hC ?_
     refine endX_seq ?_
     refine runX_drawC mixed (by kernel_rfl) fun C hC => ?_
     try simp -implicitDefEqProofs (disch := omega) only [go_sem, ↓reduceIte]
     refine toEnd hC ?_
     refine endX_blk ?_
     refine endX_seq ?_
     refine runX_regionC fun C hC => ?_
     try simp -implicitDefEqProofs (disch := omega) only [go_sem, ↓reduceIte]
     refine toEnd hC ?_
     refine endX_lp ?_
     refine runX_seq ?_
     refine runX_regionC fun C hC => ?_
     try simp -implicitDefEqProofs (disch := omega) only [go_sem, ↓reduceIte]
     refine toEnd hC ?_
     refine endX_seq ?_
     refine runX_seq ?_
     refine runX_condT rfl rfl ?_
     refine runX_skip ?_
     refine endX_seq ?_
     refine runX_seq ?_
     refine runX_block ?_
     refine runX_seq ?_
     refine runX_regionC fun C hC => ?_
     try simp -implicitDefEqProofs (disch := omega) only [go_sem, ↓reduceIte]
     refine toEnd hC ?_
     refine endX_seq ?_
     refine runX_drawC mixed (by kernel_rfl) fun C hC => ?_
     try simp -implicitDefEqProofs (maxSteps := 4000000) (disch := first | omega | decide | (simp only [go_sem]; omega)) only [go_sem, ↓reduceIte]
     repeat (with_reducible refine And.intro (by first | assumption | omega | (simp; done) | (simp; omega)) ?_)
     refine toEnd hC ?_
     refine endX_blk ?_
     refine endX_seq ?_
     refine runX_regionC fun C hC => ?_
     try simp -implicitDefEqProofs (disch := omega) only [go_sem, ↓reduceIte]
     refine toEnd hC ?_
     refine endX_lp ?_
     refine runX_seq ?_
     refine runX_regionC fun C hC => ?_
     try simp -implicitDefEqProofs (disch := omega) only [go_sem, ↓reduceIte]
     refine toEnd hC ?_
     refine endX_seq ?_
     refine runX_seq ?_
     refine runX_condT rfl rfl ?_
     refine runX_skip ?_
     refine endX_seq ?_
     refine runX_seq ?_
     refine runX_block ?_
     refine runX_seq ?_
     refine runX_regionC fun C hC => ?_
     try simp -implicitDefEqProofs (disch := omega) only [go_sem, ↓reduceIte]
     refine toEnd hC ?_
     refine endX_seq ?_
     refine runX_drawC mixed (by kernel_rfl) fun C hC => ?_
     try simp -implicitDefEqProofs (maxSteps := 4000000) (disch := first | omega | decide | (simp only [go_sem]; omega)) only [go_sem, ↓reduceIte]
     repeat (with_reducible refine And.intro (by first | assumption | omega | (simp; done) | (simp; omega)) ?_)
     refine toEnd hC ?_
     refine endX_blk ?_
     refine endX_seq ?_
     refine runX_regionC fun C hC => ?_
     try simp -implicitDefEqProofs (disch := omega) only [go_sem, ↓reduceIte]
     refine toEnd hC ?_
     refine endX_lp ?_
     refine runX_seq ?_
     refine runX_regionC fun C hC => ?_
     try simp -implicitDefEqProofs (disch := omega) only [go_sem, ↓reduceIte]
     refine toEnd hC ?_
     refine endX_seq ?_
     refine runX_seq ?_
     refine runX_condT rfl rfl ?_
     refine runX_skip ?_
     refine endX_seq ?_
     refine runX_seq ?_
     refine runX_block ?_
     refine runX_seq ?_
     refine runX_regionC fun C hC => ?_
     try simp -implicitDefEqProofs (disch := omega) only [go_sem, ↓reduceIte]
     refine toEnd hC ?_
     refine endX_seq ?_
     refine runX_drawC mixed (by kernel_rfl) fun C hC => ?_
     try simp -implicitDefEqProofs (maxSteps := 4000000) (disch := first | omega | decide | (simp only [go_sem]; omega)) only [go_sem, ↓reduceIte]
     repeat (with_reducible refine And.intro (by first | assumption | omega | (simp; done) | (simp; omega)) ?_)
     refine toEnd hC ?_
     refine endX_blk ?_
     refine endX_seq ?_
     refine runX_regionC fun C hC => ?_
     try simp -implicitDefEqProofs (disch := omega) only [go_sem, ↓reduceIte]
     refine toEnd hC ?_
     refine endX_lp ?_
     refine runX_seq ?_
     refine runX_regionC fun C hC => ?_
     try simp -implicitDefEqProofs (disch := omega) only [go_sem, ↓reduceIte]
     refine toEnd hC ?_
     refine endX_seq ?_
     refine runX_seq ?_
     refine runX_condF rfl rfl ?_
     refine runX_exit ?_
     refine endX_seqE ?_
     refine endX_lpE ?_
     refine endX_blkE ?_
     refine endX_seq ?_
     refine runX_seq ?_
     refine runX_regionC fun C hC => ?_
     try simp -implicitDefEqProofs (disch := omega) only [go_sem, ↓reduceIte]
     refine toEnd hC ?_
     refine endX_seq ?_
     refine runX_seq ?_
     refine runX_regionC fun C hC => ?_
     try simp -implicitDefEqProofs (disch := omega) only [go_sem, ↓reduceIte]
     refine toEnd hC ?_
     refine endX_seq ?_
     refine runX_ret ?_
     refine endX_q ?_
     obtain rfl := Option.some.inj h
     show RetW _ _ _ _ _
     simp only [RetW]
     (try simp -implicitDefEqProofs (disch := omega) only [go_sem, ↓reduceIte])
     (try simp (disch := omega) only [if_pos, Nat.sub_zero])
     exact leT_refl _
end Go.Proofs.YtaiapalhdejngaaX

set_option linter.unusedVariables false
set_option linter.unusedSimpArgs false
namespace Go.Proofs.YtaiapalhdejngaaX
open Go Go.RowKit Go.Proofs
set_option maxRecDepth 100000
attribute [local go_sem ↓] stepsK_build stepsK_bs appendS
attribute [local go_sem] String.reduceEq String.reduceNe reduceCtorEq Int.reduceEq Nat.reduceAdd Nat.reduceSub Nat.reduceMul Nat.reduceLT Nat.reduceLeDiff Nat.reduceEqDiff Nat.reduceBEq Int.reduceToNat Int.reduceLT Int.reduceLE Int.reduceGT Int.reduceGE Int.reduceAdd Int.reduceSub Int.reduceMul Int.reduceNeg Int.reduceBEq Int.reduceBNe Int.reducePow Int.reduceDiv Int.reduceMod Int.reduceTDiv Int.reduceTMod Int.reduceNatCast
/-! ### (md5.State).End -/
def F83_S1 (a0 : (List (Int)) × (Int)) (a1 : List (Int)) (x14 : Int) (x15 : Int) (x16 : Int) (x17 : Int) (x18 : Int) (x19 : List (Int)) : St := ⟨[.junk, .junk, .ref 0 0 0 0, .junk, .ref 1 0 0 0, .imm (.int .u64 (IntKind.wrap .u64 ((8 : Int) * (IntKind.wrap .u64 (a0.2 + (IntKind.wrap .u64 (((a1.take (if (63 : Int) < (a1.length : Int) then (63 : Int) else (a1.length : Int)).toNat).length : Int)))))))), .ref 2 0 0 0, .junk, .junk, .junk, .junk, .junk, .junk, .junk, .junk, .junk, .junk, .junk, .junk, .junk, .junk, .junk, .junk, .junk, .junk, .junk, .junk, .junk, .junk, .junk, .junk, .junk, .junk, .junk, .junk, .junk, .junk, .junk, .junk, .junk, .junk, .junk, .junk, .junk, .junk, .junk, .junk, .junk, .junk, .junk, .junk, .junk, .junk, .junk, .junk, .junk, .junk, .junk, .junk, .junk, .junk, .junk, .junk, .junk, .junk], [some (.box 113 (.agg [.imm (.int .u32 x14), .imm (.int .u32 x15), .imm (.int .u32 x16), .imm (.int .u32 x17), .imm (.int .u64 x18)]) false), some (.box 70 (.agg [.imm (.int .u8 (0 : Int)), .imm (.int .u8 (0 : Int)), .imm (.int .u8 (0 : Int)), .imm (.int .u8 (0 : Int)), .imm (.int .u8 (0 : Int)), .imm (.int .u8 (0 : Int)), .imm (.int .u8 (0 : Int)), .imm (.int .u8 (0 : Int)), .imm (.int .u8 (0 : Int)), .imm (.int .u8 (0 : Int)), .imm (.int .u8 (0 : Int)), .imm (.int .u8 (0 : Int)), .imm (.int .u8 (0 : Int)), .imm (.int .u8 (0 : Int)), .imm (.int .u8 (0 : Int)), .imm (.int .u8 (0 : Int))]) false), some (.box 116 (.agg (List.map byteT x19)) false)]⟩
def F83_J1 (n : Nat) (a0 : (List (Int)) × (Int)) (a1 : List (Int)) (x14 : Int) (x15 : Int) (x16 : Int) (x17 : Int) (x18 : Int) (x19 : List (Int)) : Option (List (Int)) := grd (56 < x19.length) (grd (57 < x19.length) (grd (58 < x19.length) (grd (59 < x19.length) (grd (60 < x19.length) (grd (61 < x19.length) (grd (62 < x19.length) (grd (63 < x19.length) (grd (64 ≤ x19.length) ((F82 n ([x14, x15, x16, x17], x18) ((List.set (List.set (List.set (List.set (List.set (List.set (List.set (List.set x19 56 (IntKind.wrap .u8 ((bShr .u64 (IntKind.wrap .u64 ((8 : Int) * (IntKind.wrap .u64 (a0.2 + (IntKind.wrap .u64 (((a1.take (if (63 : Int) < (a1.length : Int) then (63 : Int) else (a1.length : Int)).toNat).length : Int))))))) 0)))) 57 (IntKind.wrap .u8 ((bShr .u64 (IntKind.wrap .u64 ((8 : Int) * (IntKind.wrap .u64 (a0.2 + (IntKind.wrap .u64 (((a1.take (if (63 : Int) < (a1.length : Int) then (63 : Int) else (a1.length : Int)).toNat).length : Int))))))) 8)))) 58 (IntKind.wrap .u8 ((bShr .u64 (IntKind.wrap .u64 ((8 : Int) * (IntKind.wrap .u64 (a0.2 + (IntKind.wrap .u64 (((a1.take (if (63 : Int) < (a1.length : Int) then (63 : Int) else (a1.length : Int)).toNat).length : Int))))))) 16)))) 59 (IntKind.wrap .u8 ((bShr .u64 (IntKind.wrap .u64 ((8 : Int) * (IntKind.wrap .u64 (a0.2 + (IntKind.wrap .u64 (((a1.take (if (63 : Int) < (a1.length : Int) then (63 : Int) else (a1.length : Int)).toNat).length : Int))))))) 24)))) 60 (IntKind.wrap .u8 ((bShr .u64 (IntKind.wrap .u64 ((8 : Int) * (IntKind.wrap .u64 (a0.2 + (IntKind.wrap .u64 (((a1.take (if (63 : Int) < (a1.length : Int) then (63 : Int) else (a1.length : Int)).toNat).length : Int))))))) 32)))) 61 (IntKind.wrap .u8 ((bShr .u64 (IntKind.wrap .u64 ((8 : Int) * (IntKind.wrap .u64 (a0.2 + (IntKind.wrap .u64 (((a1.take (if (63 : Int) < (a1.length : Int) then (63 : Int) else (a1.length : Int)).toNat).length : Int))))))) 40)))) 62 (IntKind.wrap .u8 ((bShr .u64 (IntKind.wrap .u64 ((8 : Int) * (IntKind.wrap .u64 (a0.2 + (IntKind.wrap .u64 (((a1.take (if (63 : Int) < (a1.length : Int) then (63 : Int) else (a1.length : Int)).toNat).length : Int))))))) 48)))) 63 (IntKind.wrap .u8 ((bShr .u64 (IntKind.wrap .u64 ((8 : Int) * (IntKind.wrap .u64 (a0.2 + (IntKind.wrap .u64 (((a1.take (if (63 : Int) < (a1.length : Int) then (63 : Int) else (a1.length : Int)).toNat).length : Int))))))) 56)))).take 64)).bind fun v37 => some [(IntKind.wrap .u8 ((bShr .u32 (v37.1.getD 0 default) 0))), (IntKind.wrap .u8 ((bShr .u32 (v37.1.getD 0 default) 8))), (IntKind.wrap .u8 ((bShr .u32 (v37.1.getD 0 default) 16))), (IntKind.wrap .u8 ((bShr .u32 (v37.1.getD 0 default) 24))), (IntKind.wrap .u8 ((bShr .u32 (v37.1.getD 1 default) 0))), (IntKind.wrap .u8 ((bShr .u32 (v37.1.getD 1 default) 8))), (IntKind.wrap .u8 ((bShr .u32 (v37.1.getD 1 default) 16))), (IntKind.wrap .u8 ((bShr .u32 (v37.1.getD 1 default) 24))), (IntKind.wrap .u8 ((bShr .u32 (v37.1.getD 2 default) 0))), (IntKind.wrap .u8 ((bShr .u32 (v37.1.getD 2 default) 8))), (IntKind.wrap .u8 ((bShr .u32 (v37.1.getD 2 default) 16))), (IntKind.wrap .u8 ((bShr .u32 (v37.1.getD 2 default) 24))), (IntKind.wrap .u8 ((bShr .u32 (v37.1.getD 3 default) 0))), (IntKind.wrap .u8 ((bShr .u32 (v37.1.getD 3 default) 8))), (IntKind.wrap .u8 ((bShr .u32 (v37.1.getD 3 default) 16))), (IntKind.wrap .u8 ((bShr .u32 (v37.1.getD 3 default) 24)))])))))))))
def F83 (n : Nat) (a0 : (List (Int)) × (Int)) (a1 : List (Int)) : Option (List (Int)) := grd (0 ≤ (if (63 : Int) < (a1.length : Int) then (63 : Int) else (a1.length : Int)) ∧ (if (63 : Int) < (a1.length : Int) then (63 : Int) else (a1.length : Int)) ≤ (a1.length : Int)) (grd ((a1.take (if (63 : Int) < (a1.length : Int) then (63 : Int) else (a1.length : Int)).toNat).length ≤ 64) (grd (0 ≤ ((a1.take (if (63 : Int) < (a1.length : Int) then (63 : Int) else (a1.length : Int)).toNat).length : Int) ∧ ((a1.take (if (63 : Int) < (a1.length : Int) then (63 : Int) else (a1.length : Int)).toNat).length : Int) < (64 : Int)) (grd (((a1.take (if (63 : Int) < (a1.length : Int) then (63 : Int) else (a1.length : Int)).toNat).length : Int).toNat < ((a1.take (if (63 : Int) < (a1.length : Int) then (63 : Int) else (a1.length : Int)).toNat).length + (((0 : Int) :: (0 : Int) :: (0 : Int) :: (0 : Int) :: (0 : Int) :: (0 : Int) :: (0 : Int) :: (0 : Int) :: (0 : Int) :: (0 : Int) :: (0 : Int) :: (0 : Int) :: (0 : Int) :: (0 : Int) :: (0 : Int) :: (0 : Int) :: (0 : Int) :: (0 : Int) :: (0 : Int) :: (0 : Int) :: (0 : Int) :: (0 : Int) :: (0 : Int) :: (0 : Int) :: (0 : Int) :: (0 : Int) :: (0 : Int) :: (0 : Int) :: (0 : Int) :: (0 : Int) :: (0 : Int) :: (0 : Int) :: (0 : Int) :: (0 : Int) :: (0 : Int) :: (0 : Int) :: (0 : Int) :: (0 : Int) :: (0 : Int) :: (0 : Int) :: (0 : Int) :: (0 : Int) :: (0 : Int) :: (0 : Int) :: (0 : Int) :: (0 : Int) :: (0 : Int) :: (0 : Int) :: (0 : Int) :: (0 : Int) :: (0 : Int) :: (0 : Int) :: (0 : Int) :: (0 : Int) :: (0 : Int) :: (0 : Int) :: (0 : Int) :: (0 : Int) :: (0 : Int) :: (0 : Int) :: (0 : Int) :: (0 : Int) :: (0 : Int) :: (0 : Int) :: ([] : List Int)).drop ((a1.take (if (63 : Int) < (a1.length : Int) then (63 : Int) else (a1.length : Int)).toNat).length)).length)) (iteB (decide ((56 : Int) ≤ ((a1.take (if (63 : Int) < (a1.length : Int) then (63 : Int) else (a1.length : Int)).toNat).length : Int))) (grd (64 ≤ ((a1.take (if (63 : Int) < (a1.length : Int) then (63 : Int) else (a1.length : Int)).toNat).length + (((0 : Int) :: (0 : Int) :: (0 : Int) :: (0 : Int) :: (0 : Int) :: (0 : Int) :: (0 : Int) :: (0 : Int) :: (0 : Int) :: (0 : Int) :: (0 : Int) :: (0 : Int) :: (0 : Int) :: (0 : Int) :: (0 : Int) :: (0 : Int) :: (0 : Int) :: (0 : Int) :: (0 : Int) :: (0 : Int) :: (0 : Int) :: (0 : Int) :: (0 : Int) :: (0 : Int) :: (0 : Int) :: (0 : Int) :: (0 : Int) :: (0 : Int) :: (0 : Int) :: (0 : Int) :: (0 : Int) :: (0 : Int) :: (0 : Int) :: (0 : Int) :: (0 : Int) :: (0 : Int) :: (0 : Int) :: (0 : Int) :: (0 : Int) :: (0 : Int) :: (0 : Int) :: (0 : Int) :: (0 : Int) :: (0 : Int) :: (0 : Int) :: (0 : Int) :: (0 : Int) :: (0 : Int) :: (0 : Int) :: (0 : Int) :: (0 : Int) :: (0 : Int) :: (0 : Int) :: (0 : Int) :: (0 : Int) :: (0 : Int) :: (0 : Int) :: (0 : Int) :: (0 : Int) :: (0 : Int) :: (0 : Int) :: (0 : Int) :: (0 : Int) :: (0 : Int) :: ([] : List Int)).drop ((a1.take (if (63 : Int) < (a1.length : Int) then (63 : Int) else (a1.length : Int)).toNat).length)).length)) ((F82 n (a0.1, a0.2) ((List.set ((a1.take (if (63 : Int) < (a1.length : Int) then (63 : Int) else (a1.length : Int)).toNat) ++ ((0 : Int) :: (0 : Int) :: (0 : Int) :: (0 : Int) :: (0 : Int) :: (0 : Int) :: (0 : Int) :: (0 : Int) :: (0 : Int) :: (0 : Int) :: (0 : Int) :: (0 : Int) :: (0 : Int) :: (0 : Int) :: (0 : Int) :: (0 : Int) :: (0 : Int) :: (0 : Int) :: (0 : Int) :: (0 : Int) :: (0 : Int) :: (0 : Int) :: (0 : Int) :: (0 : Int) :: (0 : Int) :: (0 : Int) :: (0 : Int) :: (0 : Int) :: (0 : Int) :: (0 : Int) :: (0 : Int) :: (0 : Int) :: (0 : Int) :: (0 : Int) :: (0 : Int) :: (0 : Int) :: (0 : Int) :: (0 : Int) :: (0 : Int) :: (0 : Int) :: (0 : Int) :: (0 : Int) :: (0 : Int) :: (0 : Int) :: (0 : Int) :: (0 : Int) :: (0 : Int) :: (0 : Int) :: (0 : Int) :: (0 : Int) :: (0 : Int) :: (0 : Int) :: (0 : Int) :: (0 : Int) :: (0 : Int) :: (0 : Int) :: (0 : Int) :: (0 : Int) :: (0 : Int) :: (0 : Int) :: (0 : Int) :: (0 : Int) :: (0 : Int) :: (0 : Int) :: ([] : List Int)).drop ((a1.take (if (63 : Int) < (a1.length : Int) then (63 : Int) else (a1.length : Int)).toNat).length)) (((a1.take (if (63 : Int) < (a1.length : Int) then (63 : Int) else (a1.length : Int)).toNat).length : Int).toNat) (128 : Int)).take 64)).bind fun v10 => grd (((a1.take (if (63 : Int) < (a1.length : Int) then (63 : Int) else (a1.length : Int)).toNat).length + (((0 : Int) :: (0 : Int) :: (0 : Int) :: (0 : Int) :: (0 : Int) :: (0 : Int) :: (0 : Int) :: (0 : Int) :: (0 : Int) :: (0 : Int) :: (0 : Int) :: (0 : Int) :: (0 : Int) :: (0 : Int) :: (0 : Int) :: (0 : Int) :: (0 : Int) :: (0 : Int) :: (0 : Int) :: (0 : Int) :: (0 : Int) :: (0 : Int) :: (0 : Int) :: (0 : Int) :: (0 : Int) :: (0 : Int) :: (0 : Int) :: (0 : Int) :: (0 : Int) :: (0 : Int) :: (0 : Int) :: (0 : Int) :: (0 : Int) :: (0 : Int) :: (0 : Int) :: (0 : Int) :: (0 : Int) :: (0 : Int) :: (0 : Int) :: (0 : Int) :: (0 : Int) :: (0 : Int) :: (0 : Int) :: (0 : Int) :: (0 : Int) :: (0 : Int) :: (0 : Int) :: (0 : Int) :: (0 : Int) :: (0 : Int) :: (0 : Int) :: (0 : Int) :: (0 : Int) :: (0 : Int) :: (0 : Int) :: (0 : Int) :: (0 : Int) :: (0 : Int) :: (0 : Int) :: (0 : Int) :: (0 : Int) :: (0 : Int) :: (0 : Int) :: (0 : Int) :: ([] : List Int)).drop ((a1.take (if (63 : Int) < (a1.length : Int) then (63 : Int) else (a1.length : Int)).toNat).length)).length) = 64) (F83_J1 n a0 a1 (v10.1.getD 0 default) (v10.1.getD 1 default) (v10.1.getD 2 default) (v10.1.getD 3 default) v10.2 ((0 : Int) :: (0 : Int) :: (0 : Int) :: (0 : Int) :: (0 : Int) :: (0 : Int) :: (0 : Int) :: (0 : Int) :: (0 : Int) :: (0 : Int) :: (0 : Int) :: (0 : Int) :: (0 : Int) :: (0 : Int) :: (0 : Int) :: (0 : Int) :: (0 : Int) :: (0 : Int) :: (0 : Int) :: (0 : Int) :: (0 : Int) :: (0 : Int) :: (0 : Int) :: (0 : Int) :: (0 : Int) :: (0 : Int) :: (0 : Int) :: (0 : Int) :: (0 : Int) :: (0 : Int) :: (0 : Int) :: (0 : Int) :: (0 : Int) :: (0 : Int) :: (0 : Int) :: (0 : Int) :: (0 : Int) :: (0 : Int) :: (0 : Int) :: (0 : Int) :: (0 : Int) :: (0 : Int) :: (0 : Int) :: (0 : Int) :: (0 : Int) :: (0 : Int) :: (0 : Int) :: (0 : Int) :: (0 : Int) :: (0 : Int) :: (0 : Int) :: (0 : Int) :: (0 : Int) :: (0 : Int) :: (0 : Int) :: (0 : Int) :: (0 : Int) :: (0 : Int) :: (0 : Int) :: (0 : Int) :: (0 : Int) :: (0 : Int) :: (0 : Int) :: (0 : Int) :: ([] : List Int))))) (F83_J1 n a0 a1 (a0.1.getD 0 default) (a0.1.getD 1 default) (a0.1.getD 2 default) (a0.1.getD 3 default) a0.2 (List.set ((a1.take (if (63 : Int) < (a1.length : Int) then (63 : Int) else (a1.length : Int)).toNat) ++ ((0 : Int) :: (0 : Int) :: (0 : Int) :: (0 : Int) :: (0 : Int) :: (0 : Int) :: (0 : Int) :: (0 : Int) :: (0 : Int) :: (0 : Int) :: (0 : Int) :: (0 : Int) :: (0 : Int) :: (0 : Int) :: (0 : Int) :: (0 : Int) :: (0 : Int) :: (0 : Int) :: (0 : Int) :: (0 : Int) :: (0 : Int) :: (0 : Int) :: (0 : Int) :: (0 : Int) :: (0 : Int) :: (0 : Int) :: (0 : Int) :: (0 : Int) :: (0 : Int) :: (0 : Int) :: (0 : Int) :: (0 : Int) :: (0 : Int) :: (0 : Int) :: (0 : Int) :: (0 : Int) :: (0 : Int) :: (0 : Int) :: (0 : Int) :: (0 : Int) :: (0 : Int) :: (0 : Int) :: (0 : Int) :: (0 : Int) :: (0 : Int) :: (0 : Int) :: (0 : Int) :: (0 : Int) :: (0 : Int) :: (0 : Int) :: (0 : Int) :: (0 : Int) :: (0 : Int) :: (0 : Int) :: (0 : Int) :: (0 : Int) :: (0 : Int) :: (0 : Int) :: (0 : Int) :: (0 : Int) :: (0 : Int) :: (0 : Int) :: (0 : Int) :: (0 : Int) :: ([] : List Int)).drop ((a1.take (if (63 : Int) < (a1.length : Int) then (63 : Int) else (a1.length : Int)).toNat).length)) (((a1.take (if (63 : Int) < (a1.length : Int) then (63 : Int) else (a1.length : Int)).toNat).length : Int).toNat) (128 : Int)))))))
set_option maxHeartbeats 4000000 in
theorem F83_ok : ∀ (n : Nat) (a0 : (List (Int)) × (Int)) (a1 : List (Int)) (r : List (Int)), F83 n a0 a1 = some r → FnC Try.prog 83 [.agg [.imm (.int .u32 (a0.1.getD 0 default)), .imm (.int .u32 (a0.1.getD 1 default)), .imm (.int .u32 (a0.1.getD 2 default)), .imm (.int .u32 (a0.1.getD 3 default)), .imm (.int .u64 a0.2)], .sl 1 false (List.map byteT a1)] (.agg (List.map byteT r))
 | n, a0, a1, r, h => by
  unfold F83 at h
  refine FnC.goX mixed Try.func83 (by kernel_rfl) rfl ?_
  simp only [Try.ntmps83, List.length_cons, List.length_nil, List.replicate, List.cons_append, List.nil_append, Nat.reduceAdd, Nat.reduceSub]
  refine runX_seq ?_
  refine runX_regionC fun C hC => ?_
  try simp -implicitDefEqProofs (maxSteps := 4000000) (disch := first | omega | decide | (simp only [go_sem]; omega)) only [go_sem, ↓reduceIte]
  repeat (with_reducible refine And.intro (by first | assumption | omega | (simp; done) | (simp; omega)) ?_)
  refine toEnd hC ?_
  refine endX_seq ?_
  refine runX_seq ?_
  refine runX_regionC fun C hC => ?_
  obtain ⟨g1, h⟩ := grd_some h
  try simp -implicitDefEqProofs (maxSteps := 4000000) (disch := first | omega | decide | (simp only [go_sem]; omega)) only [go_sem, ↓reduceIte]
  repeat (with_reducible refine And.intro (by first | assumption | omega | (simp; done) | (simp; omega)) ?_)
  refine toEnd hC ?_
  refine endX_seq ?_
  refine runX_seq ?_
  refine runX_regionC fun C hC => ?_
  try simp -implicitDefEqProofs (maxSteps := 4000000) (disch := first | omega | decide | (simp only [go_sem]; omega)) only [go_sem, ↓reduceIte]
  repeat (with_reducible refine And.intro (by first | assumption | omega | (simp; done) | (simp; omega)) ?_)
  refine toEnd hC ?_
  refine endX_seq ?_
  refine runX_seq ?_
  refine runX_regionC fun C hC => ?_
  try simp -implicitDefEqProofs (maxSteps := 4000000) (disch := first | omega | decide | (simp only [go_sem]; omega)) only [go_sem, ↓reduceIte]
  repeat (with_reducible refine And.intro (by first | assumption | omega | (simp; done) | (simp; omega)) ?_)
  refine toEnd hC ?_
  refine endX_seq ?_
  refine runX_seq ?_
  refine runX_regionC fun C hC => ?_
  obtain ⟨g2, h⟩ := grd_some h
  have e3 : patchT (.imm (.int .u8 (0 : Int)) :: .imm (.int .u8 (0 : Int)) :: .imm (.int .u8 (0 : Int)) :: .imm (.int .u8 (0 : Int)) :: .imm (.int .u8 (0 : Int)) :: .imm (.int .u8 (0 : Int)) :: .imm (.int .u8 (0 : Int)) :: .imm (.int .u8 (0 : Int)) :: .imm (.int .u8 (0 : Int)) :: .imm (.int .u8 (0 : Int)) :: .imm (.int .u8 (0 : Int)) :: .imm (.int .u8 (0 : Int)) :: .imm (.int .u8 (0 : Int)) :: .imm (.int .u8 (0 : Int)) :: .imm (.int .u8 (0 : Int)) :: .imm (.int .u8 (0 : Int)) :: .imm (.int .u8 (0 : Int)) :: .imm (.int .u8 (0 : Int)) :: .imm (.int .u8 (0 : Int)) :: .imm (.int .u8 (0 : Int)) :: .imm (.int .u8 (0 : Int)) :: .imm (.int .u8 (0 : Int)) :: .imm (.int .u8 (0 : Int)) :: .imm (.int .u8 (0 : Int)) :: .imm (.int .u8 (0 : Int)) :: .imm (.int .u8 (0 : Int)) :: .imm (.int .u8 (0 : Int)) :: .imm (.int .u8 (0 : Int)) :: .imm (.int .u8 (0 : Int)) :: .imm (.int .u8 (0 : Int)) :: .imm (.int .u8 (0 : Int)) :: .imm (.int .u8 (0 : Int)) :: .imm (.int .u8 (0 : Int)) :: .imm (.int .u8 (0 : Int)) :: .imm (.int .u8 (0 : Int)) :: .imm (.int .u8 (0 : Int)) :: .imm (.int .u8 (0 : Int)) :: .imm (.int .u8 (0 : Int)) :: .imm (.int .u8 (0 : Int)) :: .imm (.int .u8 (0 : Int)) :: .imm (.int .u8 (0 : Int)) :: .imm (.int .u8 (0 : Int)) :: .imm (.int .u8 (0 : Int)) :: .imm (.int .u8 (0 : Int)) :: .imm (.int .u8 (0 : Int)) :: .imm (.int .u8 (0 : Int)) :: .imm (.int .u8 (0 : Int)) :: .imm (.int .u8 (0 : Int)) :: .imm (.int .u8 (0 : Int)) :: .imm (.int .u8 (0 : Int)) :: .imm (.int .u8 (0 : Int)) :: .imm (.int .u8 (0 : Int)) :: .imm (.int .u8 (0 : Int)) :: .imm (.int .u8 (0 : Int)) :: .imm (.int .u8 (0 : Int)) :: .imm (.int .u8 (0 : Int)) :: .imm (.int .u8 (0 : Int)) :: .imm (.int .u8 (0 : Int)) :: .imm (.int .u8 (0 : Int)) :: .imm (.int .u8 (0 : Int)) :: .imm (.int .u8 (0 : Int)) :: .imm (.int .u8 (0 : Int)) :: .imm (.int .u8 (0 : Int)) :: .imm (.int .u8 (0 : Int)) :: ([] : List T)) 0 (List.map byteT (a1.take (if (63 : Int) < (a1.length : Int) then (63 : Int) else (a1.length : Int)).toNat)) = List.map byteT ((a1.take (if (63 : Int) < (a1.length : Int) then (63 : Int) else (a1.length : Int)).toNat) ++ ((0 : Int) :: (0 : Int) :: (0 : Int) :: (0 : Int) :: (0 : Int) :: (0 : Int) :: (0 : Int) :: (0 : Int) :: (0 : Int) :: (0 : Int) :: (0 : Int) :: (0 : Int) :: (0 : Int) :: (0 : Int) :: (0 : Int) :: (0 : Int) :: (0 : Int) :: (0 : Int) :: (0 : Int) :: (0 : Int) :: (0 : Int) :: (0 : Int) :: (0 : Int) :: (0 : Int) :: (0 : Int) :: (0 : Int) :: (0 : Int) :: (0 : Int) :: (0 : Int) :: (0 : Int) :: (0 : Int) :: (0 : Int) :: (0 : Int) :: (0 : Int) :: (0 : Int) :: (0 : Int) :: (0 : Int) :: (0 : Int) :: (0 : Int) :: (0 : Int) :: (0 : Int) :: (0 : Int) :: (0 : Int) :: (0 : Int) :: (0 : Int) :: (0 : Int) :: (0 : Int) :: (0 : Int) :: (0 : Int) :: (0 : Int) :: (0 : Int) :: (0 : Int) :: (0 : Int) :: (0 : Int) :: (0 : Int) :: (0 : Int) :: (0 : Int) :: (0 : Int) :: (0 : Int) :: (0 : Int) :: (0 : Int) :: (0 : Int) :: (0 : Int) :: (0 : Int) :: ([] : List Int)).drop ((a1.take (if (63 : Int) < (a1.length : Int) then (63 : Int) else (a1.length : Int)).toNat).length)) := copy_map byteT ((0 : Int) :: (0 : Int) :: (0 : Int) :: (0 : Int) :: (0 : Int) :: (0 : Int) :: (0 : Int) :: (0 : Int) :: (0 : Int) :: (0 : Int) :: (0 : Int) :: (0 : Int) :: (0 : Int) :: (0 : Int) :: (0 : Int) :: (0 : Int) :: (0 : Int) :: (0 : Int) :: (0 : Int) :: (0 : Int) :: (0 : Int) :: (0 : Int) :: (0 : Int) :: (0 : Int) :: (0 : Int) :: (0 : Int) :: (0 : Int) :: (0 : Int) :: (0 : Int) :: (0 : Int) :: (0 : Int) :: (0 : Int) :: (0 : Int) :: (0 : Int) :: (0 : Int) :: (0 : Int) :: (0 : Int) :: (0 : Int) :: (0 : Int) :: (0 : Int) :: (0 : Int) :: (0 : Int) :: (0 : Int) :: (0 : Int) :: (0 : Int) :: (0 : Int) :: (0 : Int) :: (0 : Int) :: (0 : Int) :: (0 : Int) :: (0 : Int) :: (0 : Int) :: (0 : Int) :: (0 : Int) :: (0 : Int) :: (0 : Int) :: (0 : Int) :: (0 : Int) :: (0 : Int) :: (0 : Int) :: (0 : Int) :: (0 : Int) :: (0 : Int) :: (0 : Int) :: ([] : List Int)) (a1.take (if (63 : Int) < (a1.length : Int) then (63 : Int) else (a1.length : Int)).toNat)
  have e4 : List.drop ((a1.take (if (63 : Int) < (a1.length : Int) then (63 : Int) else (a1.length : Int)).toNat).length) ((.imm (.int .u8 (0 : Int)) :: .imm (.int .u8 (0 : Int)) :: .imm (.int .u8 (0 : Int)) :: .imm (.int .u8 (0 : Int)) :: .imm (.int .u8 (0 : Int)) :: .imm (.int .u8 (0 : Int)) :: .imm (.int .u8 (0 : Int)) :: .imm (.int .u8 (0 : Int)) :: .imm (.int .u8 (0 : Int)) :: .imm (.int .u8 (0 : Int)) :: .imm (.int .u8 (0 : Int)) :: .imm (.int .u8 (0 : Int)) :: .imm (.int .u8 (0 : Int)) :: .imm (.int .u8 (0 : Int)) :: .imm (.int .u8 (0 : Int)) :: .imm (.int .u8 (0 : Int)) :: .imm (.int .u8 (0 : Int)) :: .imm (.int .u8 (0 : Int)) :: .imm (.int .u8 (0 : Int)) :: .imm (.int .u8 (0 : Int)) :: .imm (.int .u8 (0 : Int)) :: .imm (.int .u8 (0 : Int)) :: .imm (.int .u8 (0 : Int)) :: .imm (.int .u8 (0 : Int)) :: .imm (.int .u8 (0 : Int)) :: .imm (.int .u8 (0 : Int)) :: .imm (.int .u8 (0 : Int)) :: .imm (.int .u8 (0 : Int)) :: .imm (.int .u8 (0 : Int)) :: .imm (.int .u8 (0 : Int)) :: .imm (.int .u8 (0 : Int)) :: .imm (.int .u8 (0 : Int)) :: .imm (.int .u8 (0 : Int)) :: .imm (.int .u8 (0 : Int)) :: .imm (.int .u8 (0 : Int)) :: .imm (.int .u8 (0 : Int)) :: .imm (.int .u8 (0 : Int)) :: .imm (.int .u8 (0 : Int)) :: .imm (.int .u8 (0 : Int)) :: .imm (.int .u8 (0 : Int)) :: .imm (.int .u8 (0 : Int)) :: .imm (.int .u8 (0 : Int)) :: .imm (.int .u8 (0 : Int)) :: .imm (.int .u8 (0 : Int)) :: .imm (.int .u8 (0 : Int)) :: .imm (.int .u8 (0 : Int)) :: .imm (.int .u8 (0 : Int)) :: .imm (.int .u8 (0 : Int)) :: .imm (.int .u8 (0 : Int)) :: .imm (.int .u8 (0 : Int)) :: .imm (.int .u8 (0 : Int)) :: .imm (.int .u8 (0 : Int)) :: .imm (.int .u8 (0 : Int)) :: .imm (.int .u8 (0 : Int)) :: .imm (.int .u8 (0 : Int)) :: .imm (.int .u8 (0 : Int)) :: .imm (.int .u8 (0 : Int)) :: .imm (.int .u8 (0 : Int)) :: .imm (.int .u8 (0 : Int)) :: .imm (.int .u8 (0 : Int)) :: .imm (.int .u8 (0 : Int)) :: .imm (.int .u8 (0 : Int)) :: .imm (.int .u8 (0 : Int)) :: .imm (.int .u8 (0 : Int)) :: ([] : List T)) : List T) = List.map byteT (((0 : Int) :: (0 : Int) :: (0 : Int) :: (0 : Int) :: (0 : Int) :: (0 : Int) :: (0 : Int) :: (0 : Int) :: (0 : Int) :: (0 : Int) :: (0 : Int) :: (0 : Int) :: (0 : Int) :: (0 : Int) :: (0 : Int) :: (0 : Int) :: (0 : Int) :: (0 : Int) :: (0 : Int) :: (0 : Int) :: (0 : Int) :: (0 : Int) :: (0 : Int) :: (0 : Int) :: (0 : Int) :: (0 : Int) :: (0 : Int) :: (0 : Int) :: (0 : Int) :: (0 : Int) :: (0 : Int) :: (0 : Int) :: (0 : Int) :: (0 : Int) :: (0 : Int) :: (0 : Int) :: (0 : Int) :: (0 : Int) :: (0 : Int) :: (0 : Int) :: (0 : Int) :: (0 : Int) :: (0 : Int) :: (0 : Int) :: (0 : Int) :: (0 : Int) :: (0 : Int) :: (0 : Int) :: (0 : Int) :: (0 : Int) :: (0 : Int) :: (0 : Int) :: (0 : Int) :: (0 : Int) :: (0 : Int) :: (0 : Int) :: (0 : Int) :: (0 : Int) :: (0 : Int) :: (0 : Int) :: (0 : Int) :: (0 : Int) :: (0 : Int) :: (0 : Int) :: ([] : List Int)).drop ((a1.take (if (63 : Int) < (a1.length : Int) then (63 : Int) else (a1.length : Int)).toNat).length)) := drop_lit byteT ((0 : Int) :: (0 : Int) :: (0 : Int) :: (0 : Int) :: (0 : Int) :: (0 : Int) :: (0 : Int) :: (0 : Int) :: (0 : Int) :: (0 : Int) :: (0 : Int) :: (0 : Int) :: (0 : Int) :: (0 : Int) :: (0 : Int) :: (0 : Int) :: (0 : Int) :: (0 : Int) :: (0 : Int) :: (0 : Int) :: (0 : Int) :: (0 : Int) :: (0 : Int) :: (0 : Int) :: (0 : Int) :: (0 : Int) :: (0 : Int) :: (0 : Int) :: (0 : Int) :: (0 : Int) :: (0 : Int) :: (0 : Int) :: (0 : Int) :: (0 : Int) :: (0 : Int) :: (0 : Int) :: (0 : Int) :: (0 : Int) :: (0 : Int) :: (0 : Int) :: (0 : Int) :: (0 : Int) :: (0 : Int) :: (0 : Int) :: (0 : Int) :: (0 : Int) :: (0 : Int) :: (0 : Int) :: (0 : Int) :: (0 : Int) :: (0 : Int) :: (0 : Int) :: (0 : Int) :: (0 : Int) :: (0 : Int) :: (0 : Int) :: (0 : Int) :: (0 : Int) :: (0 : Int) :: (0 : Int) :: (0 : Int) :: (0 : Int) :: (0 : Int) :: (0 : Int) :: ([] : List Int)) _ _ rfl
  obtain ⟨g5, h⟩ := grd_some h
  obtain ⟨g6, h⟩ := grd_some h
  have e7 : patchT (List.map byteT ((a1.take (if (63 : Int) < (a1.length : Int) then (63 : Int) else (a1.length : Int)).toNat) ++ ((0 : Int) :: (0 : Int) :: (0 : Int) :: (0 : Int) :: (0 : Int) :: (0 : Int) :: (0 : Int) :: (0 : Int) :: (0 : Int) :: (0 : Int) :: (0 : Int) :: (0 : Int) :: (0 : Int) :: (0 : Int) :: (0 : Int) :: (0 : Int) :: (0 : Int) :: (0 : Int) :: (0 : Int) :: (0 : Int) :: (0 : Int) :: (0 : Int) :: (0 : Int) :: (0 : Int) :: (0 : Int) :: (0 : Int) :: (0 : Int) :: (0 : Int) :: (0 : Int) :: (0 : Int) :: (0 : Int) :: (0 : Int) :: (0 : Int) :: (0 : Int) :: (0 : Int) :: (0 : Int) :: (0 : Int) :: (0 : Int) :: (0 : Int) :: (0 : Int) :: (0 : Int) :: (0 : Int) :: (0 : Int) :: (0 : Int) :: (0 : Int) :: (0 : Int) :: (0 : Int) :: (0 : Int) :: (0 : Int) :: (0 : Int) :: (0 : Int) :: (0 : Int) :: (0 : Int) :: (0 : Int) :: (0 : Int) :: (0 : Int) :: (0 : Int) :: (0 : Int) :: (0 : Int) :: (0 : Int) :: (0 : Int) :: (0 : Int) :: (0 : Int) :: (0 : Int) :: ([] : List Int)).drop ((a1.take (if (63 : Int) < (a1.length : Int) then (63 : Int) else (a1.length : Int)).toNat).length))) (((a1.take (if (63 : Int) < (a1.length : Int) then (63 : Int) else (a1.length : Int)).toNat).length : Int).toNat) ([.imm (.int .u8 (128 : Int))] : List T) = List.map byteT (List.set ((a1.take (if (63 : Int) < (a1.length : Int) then (63 : Int) else (a1.length : Int)).toNat) ++ ((0 : Int) :: (0 : Int) :: (0 : Int) :: (0 : Int) :: (0 : Int) :: (0 : Int) :: (0 : Int) :: (0 : Int) :: (0 : Int) :: (0 : Int) :: (0 : Int) :: (0 : Int) :: (0 : Int) :: (0 : Int) :: (0 : Int) :: (0 : Int) :: (0 : Int) :: (0 : Int) :: (0 : Int) :: (0 : Int) :: (0 : Int) :: (0 : Int) :: (0 : Int) :: (0 : Int) :: (0 : Int) :: (0 : Int) :: (0 : Int) :: (0 : Int) :: (0 : Int) :: (0 : Int) :: (0 : Int) :: (0 : Int) :: (0 : Int) :: (0 : Int) :: (0 : Int) :: (0 : Int) :: (0 : Int) :: (0 : Int) :: (0 : Int) :: (0 : Int) :: (0 : Int) :: (0 : Int) :: (0 : Int) :: (0 : Int) :: (0 : Int) :: (0 : Int) :: (0 : Int) :: (0 : Int) :: (0 : Int) :: (0 : Int) :: (0 : Int) :: (0 : Int) :: (0 : Int) :: (0 : Int) :: (0 : Int) :: (0 : Int) :: (0 : Int) :: (0 : Int) :: (0 : Int) :: (0 : Int) :: (0 : Int) :: (0 : Int) :: (0 : Int) :: (0 : Int) :: ([] : List Int)).drop ((a1.take (if (63 : Int) < (a1.length : Int) then (63 : Int) else (a1.length : Int)).toNat).length)) (((a1.take (if (63 : Int) < (a1.length : Int) then (63 : Int) else (a1.length : Int)).toNat).length : Int).toNat) (128 : Int)) := patch_map byteT (l := ((a1.take (if (63 : Int) < (a1.length : Int) then (63 : Int) else (a1.length : Int)).toNat) ++ ((0 : Int) :: (0 : Int) :: (0 : Int) :: (0 : Int) :: (0 : Int) :: (0 : Int) :: (0 : Int) :: (0 : Int) :: (0 : Int) :: (0 : Int) :: (0 : Int) :: (0 : Int) :: (0 : Int) :: (0 : Int) :: (0 : Int) :: (0 : Int) :: (0 : Int) :: (0 : Int) :: (0 : Int) :: (0 : Int) :: (0 : Int) :: (0 : Int) :: (0 : Int) :: (0 : Int) :: (0 : Int) :: (0 : Int) :: (0 : Int) :: (0 : Int) :: (0 : Int) :: (0 : Int) :: (0 : Int) :: (0 : Int) :: (0 : Int) :: (0 : Int) :: (0 : Int) :: (0 : Int) :: (0 : Int) :: (0 : Int) :: (0 : Int) :: (0 : Int) :: (0 : Int) :: (0 : Int) :: (0 : Int) :: (0 : Int) :: (0 : Int) :: (0 : Int) :: (0 : Int) :: (0 : Int) :: (0 : Int) :: (0 : Int) :: (0 : Int) :: (0 : Int) :: (0 : Int) :: (0 : Int) :: (0 : Int) :: (0 : Int) :: (0 : Int) :: (0 : Int) :: (0 : Int) :: (0 : Int) :: (0 : Int) :: (0 : Int) :: (0 : Int) :: (0 : Int) :: ([] : List Int)).drop ((a1.take (if (63 : Int) < (a1.length : Int) then (63 : Int) else (a1.length : Int)).toNat).length))) (i := ((a1.take (if (63 : Int) < (a1.length : Int) then (63 : Int) else (a1.length : Int)).toNat).length : Int).toNat) (v := (128 : Int)) (by first | omega | (simp only [List.length_cons, List.length_nil]; omega) | (simp only [List.length_append]; omega) | (simp only [List.length_append, List.length_drop, List.length_cons, List.length_nil] at *; omega))
  try simp -implicitDefEqProofs (maxSteps := 4000000) (disch := first | omega | decide | (simp only [go_sem]; omega)) only [go_sem, ↓reduceIte, e3, e4, e7]
  repeat (with_reducible refine And.intro (by first | assumption | omega | (simp; done) | (simp; omega)) ?_)
  refine toEnd hC ?_
  refine endX_seq ?_
  refine runX_meet [2, 4, 5, 6] (fun S => ∃ (x14 : Int) (x15 : Int) (x16 : Int) (x17 : Int) (x18 : Int) (x19 : List (Int)), S = F83_S1 a0 a1 x14 x15 x16 x17 x18 x19 ∧ F83_J1 n a0 a1 x14 x15 x16 x17 x18 x19 = some r) ?_ ?_
  ·refine runX_seq ?_
   refine runX_regionC fun C hC => ?_
   try simp -implicitDefEqProofs (maxSteps := 4000000) (disch := first | omega | decide | (simp only [go_sem]; omega)) only [go_sem, ↓reduceIte]
   repeat (with_reducible refine And.intro (by first | assumption | omega | (simp; done) | (simp; omega)) ?_)
   refine toEnd hC ?_
   refine endX_seq ?_
   rcases iteB_some h with ⟨c8, h⟩ | ⟨c8, h⟩
   ·refine runX_condT rfl c8 ?_
    refine runX_seq ?_
    refine runX_regionC fun C hC => ?_
    obtain ⟨g9, h⟩ := grd_some h
    obtain ⟨v10, h10, h⟩ := bnd_some h
    try simp -implicitDefEqProofs (maxSteps := 4000000) (disch := first | omega | decide | (simp only [go_sem]; omega)) only [go_sem, ↓reduceIte]
    repeat (with_reducible refine And.intro (by first | assumption | omega | (simp; done) | (simp; omega)) ?_)
    refine callG_X (by first | rfl | (simp only [go_sem]; done) | (simp only [closedL, closedT, Bool.and_true]; exact closedL_map _ (fun _ => by first | rfl | (simp only [go_sem]; done)) _)) (F82_ok n (a0.1, a0.2) ((List.set ((a1.take (if (63 : Int) < (a1.length : Int) then (63 : Int) else (a1.length : Int)).toNat) ++ ((0 : Int) :: (0 : Int) :: (0 : Int) :: (0 : Int) :: (0 : Int) :: (0 : Int) :: (0 : Int) :: (0 : Int) :: (0 : Int) :: (0 : Int) :: (0 : Int) :: (0 : Int) :: (0 : Int) :: (0 : Int) :: (0 : Int) :: (0 : Int) :: (0 : Int) :: (0 : Int) :: (0 : Int) :: (0 : Int) :: (0 : Int) :: (0 : Int) :: (0 : Int) :: (0 : Int) :: (0 : Int) :: (0 : Int) :: (0 : Int) :: (0 : Int) :: (0 : Int) :: (0 : Int) :: (0 : Int) :: (0 : Int) :: (0 : Int) :: (0 : Int) :: (0 : Int) :: (0 : Int) :: (0 : Int) :: (0 : Int) :: (0 : Int) :: (0 : Int) :: (0 : Int) :: (0 : Int) :: (0 : Int) :: (0 : Int) :: (0 : Int) :: (0 : Int) :: (0 : Int) :: (0 : Int) :: (0 : Int) :: (0 : Int) :: (0 : Int) :: (0 : Int) :: (0 : Int) :: (0 : Int) :: (0 : Int) :: (0 : Int) :: (0 : Int) :: (0 : Int) :: (0 : Int) :: (0 : Int) :: (0 : Int) :: (0 : Int) :: (0 : Int) :: (0 : Int) :: ([] : List Int)).drop ((a1.take (if (63 : Int) < (a1.length : Int) then (63 : Int) else (a1.length : Int)).toNat).length)) (((a1.take (if (63 : Int) < (a1.length : Int) then (63 : Int) else (a1.length : Int)).toNat).length : Int).toNat) (128 : Int)).take 64) _ h10) (by repeat (first | exact leL_refl _ | refine leL_cons (by first | exact leT_refl _ | exact leT_virt | exact leT_junk _ | exact leT_sl | exact leT_sln | exact leT_nil | (refine leT_agg (by repeat (first | exact leL_refl _ | refine leL_cons (by first | exact leT_refl _ | exact leT_sl | exact leT_sln | exact leT_nil) ?_)))) ?_)) ?_
    try simp -implicitDefEqProofs (maxSteps := 4000000) (disch := first | omega | decide | (simp only [go_sem]; omega)) only [go_sem, ↓reduceIte]
    repeat (with_reducible refine And.intro (by first | assumption | omega | (simp; done) | (simp; omega)) ?_)
    refine toEnd hC ?_
    refine endX_seq ?_
    refine runX_regionC fun C hC => ?_
    simp only [runK_region, runK_draw, liteL, liteL2, dstsL, gL, List.getD_cons_zero, List.getD_cons_succ]
    try simp -implicitDefEqProofs (maxSteps := 4000000) (disch := first | omega | decide | (simp only [go_sem]; omega)) only [go_sem, ↓reduceIte]
    repeat (with_reducible refine And.intro (by first | assumption | omega | (simp; done) | (simp; omega)) ?_)
    refine bldG_of [.imm (.int .u8 (0 : Int)), .imm (.int .u8 (0 : Int)), .imm (.int .u8 (0 : Int)), .imm (.int .u8 (0 : Int)), .imm (.int .u8 (0 : Int)), .imm (.int .u8 (0 : Int)), .imm (.int .u8 (0 : Int)), .imm (.int .u8 (0 : Int)), .imm (.int .u8 (0 : Int)), .imm (.int .u8 (0 : Int)), .imm (.int .u8 (0 : Int)), .imm (.int .u8 (0 : Int)), .imm (.int .u8 (0 : Int)), .imm (.int .u8 (0 : Int)), .imm (.int .u8 (0 : Int)), .imm (.int .u8 (0 : Int)), .imm (.int .u8 (0 : Int)), .imm (.int .u8 (0 : Int)), .imm (.int .u8 (0 : Int)), .imm (.int .u8 (0 : Int)), .imm (.int .u8 (0 : Int)), .imm (.int .u8 (0 : Int)), .imm (.int .u8 (0 : Int)), .imm (.int .u8 (0 : Int)), .imm (.int .u8 (0 : Int)), .imm (.int .u8 (0 : Int)), .imm (.int .u8 (0 : Int)), .imm (.int .u8 (0 : Int)), .imm (.int .u8 (0 : Int)), .imm (.int .u8 (0 : Int)), .imm (.int .u8 (0 : Int)), .imm (.int .u8 (0 : Int)), .imm (.int .u8 (0 : Int)), .imm (.int .u8 (0 : Int)), .imm (.int .u8 (0 : Int)), .imm (.int .u8 (0 : Int)), .imm (.int .u8 (0 : Int)), .imm (.int .u8 (0 : Int)), .imm (.int .u8 (0 : Int)), .imm (.int .u8 (0 : Int)), .imm (.int .u8 (0 : Int)), .imm (.int .u8 (0 : Int)), .imm (.int .u8 (0 : Int)), .imm (.int .u8 (0 : Int)), .imm (.int .u8 (0 : Int)), .imm (.int .u8 (0 : Int)), .imm (.int .u8 (0 : Int)), .imm (.int .u8 (0 : Int)), .imm (.int .u8 (0 : Int)), .imm (.int .u8 (0 : Int)), .imm (.int .u8 (0 : Int)), .imm (.int .u8 (0 : Int)), .imm (.int .u8 (0 : Int)), .imm (.int .u8 (0 : Int)), .imm (.int .u8 (0 : Int)), .imm (.int .u8 (0 : Int)), .imm (.int .u8 (0 : Int)), .imm (.int .u8 (0 : Int)), .imm (.int .u8 (0 : Int)), .imm (.int .u8 (0 : Int)), .imm (.int .u8 (0 : Int)), .imm (.int .u8 (0 : Int)), .imm (.int .u8 (0 : Int)), .imm (.int .u8 (0 : Int))] (by kernel_rfl) ?_
    obtain ⟨g11, h⟩ := grd_some h
    have e12 : List.drop 64 (List.set ((a1.take (if (63 : Int) < (a1.length : Int) then (63 : Int) else (a1.length : Int)).toNat) ++ ((0 : Int) :: (0 : Int) :: (0 : Int) :: (0 : Int) :: (0 : Int) :: (0 : Int) :: (0 : Int) :: (0 : Int) :: (0 : Int) :: (0 : Int) :: (0 : Int) :: (0 : Int) :: (0 : Int) :: (0 : Int) :: (0 : Int) :: (0 : Int) :: (0 : Int) :: (0 : Int) :: (0 : Int) :: (0 : Int) :: (0 : Int) :: (0 : Int) :: (0 : Int) :: (0 : Int) :: (0 : Int) :: (0 : Int) :: (0 : Int) :: (0 : Int) :: (0 : Int) :: (0 : Int) :: (0 : Int) :: (0 : Int) :: (0 : Int) :: (0 : Int) :: (0 : Int) :: (0 : Int) :: (0 : Int) :: (0 : Int) :: (0 : Int) :: (0 : Int) :: (0 : Int) :: (0 : Int) :: (0 : Int) :: (0 : Int) :: (0 : Int) :: (0 : Int) :: (0 : Int) :: (0 : Int) :: (0 : Int) :: (0 : Int) :: (0 : Int) :: (0 : Int) :: (0 : Int) :: (0 : Int) :: (0 : Int) :: (0 : Int) :: (0 : Int) :: (0 : Int) :: (0 : Int) :: (0 : Int) :: (0 : Int) :: (0 : Int) :: (0 : Int) :: (0 : Int) :: ([] : List Int)).drop ((a1.take (if (63 : Int) < (a1.length : Int) then (63 : Int) else (a1.length : Int)).toNat).length)) (((a1.take (if (63 : Int) < (a1.length : Int) then (63 : Int) else (a1.length : Int)).toNat).length : Int).toNat) (128 : Int)) = [] := List.drop_of_length_le (by first | omega | (simp only [List.length_set, List.length_append]; omega) | (simp only [List.length_set, List.length_append, List.length_drop, List.length_cons, List.length_nil] at *; omega))
    have e13 : List.drop 64 (List.set ((a1.take (if (63 : Int) < (a1.length : Int) then (63 : Int) else (a1.length : Int)).toNat) ++ ((0 : Int) :: (0 : Int) :: (0 : Int) :: (0 : Int) :: (0 : Int) :: (0 : Int) :: (0 : Int) :: (0 : Int) :: (0 : Int) :: (0 : Int) :: (0 : Int) :: (0 : Int) :: (0 : Int) :: (0 : Int) :: (0 : Int) :: (0 : Int) :: (0 : Int) :: (0 : Int) :: (0 : Int) :: (0 : Int) :: (0 : Int) :: (0 : Int) :: (0 : Int) :: (0 : Int) :: (0 : Int) :: (0 : Int) :: (0 : Int) :: (0 : Int) :: (0 : Int) :: (0 : Int) :: (0 : Int) :: (0 : Int) :: (0 : Int) :: (0 : Int) :: (0 : Int) :: (0 : Int) :: (0 : Int) :: (0 : Int) :: (0 : Int) :: (0 : Int) :: (0 : Int) :: (0 : Int) :: (0 : Int) :: (0 : Int) :: (0 : Int) :: (0 : Int) :: (0 : Int) :: (0 : Int) :: (0 : Int) :: (0 : Int) :: (0 : Int) :: (0 : Int) :: (0 : Int) :: (0 : Int) :: (0 : Int) :: (0 : Int) :: (0 : Int) :: (0 : Int) :: (0 : Int) :: (0 : Int) :: (0 : Int) :: (0 : Int) :: (0 : Int) :: (0 : Int) :: ([] : List Int)).drop ((a1.take (if (63 : Int) < (a1.length : Int) then (63 : Int) else (a1.length : Int)).toNat).length)) (((a1.take (if (63 : Int) < (a1.length : Int) then (63 : Int) else (a1.length : Int)).toNat).length)) (128 : Int)) = [] := List.drop_of_length_le (by first | omega | (simp only [List.length_set, List.length_append]; omega) | (simp only [List.length_set, List.length_append, List.length_drop, List.length_cons, List.length_nil] at *; omega))
    try simp -implicitDefEqProofs (maxSteps := 4000000) (disch := first | omega | decide | (simp only [go_sem]; omega)) only [go_sem, ↓reduceIte, e12, e13]
    repeat (with_reducible refine And.intro (by first | assumption | omega | (simp; done) | (simp; omega)) ?_)
    refine toEnd hC ?_
    refine endX_q (meetQ_normal ⟨F83_S1 a0 a1 (v10.1.getD 0 default) (v10.1.getD 1 default) (v10.1.getD 2 default) (v10.1.getD 3 default) v10.2 ((0 : Int) :: (0 : Int) :: (0 : Int) :: (0 : Int) :: (0 : Int) :: (0 : Int) :: (0 : Int) :: (0 : Int) :: (0 : Int) :: (0 : Int) :: (0 : Int) :: (0 : Int) :: (0 : Int) :: (0 : Int) :: (0 : Int) :: (0 : Int) :: (0 : Int) :: (0 : Int) :: (0 : Int) :: (0 : Int) :: (0 : Int) :: (0 : Int) :: (0 : Int) :: (0 : Int) :: (0 : Int) :: (0 : Int) :: (0 : Int) :: (0 : Int) :: (0 : Int) :: (0 : Int) :: (0 : Int) :: (0 : Int) :: (0 : Int) :: (0 : Int) :: (0 : Int) :: (0 : Int) :: (0 : Int) :: (0 : Int) :: (0 : Int) :: (0 : Int) :: (0 : Int) :: (0 : Int) :: (0 : Int) :: (0 : Int) :: (0 : Int) :: (0 : Int) :: (0 : Int) :: (0 : Int) :: (0 : Int) :: (0 : Int) :: (0 : Int) :: (0 : Int) :: (0 : Int) :: (0 : Int) :: (0 : Int) :: (0 : Int) :: (0 : Int) :: (0 : Int) :: (0 : Int) :: (0 : Int) :: (0 : Int) :: (0 : Int) :: (0 : Int) :: (0 : Int) :: ([] : List Int)), ?_, (v10.1.getD 0 default), (v10.1.getD 1 default), (v10.1.getD 2 default), (v10.1.getD 3 default), v10.2, ((0 : Int) :: (0 : Int) :: (0 : Int) :: (0 : Int) :: (0 : Int) :: (0 : Int) :: (0 : Int) :: (0 : Int) :: (0 : Int) :: (0 : Int) :: (0 : Int) :: (0 : Int) :: (0 : Int) :: (0 : Int) :: (0 : Int) :: (0 : Int) :: (0 : Int) :: (0 : Int) :: (0 : Int) :: (0 : Int) :: (0 : Int) :: (0 : Int) :: (0 : Int) :: (0 : Int) :: (0 : Int) :: (0 : Int) :: (0 : Int) :: (0 : Int) :: (0 : Int) :: (0 : Int) :: (0 : Int) :: (0 : Int) :: (0 : Int) :: (0 : Int) :: (0 : Int) :: (0 : Int) :: (0 : Int) :: (0 : Int) :: (0 : Int) :: (0 : Int) :: (0 : Int) :: (0 : Int) :: (0 : Int) :: (0 : Int) :: (0 : Int) :: (0 : Int) :: (0 : Int) :: (0 : Int) :: (0 : Int) :: (0 : Int) :: (0 : Int) :: (0 : Int) :: (0 : Int) :: (0 : Int) :: (0 : Int) :: (0 : Int) :: (0 : Int) :: (0 : Int) :: (0 : Int) :: (0 : Int) :: (0 : Int) :: (0 : Int) :: (0 : Int) :: (0 : Int) :: ([] : List Int)), rfl, h⟩)
    simp only [F83_S1]
    (try simp -implicitDefEqProofs (maxSteps := 4000000) (disch := first | omega | decide | (simp only [go_sem]; omega)) only [go_sem, ↓reduceIte])
    first | exact leS_refl _ | (refine leS_le ?_ ?_ <;> first | exact leL_refl _ | exact leOs_refl _ | (simp only [List.append_assoc, List.cons_append, List.nil_append]; exact leOs_refl _) | (repeat (first | exact leL_refl _ | refine leL_cons (by first | exact leT_refl _ | exact leT_virt | exact leT_junk _ | exact leT_sl | exact leT_sln | exact leT_nil | (refine leT_agg (by repeat (first | exact leL_refl _ | refine leL_cons (by first | exact leT_refl _ | exact leT_sl | exact leT_sln | exact leT_nil) ?_)))) ?_)))
   ·refine runX_condF rfl c8 ?_
    refine runX_skip ?_
    refine endX_q (meetQ_normal ⟨F83_S1 a0 a1 (a0.1.getD 0 default) (a0.1.getD 1 default) (a0.1.getD 2 default) (a0.1.getD 3 default) a0.2 (List.set ((a1.take (if (63 : Int) < (a1.length : Int) then (63 : Int) else (a1.length : Int)).toNat) ++ ((0 : Int) :: (0 : Int) :: (0 : Int) :: (0 : Int) :: (0 : Int) :: (0 : Int) :: (0 : Int) :: (0 : Int) :: (0 : Int) :: (0 : Int) :: (0 : Int) :: (0 : Int) :: (0 : Int) :: (0 : Int) :: (0 : Int) :: (0 : Int) :: (0 : Int) :: (0 : Int) :: (0 : Int) :: (0 : Int) :: (0 : Int) :: (0 : Int) :: (0 : Int) :: (0 : Int) :: (0 : Int) :: (0 : Int) :: (0 : Int) :: (0 : Int) :: (0 : Int) :: (0 : Int) :: (0 : Int) :: (0 : Int) :: (0 : Int) :: (0 : Int) :: (0 : Int) :: (0 : Int) :: (0 : Int) :: (0 : Int) :: (0 : Int) :: (0 : Int) :: (0 : Int) :: (0 : Int) :: (0 : Int) :: (0 : Int) :: (0 : Int) :: (0 : Int) :: (0 : Int) :: (0 : Int) :: (0 : Int) :: (0 : Int) :: (0 : Int) :: (0 : Int) :: (0 : Int) :: (0 : Int) :: (0 : Int) :: (0 : Int) :: (0 : Int) :: (0 : Int) :: (0 : Int) :: (0 : Int) :: (0 : Int) :: (0 : Int) :: (0 : Int) :: (0 : Int) :: ([] : List Int)).drop ((a1.take (if (63 : Int) < (a1.length : Int) then (63 : Int) else (a1.length : Int)).toNat).length)) (((a1.take (if (63 : Int) < (a1.length : Int) then (63 : Int) else (a1.length : Int)).toNat).length : Int).toNat) (128 : Int)), ?_, (a0.1.getD 0 default), (a0.1.getD 1 default), (a0.1.getD 2 default), (a0.1.getD 3 default), a0.2, (List.set ((a1.take (if (63 : Int) < (a1.length : Int) then (63 : Int) else (a1.length : Int)).toNat) ++ ((0 : Int) :: (0 : Int) :: (0 : Int) :: (0 : Int) :: (0 : Int) :: (0 : Int) :: (0 : Int) :: (0 : Int) :: (0 : Int) :: (0 : Int) :: (0 : Int) :: (0 : Int) :: (0 : Int) :: (0 : Int) :: (0 : Int) :: (0 : Int) :: (0 : Int) :: (0 : Int) :: (0 : Int) :: (0 : Int) :: (0 : Int) :: (0 : Int) :: (0 : Int) :: (0 : Int) :: (0 : Int) :: (0 : Int) :: (0 : Int) :: (0 : Int) :: (0 : Int) :: (0 : Int) :: (0 : Int) :: (0 : Int) :: (0 : Int) :: (0 : Int) :: (0 : Int) :: (0 : Int) :: (0 : Int) :: (0 : Int) :: (0 : Int) :: (0 : Int) :: (0 : Int) :: (0 : Int) :: (0 : Int) :: (0 : Int) :: (0 : Int) :: (0 : Int) :: (0 : Int) :: (0 : Int) :: (0 : Int) :: (0 : Int) :: (0 : Int) :: (0 : Int) :: (0 : Int) :: (0 : Int) :: (0 : Int) :: (0 : Int) :: (0 : Int) :: (0 : Int) :: (0 : Int) :: (0 : Int) :: (0 : Int) :: (0 : Int) :: (0 : Int) :: (0 : Int) :: ([] : List Int)).drop ((a1.take (if (63 : Int) < (a1.length : Int) then (63 : Int) else (a1.length : Int)).toNat).length)) (((a1.take (if (63 : Int) < (a1.length : Int) then (63 : Int) else (a1.length : Int)).toNat).length : Int).toNat) (128 : Int)), rfl, h⟩)
    simp only [F83_S1]
    (try simp -implicitDefEqProofs (maxSteps := 4000000) (disch := first | omega | decide | (simp only [go_sem]; omega)) only [go_sem, ↓reduceIte])
    first | exact leS_refl _ | (refine leS_le ?_ ?_ <;> first | exact leL_refl _ | exact leOs_refl _ | (simp only [List.append_assoc, List.cons_append, List.nil_append]; exact leOs_refl _) | (repeat (first | exact leL_refl _ | refine leL_cons (by first | exact leT_refl _ | exact leT_virt | exact leT_junk _ | exact leT_sl | exact leT_sln | exact leT_nil | (refine leT_agg (by repeat (first | exact leL_refl _ | refine leL_cons (by first | exact leT_refl _ | exact leT_sl | exact leT_sln | exact leT_nil) ?_)))) ?_)))
  ·clear h
   rintro S ⟨x14, x15, x16, x17, x18, x19, rfl, h⟩
   rw [F83_J1] at h
   simp only [F83_S1]
   refine runX_seq ?_
   refine runX_seq ?_
   refine runX_regionC fun C hC => ?_
   try simp -implicitDefEqProofs (maxSteps := 4000000) (disch := first | omega | decide | (simp only [go_sem]; omega)) only [go_sem, ↓reduceIte]
   repeat (with_reducible refine And.intro (by first | assumption | omega | (simp; done) | (simp; omega)) ?_)
   refine toEnd hC ?_
   refine endX_seq ?_
   refine runX_block ?_
   refine runX_unroll 8 ?_
   refine runX_seq ?_
   refine runX_regionC fun C hC => ?_
   try simp -implicitDefEqProofs (maxSteps := 4000000) (disch := first | omega | decide | (simp only [go_sem]; omega)) only [go_sem, ↓reduceIte]
   repeat (with_reducible refine And.intro (by first | assumption | omega | (simp; done) | (simp; omega)) ?_)
   refine toEnd hC ?_
   refine endX_seq ?_
   refine runX_seq ?_
   refine runX_condT rfl rfl ?_
   refine runX_skip ?_
   refine endX_seq ?_
   refine runX_seq ?_
   refine runX_block ?_
   refine runX_seq ?_
   refine runX_regionC fun C hC => ?_
   try simp -implicitDefEqProofs (maxSteps := 4000000) (disch := first | omega | decide | (simp only [go_sem]; omega)) only [go_sem, ↓reduceIte]
   repeat (with_reducible refine And.intro (by first | assumption | omega | (simp; done) | (simp; omega)) ?_)
   refine toEnd hC ?_
   refine endX_seq ?_
   refine runX_regionC fun C hC => ?_
   obtain ⟨g20, h⟩ := grd_some h
   have e21 : patchT (List.map byteT x19) 56 [.imm (.int .u8 (IntKind.wrap .u8 ((bShr .u64 (IntKind.wrap .u64 ((8 : Int) * (IntKind.wrap .u64 (a0.2 + (IntKind.wrap .u64 (((a1.take (if (63 : Int) < (a1.length : Int) then (63 : Int) else (a1.length : Int)).toNat).length : Int))))))) 0))))] = List.map byteT (List.set x19 56 (IntKind.wrap .u8 ((bShr .u64 (IntKind.wrap .u64 ((8 : Int) * (IntKind.wrap .u64 (a0.2 + (IntKind.wrap .u64 (((a1.take (if (63 : Int) < (a1.length : Int) then (63 : Int) else (a1.length : Int)).toNat).length : Int))))))) 0)))) := patch_map byteT (l := x19) (i := 56) (v := (IntKind.wrap .u8 ((bShr .u64 (IntKind.wrap .u64 ((8 : Int) * (IntKind.wrap .u64 (a0.2 + (IntKind.wrap .u64 (((a1.take (if (63 : Int) < (a1.length : Int) then (63 : Int) else (a1.length : Int)).toNat).length : Int))))))) 0)))) (by first | assumption | omega | (simp only [List.length_set] at *; omega))
   try simp -implicitDefEqProofs (maxSteps := 4000000) (disch := first | omega | decide | (simp only [go_sem]; omega)) only [go_sem, ↓reduceIte, e21]
   repeat (with_reducible refine And.intro (by first | assumption | omega | (simp; done) | (simp; omega)) ?_)
   refine toEnd hC ?_
   refine endX_blk ?_
   refine endX_seq ?_
   refine runX_regionC fun C hC => ?_
   try simp -implicitDefEqProofs (maxSteps := 4000000) (disch := first | omega | decide | (simp only [go_sem]; omega)) only [go_sem, ↓reduceIte]
   repeat (with_reducible refine And.intro (by first | assumption | omega | (simp; done) | (simp; omega)) ?_)
   refine toEnd hC ?_
   refine endX_lp ?_
   refine runX_seq ?_
   refine runX_regionC fun C hC => ?_
   try simp -implicitDefEqProofs (maxSteps := 4000000) (disch := first | omega | decide | (simp only [go_sem]; omega)) only [go_sem, ↓reduceIte]
   repeat (with_reducible refine And.intro (by first | assumption | omega | (simp; done) | (simp; omega)) ?_)
   refine toEnd hC ?_
   refine endX_seq ?_
   refine runX_seq ?_
   refine runX_condT rfl rfl ?_
   refine runX_skip ?_
   refine endX_seq ?_
   refine runX_seq ?_
   refine runX_block ?_
   refine runX_seq ?_
   refine runX_regionC fun C hC => ?_
   try simp -implicitDefEqProofs (maxSteps := 4000000) (disch := first | omega | decide | (simp only [go_sem]; omega)) only [go_sem, ↓reduceIte]
   repeat (with_reducible refine And.intro (by first | assumption | omega | (simp; done) | (simp; omega)) ?_)
   refine toEnd hC ?_
   refine endX_seq ?_
   refine runX_regionC fun C hC => ?_
   obtain ⟨g22, h⟩ := grd_some h
   have e23 : patchT (List.map byteT (List.set x19 56 (IntKind.wrap .u8 ((bShr .u64 (IntKind.wrap .u64 ((8 : Int) * (IntKind.wrap .u64 (a0.2 + (IntKind.wrap .u64 (((a1.take (if (63 : Int) < (a1.length : Int) then (63 : Int) else (a1.length : Int)).toNat).length : Int))))))) 0))))) 57 [.imm (.int .u8 (IntKind.wrap .u8 ((bShr .u64 (IntKind.wrap .u64 ((8 : Int) * (IntKind.wrap .u64 (a0.2 + (IntKind.wrap .u64 (((a1.take (if (63 : Int) < (a1.length : Int) then (63 : Int) else (a1.length : Int)).toNat).length : Int))))))) 8))))] = List.map byteT (List.set (List.set x19 56 (IntKind.wrap .u8 ((bShr .u64 (IntKind.wrap .u64 ((8 : Int) * (IntKind.wrap .u64 (a0.2 + (IntKind.wrap .u64 (((a1.take (if (63 : Int) < (a1.length : Int) then (63 : Int) else (a1.length : Int)).toNat).length : Int))))))) 0)))) 57 (IntKind.wrap .u8 ((bShr .u64 (IntKind.wrap .u64 ((8 : Int) * (IntKind.wrap .u64 (a0.2 + (IntKind.wrap .u64 (((a1.take (if (63 : Int) < (a1.length : Int) then (63 : Int) else (a1.length : Int)).toNat).length : Int))))))) 8)))) := patch_map byteT (l := (List.set x19 56 (IntKind.wrap .u8 ((bShr .u64 (IntKind.wrap .u64 ((8 : Int) * (IntKind.wrap .u64 (a0.2 + (IntKind.wrap .u64 (((a1.take (if (63 : Int) < (a1.length : Int) then (63 : Int) else (a1.length : Int)).toNat).length : Int))))))) 0))))) (i := 57) (v := (IntKind.wrap .u8 ((bShr .u64 (IntKind.wrap .u64 ((8 : Int) * (IntKind.wrap .u64 (a0.2 + (IntKind.wrap .u64 (((a1.take (if (63 : Int) < (a1.length : Int) then (63 : Int) else (a1.length : Int)).toNat).length : Int))))))) 8)))) (by first | assumption | omega | (simp only [List.length_set] at *; omega))
   try simp -implicitDefEqProofs (maxSteps := 4000000) (disch := first | omega | decide | (simp only [go_sem]; omega)) only [go_sem, ↓reduceIte, e23]
   repeat (with_reducible refine And.intro (by first | assumption | omega | (simp; done) | (simp; omega)) ?_)
   refine toEnd hC ?_
   refine endX_blk ?_
   refine endX_seq ?_
   refine runX_regionC fun C hC => ?_
   try simp -implicitDefEqProofs (maxSteps := 4000000) (disch := first | omega | decide | (simp only [go_sem]; omega)) only [go_sem, ↓reduceIte]
   repeat (with_reducible refine And.intro (by first | assumption | omega | (simp; done) | (simp; omega)) ?_)
   refine toEnd hC ?_
   refine endX_lp ?_
   refine runX_seq ?_
   refine runX_regionC fun C hC => ?_
   try simp -implicitDefEqProofs (maxSteps := 4000000) (disch := first | omega | decide | (simp only [go_sem]; omega)) only [go_sem, ↓reduceIte]
   repeat (with_reducible refine And.intro (by first | assumption | omega | (simp; done) | (simp; omega)) ?_)
   refine toEnd hC ?_
   refine endX_seq ?_
   refine runX_seq ?_
   refine runX_condT rfl rfl ?_
   refine runX_skip ?_
   refine endX_seq ?_
   refine runX_seq ?_
   refine runX_block ?_
   refine runX_seq ?_
   refine runX_regionC fun C hC => ?_
   try simp -implicitDefEqProofs (maxSteps := 4000000) (disch := first | omega | decide | (simp only [go_sem]; omega)) only [go_sem, ↓reduceIte]
   repeat (with_reducible refine And.intro (by first | assumption | omega | (simp; done) | (simp; omega)) ?_)
   refine toEnd hC ?_
   refine endX_seq ?_
   refine runX_regionC fun C hC => ?_
   obtain ⟨g24, h⟩ := grd_some h
   have e25 : patchT (List.map byteT (List.set (List.set x19 56 (IntKind.wrap .u8 ((bShr .u64 (IntKind.wrap .u64 ((8 : Int) * (IntKind.wrap .u64 (a0.2 + (IntKind.wrap .u64 (((a1.take (if (63 : Int) < (a1.length : Int) then (63 : Int) else (a1.length : Int)).toNat).length : Int))))))) 0)))) 57 (IntKind.wrap .u8 ((bShr .u64 (IntKind.wrap .u64 ((8 : Int) * (IntKind.wrap .u64 (a0.2 + (IntKind.wrap .u64 (((a1.take (if (63 : Int) < (a1.length : Int) then (63 : Int) else (a1.length : Int)).toNat).length : Int))))))) 8))))) 58 [.imm (.int .u8 (IntKind.wrap .u8 ((bShr .u64 (IntKind.wrap .u64 ((8 : Int) * (IntKind.wrap .u64 (a0.2 + (IntKind.wrap .u64 (((a1.take (if (63 : Int) < (a1.length : Int) then (63 : Int) else (a1.length : Int)).toNat).length : Int))))))) 16))))] = List.map byteT (List.set (List.set (List.set x19 56 (IntKind.wrap .u8 ((bShr .u64 (IntKind.wrap .u64 ((8 : Int) * (IntKind.wrap .u64 (a0.2 + (IntKind.wrap .u64 (((a1.take (if (63 : Int) < (a1.length : Int) then (63 : Int) else (a1.length : Int)).toNat).length : Int))))))) 0)))) 57 (IntKind.wrap .u8 ((bShr .u64 (IntKind.wrap .u64 ((8 : Int) * (IntKind.wrap .u64 (a0.2 + (IntKind.wrap .u64 (((a1.take (if (63 : Int) < (a1.length : Int) then (63 : Int) else (a1.length : Int)).toNat).length : Int))))))) 8)))) 58 (IntKind.wrap .u8 ((bShr .u64 (IntKind.wrap .u64 ((8 : Int) * (IntKind.wrap .u64 (a0.2 + (IntKind.wrap .u64 (((a1.take (if (63 : Int) < (a1.length : Int) then (63 : Int) else (a1.length : Int)).toNat).length : Int))))))) 16)))) := patch_map byteT (l := (List.set (List.set x19 56 (IntKind.wrap .u8 ((bShr .u64 (IntKind.wrap .u64 ((8 : Int) * (IntKind.wrap .u64 (a0.2 + (IntKind.wrap .u64 (((a1.take (if (63 : Int) < (a1.length : Int) then (63 : Int) else (a1.length : Int)).toNat).length : Int))))))) 0)))) 57 (IntKind.wrap .u8 ((bShr .u64 (IntKind.wrap .u64 ((8 : Int) * (IntKind.wrap .u64 (a0.2 + (IntKind.wrap .u64 (((a1.take (if (63 : Int) < (a1.length : Int) then (63 : Int) else (a1.length : Int)).toNat).length : Int))))))) 8))))) (i := 58) (v := (IntKind.wrap .u8 ((bShr .u64 (IntKind.wrap .u64 ((8 : Int) * (IntKind.wrap .u64 (a0.2 + (IntKind.wrap .u64 (((a1.take (if (63 : Int) < (a1.length : Int) then (63 : Int) else (a1.length : Int)).toNat).length : Int))))))) 16)))) (by first | assumption | omega | (simp only [List.length_set] at *; omega))
   try simp -implicitDefEqProofs (maxSteps := 4000000) (disch := first | omega | decide | (simp only [go_sem]; omega)) only [go_sem, ↓reduceIte, e25]
   repeat (with_reducible refine And.intro (by first | assumption | omega | (simp; done) | (simp; omega)) ?_)
   refine toEnd hC ?_
   refine endX_blk ?_
   refine endX_seq ?_
   refine runX_regionC fun C hC => ?_
   try simp -implicitDefEqProofs (maxSteps := 4000000) (disch := first | omega | decide | (simp only [go_sem]; omega)) only [go_sem, ↓reduceIte]
   repeat (with_reducible refine And.intro (by first | assumption | omega | (simp; done) | (simp; omega)) ?_)
   refine toEnd hC ?_
   refine endX_lp ?_
   refine runX_seq ?_
   refine runX_regionC fun C hC => ?_
   try simp -implicitDefEqProofs (maxSteps := 4000000) (disch := first | omega | decide | (simp only [go_sem]; omega)) only [go_sem, ↓reduceIte]
   repeat (with_reducible refine And.intro (by first | assumption | omega | (simp; done) | (simp; omega)) ?_)
   refine toEnd hC ?_
   refine endX_seq ?_
   refine runX_seq ?_
   refine runX_condT rfl rfl ?_
   refine runX_skip ?_
   refine endX_seq ?_
   refine runX_seq ?_
   refine runX_block ?_
   refine runX_seq ?_
   refine runX_regionC fun C hC => ?_
   try simp -implicitDefEqProofs (maxSteps := 4000000) (disch := first | omega | decide | (simp only [go_sem]; omega)) only [go_sem, ↓reduceIte]
   repeat (with_reducible refine And.intro (by first | assumption | omega | (simp; done) | (simp; omega)) ?_)
   refine toEnd hC ?_
   refine endX_seq ?_
   refine runX_regionC fun C hC => ?_
   obtain ⟨g26, h⟩ := grd_some h
   have e27 : patchT (List.map byteT (List.set (List.set (List.set x19 56 (IntKind.wrap .u8 ((bShr .u64 (IntKind.wrap .u64 ((8 : Int) * (IntKind.wrap .u64 (a0.2 + (IntKind.wrap .u64 (((a1.take (if (63 : Int) < (a1.length : Int) then (63 : Int) else (a1.length : Int)).toNat).length : Int))))))) 0)))) 57 (IntKind.wrap .u8 ((bShr .u64 (IntKind.wrap .u64 ((8 : Int) * (IntKind.wrap .u64 (a0.2 + (IntKind.wrap .u64 (((a1.take (if (63 : Int) < (a1.length : Int) then (63 : Int) else (a1.length : Int)).toNat).length : Int))))))) 8)))) 58 (IntKind.wrap .u8 ((bShr .u64 (IntKind.wrap .u64 ((8 : Int) * (IntKind.wrap .u64 (a0.2 + (IntKind.wrap .u64 (((a1.take (if (63 : Int) < (a1.length : Int) then (63 : Int) else (a1.length : Int)).toNat).length : Int))))))) 16))))) 59 [.imm (.int .u8 (IntKind.wrap .u8 ((bShr .u64 (IntKind.wrap .u64 ((8 : Int) * (IntKind.wrap .u64 (a0.2 + (IntKind.wrap .u64 (((a1.take (if (63 : Int) < (a1.length : Int) then (63 : Int) else (a1.length : Int)).toNat).length : Int))))))) 24))))] = List.map byteT (List.set (List.set (List.set (List.set x19 56 (IntKind.wrap .u8 ((bShr .u64 (IntKind.wrap .u64 ((8 : Int) * (IntKind.wrap .u64 (a0.2 + (IntKind.wrap .u64 (((a1.take (if (63 : Int) < (a1.length : Int) then (63 : Int) else (a1.length : Int)).toNat).length : Int))))))) 0)))) 57 (IntKind.wrap .u8 ((bShr .u64 (IntKind.wrap .u64 ((8 : Int) * (IntKind.wrap .u64 (a0.2 + (IntKind.wrap .u64 (((a1.take (if (63 : Int) < (a1.length : Int) then (63 : Int) else (a1.length : Int)).toNat).length : Int))))))) 8)))) 58 (IntKind.wrap .u8 ((bShr .u64 (IntKind.wrap .u64 ((8 : Int) * (IntKind.wrap .u64 (a0.2 + (IntKind.wrap .u64 (((a1.take (if (63 : Int) < (a1.length : Int) then (63 : Int) else (a1.length : Int)).toNat).length : Int))))))) 16)))) 59 (IntKind.wrap .u8 ((bShr .u64 (IntKind.wrap .u64 ((8 : Int) * (IntKind.wrap .u64 (a0.2 + (IntKind.wrap .u64 (((a1.take (if (63 : Int) < (a1.length : Int) then (63 : Int) else (a1.length : Int)).toNat).length : Int))))))) 24)))) := patch_map byteT (l := (List.set (List.set (List.set x19 56 (IntKind.wrap .u8 ((bShr .u64 (IntKind.wrap .u64 ((8 : Int) * (IntKind.wrap .u64 (a0.2 + (IntKind.wrap .u64 (((a1.take (if (63 : Int) < (a1.length : Int) then (63 : Int) else (a1.length : Int)).toNat).length : Int))))))) 0)))) 57 (IntKind.wrap .u8 ((bShr .u64 (IntKind.wrap .u64 ((8 : Int) * (IntKind.wrap .u64 (a0.2 + (IntKind.wrap .u64 (((a1.take (if (63 : Int) < (a1.length : Int) then (63 : Int) else (a1.length : Int)).toNat).length : Int))))))) 8)))) 58 (IntKind.wrap .u8 ((bShr .u64 (IntKind.wrap .u64 ((8 : Int) * (IntKind.wrap .u64 (a0.2 + (IntKind.wrap .u64 (((a1.take (if (63 : Int) < (a1.length : Int) then (63 : Int) else (a1.length : Int)).toNat).length : Int))))))) 16))))) (i := 59) (v := (IntKind.wrap .u8 ((bShr .u64 (IntKind.wrap .u64 ((8 : Int) * (IntKind.wrap .u64 (a0.2 + (IntKind.wrap .u64 (((a1.take (if (63 : Int) < (a1.length : Int) then (63 : Int) else (a1.length : Int)).toNat).length : Int))))))) 24)))) (by first | assumption | omega | (simp only [List.length_set] at *; omega))
   try simp -implicitDefEqProofs (maxSteps := 4000000) (disch := first | omega | decide | (simp only [go_sem]; omega)) only [go_sem, ↓reduceIte, e27]
   repeat (with_reducible refine And.intro (by first | assumption | omega | (simp; done) | (simp; omega)) ?_)
   refine toEnd hC ?_
   refine endX_blk ?_
   refine endX_seq ?_
   refine runX_regionC fun C hC => ?_
   try simp -implicitDefEqProofs (maxSteps := 4000000) (disch := first | omega | decide | (simp only [go_sem]; omega)) only [go_sem, ↓reduceIte]
   repeat (with_reducible refine And.intro (by first | assumption | omega | (simp; done) | (simp; omega)) ?_)
   refine toEnd hC ?_
   refine endX_lp ?_
   refine runX_seq ?_
   refine runX_regionC fun C hC => ?_
   try simp -implicitDefEqProofs (maxSteps := 4000000) (disch := first | omega | decide | (simp only [go_sem]; omega)) only [go_sem, ↓reduceIte]
   repeat (with_reducible refine And.intro (by first | assumption | omega | (simp; done) | (simp; omega)) ?_)
   refine toEnd hC ?_
   refine endX_seq ?_
   refine runX_seq ?_
   refine runX_condT rfl rfl ?_
   refine runX_skip ?_
   refine endX_seq ?_
   refine runX_seq ?_
   refine runX_block ?_
   refine runX_seq ?_
   refine runX_regionC fun C hC => ?_
   try simp -implicitDefEqProofs (maxSteps := 4000000) (disch := first | omega | decide | (simp only [go_sem]; omega)) only [go_sem, ↓reduceIte]
   repeat (with_reducible refine And.intro (by first | assumption | omega | (simp; done) | (simp; omega)) ?_)
   refine toEnd hC ?_
   refine endX_seq ?_
   refine runX_regionC fun C hC => ?_
   obtain ⟨g28, h⟩ := grd_some h
   have e29 : patchT (List.map byteT (List.set (List.set (List.set (List.set x19 56 (IntKind.wrap .u8 ((bShr .u64 (IntKind.wrap .u64 ((8 : Int) * (IntKind.wrap .u64 (a0.2 + (IntKind.wrap .u64 (((a1.take (if (63 : Int) < (a1.length : Int) then (63 : Int) else (a1.length : Int)).toNat).length : Int))))))) 0)))) 57 (IntKind.wrap .u8 ((bShr .u64 (IntKind.wrap .u64 ((8 : Int) * (IntKind.wrap .u64 (a0.2 + (IntKind.wrap .u64 (((a1.take (if (63 : Int) < (a1.length : Int) then (63 : Int) else (a1.length : Int)).toNat).length : Int))))))) 8)))) 58 (IntKind.wrap .u8 ((bShr .u64 (IntKind.wrap .u64 ((8 : Int) * (IntKind.wrap .u64 (a0.2 + (IntKind.wrap .u64 (((a1.take (if (63 : Int) < (a1.length : Int) then (63 : Int) else (a1.length : Int)).toNat).length : Int))))))) 16)))) 59 (IntKind.wrap .u8 ((bShr .u64 (IntKind.wrap .u64 ((8 : Int) * (IntKind.wrap .u64 (a0.2 + (IntKind.wrap .u64 (((a1.take (if (63 : Int) < (a1.length : Int) then (63 : Int) else (a1.length : Int)).toNat).length : Int))))))) 24))))) 60 [.imm (.int .u8 (IntKind.wrap .u8 ((bShr .u64 (IntKind.wrap .u64 ((8 : Int) * (IntKind.wrap .u64 (a0.2 + (IntKind.wrap .u64 (((a1.take (if (63 : Int) < (a1.length : Int) then (63 : Int) else (a1.length : Int)).toNat).length : Int))))))) 32))))] = List.map byteT (List.set (List.set (List.set (List.set (List.set x19 56 (IntKind.wrap .u8 ((bShr .u64 (IntKind.wrap .u64 ((8 : Int) * (IntKind.wrap .u64 (a0.2 + (IntKind.wrap .u64 (((a1.take (if (63 : Int) < (a1.length : Int) then (63 : Int) else (a1.length : Int)).toNat).length : Int))))))) 0)))) 57 (IntKind.wrap .u8 ((bShr .u64 (IntKind.wrap .u64 ((8 : Int) * (IntKind.wrap .u64 (a0.2 + (IntKind.wrap .u64 (((a1.take (if (63 : Int) < (a1.length : Int) then (63 : Int) else (a1.length : Int)).toNat).length : Int))))))) 8)))) 58 (IntKind.wrap .u8 ((bShr .u64 (IntKind.wrap .u64 ((8 : Int) * (IntKind.wrap .u64 (a0.2 + (IntKind.wrap .u64 (((a1.take (if (63 : Int) < (a1.length : Int) then (63 : Int) else (a1.length : Int)).toNat).length : Int))))))) 16)))) 59 (IntKind.wrap .u8 ((bShr .u64 (IntKind.wrap .u64 ((8 : Int) * (IntKind.wrap .u64 (a0.2 + (IntKind.wrap .u64 (((a1.take (if (63 : Int) < (a1.length : Int) then (63 : Int) else (a1.length : Int)).toNat).length : Int))))))) 24)))) 60 (IntKind.wrap .u8 ((bShr .u64 (IntKind.wrap .u64 ((8 : Int) * (IntKind.wrap .u64 (a0.2 + (IntKind.wrap .u64 (((a1.take (if (63 : Int) < (a1.length : Int) then (63 : Int) else (a1.length : Int)).toNat).length : Int))))))) 32)))) := patch_map byteT (l := (List.set (List.set (List.set (List.set x19 56 (IntKind.wrap .u8 ((bShr .u64 (IntKind.wrap .u64 ((8 : Int) * (IntKind.wrap .u64 (a0.2 + (IntKind.wrap .u64 (((a1.take (if (63 : Int) < (a1.length : Int) then (63 : Int) else (a1.length : Int)).toNat).length : Int))))))) 0)))) 57 (IntKind.wrap .u8 ((bShr .u64 (IntKind.wrap .u64 ((8 : Int) * (IntKind.wrap .u64 (a0.2 + (IntKind.wrap .u64 (((a1.take (if (63 : Int) < (a1.length : Int) then (63 : Int) else (a1.length : Int)).toNat).length : Int))))))) 8)))) 58 (IntKind.wrap .u8 ((bShr .u64 (IntKind.wrap .u64 ((8 : Int) * (IntKind.wrap .u64 (a0.2 + (IntKind.wrap .u64 (((a1.take (if (63 : Int) < (a1.length : Int) then (63 : Int) else (a1.length : Int)).toNat).length : Int))))))) 16)))) 59 (IntKind.wrap .u8 ((bShr .u64 (IntKind.wrap .u64 ((8 : Int) * (IntKind.wrap .u64 (a0.2 + (IntKind.wrap .u64 (((a1.take (if (63 : Int) < (a1.length : Int) then (63 : Int) else (a1.length : Int)).toNat).length : Int))))))) 24))))) (i := 60) (v := (IntKind.wrap .u8 ((bShr .u64 (IntKind.wrap .u64 ((8 : Int) * (IntKind.wrap .u64 (a0.2 + (IntKind.wrap .u64 (((a1.take (if (63 : Int) < (a1.length : Int) then (63 : Int) else (a1.length : Int)).toNat).length : Int))))))) 32)))) (by first | assumption | omega | (simp only [List.length_set] at *; omega))
   try simp -implicitDefEqProofs (maxSteps := 4000000) (disch := first | omega | decide | (simp only [go_sem]; omega)) only [go_sem, ↓reduceIte, e29]
   repeat (with_reducible refine And.intro (by first | assumption | omega | (simp; done) | (simp; omega)) ?_)
   refine toEnd hC ?_
   refine endX_blk ?_
   refine endX_seq ?_
   refine runX_regionC fun C hC => ?_
   try simp -implicitDefEqProofs (maxSteps := 4000000) (disch := first | omega | decide | (simp only [go_sem]; omega)) only [go_sem, ↓reduceIte]
   repeat (with_reducible refine And.intro (by first | assumption | omega | (simp; done) | (simp; omega)) ?_)
   refine toEnd hC ?_
   refine endX_lp ?_
   refine runX_seq ?_
   refine runX_regionC fun C hC => ?_
   try simp -implicitDefEqProofs (maxSteps := 4000000) (disch := first | omega | decide | (simp only [go_sem]; omega)) only [go_sem, ↓reduceIte]
   repeat (with_reducible refine And.intro (by first | assumption | omega | (simp; done) | (simp; omega)) ?_)
   refine toEnd hC ?_
   refine endX_seq ?_
   refine runX_seq ?_
   refine runX_condT rfl rfl ?_
   refine runX_skip ?_
   refine endX_seq ?_
   refine runX_seq ?_
   refine runX_block ?_
   refine runX_seq ?_
   refine runX_regionC fun C hC => ?_
   try simp -implicitDefEqProofs (maxSteps := 4000000) (disch := first | omega | decide | (simp only [go_sem]; omega)) only [go_sem, ↓reduceIte]
   repeat (with_reducible refine And.intro (by first | assumption | omega | (simp; done) | (simp; omega)) ?_)
   refine toEnd hC ?_
   refine endX_seq ?_
   refine runX_regionC fun C hC => ?_
   obtain ⟨g30, h⟩ := grd_some h
   have e31 : patchT (List.map byteT (List.set (List.set (List.set (List.set (List.set x19 56 (IntKind.wrap .u8 ((bShr .u64 (IntKind.wrap .u64 ((8 : Int) * (IntKind.wrap .u64 (a0.2 + (IntKind.wrap .u64 (((a1.take (if (63 : Int) < (a1.length : Int) then (63 : Int) else (a1.length : Int)).toNat).length : Int))))))) 0)))) 57 (IntKind.wrap .u8 ((bShr .u64 (IntKind.wrap .u64 ((8 : Int) * (IntKind.wrap .u64 (a0.2 + (IntKind.wrap .u64 (((a1.take (if (63 : Int) < (a1.length : Int) then (63 : Int) else (a1.length : Int)).toNat).length : Int))))))) 8)))) 58 (IntKind.wrap .u8 ((bShr .u64 (IntKind.wrap .u64 ((8 : Int) * (IntKind.wrap .u64 (a0.2 + (IntKind.wrap .u64 (((a1.take (if (63 : Int) < (a1.length : Int) then (63 : Int) else (a1.length : Int)).toNat).length : Int))))))) 16)))) 59 (IntKind.wrap .u8 ((bShr .u64 (IntKind.wrap .u64 ((8 : Int) * (IntKind.wrap .u64 (a0.2 + (IntKind.wrap .u64 (((a1.take (if (63 : Int) < (a1.length : Int) then (63 : Int) else (a1.length : Int)).toNat).length : Int))))))) 24)))) 60 (IntKind.wrap .u8 ((bShr .u64 (IntKind.wrap .u64 ((8 : Int) * (IntKind.wrap .u64 (a0.2 + (IntKind.wrap .u64 (((a1.take (if (63 : Int) < (a1.length : Int) then (63 : Int) else (a1.length : Int)).toNat).length : Int))))))) 32))))) 61 [.imm (.int .u8 (IntKind.wrap .u8 ((bShr .u64 (IntKind.wrap .u64 ((8 : Int) * (IntKind.wrap .u64 (a0.2 + (IntKind.wrap .u64 (((a1.take (if (63 : Int) < (a1.length : Int) then (63 : Int) else (a1.length : Int)).toNat).length : Int))))))) 40))))] = List.map byteT (List.set (List.set (List.set (List.set (List.set (List.set x19 56 (IntKind.wrap .u8 ((bShr .u64 (IntKind.wrap .u64 ((8 : Int) * (IntKind.wrap .u64 (a0.2 + (IntKind.wrap .u64 (((a1.take (if (63 : Int) < (a1.length : Int) then (63 : Int) else (a1.length : Int)).toNat).length : Int))))))) 0)))) 57 (IntKind.wrap .u8 ((bShr .u64 (IntKind.wrap .u64 ((8 : Int) * (IntKind.wrap .u64 (a0.2 + (IntKind.wrap .u64 (((a1.take (if (63 : Int) < (a1.length : Int) then (63 : Int) else (a1.length : Int)).toNat).length : Int))))))) 8)))) 58 (IntKind.wrap .u8 ((bShr .u64 (IntKind.wrap .u64 ((8 : Int) * (IntKind.wrap .u64 (a0.2 + (IntKind.wrap .u64 (((a1.take (if (63 : Int) < (a1.length : Int) then (63 : Int) else (a1.length : Int)).toNat).length : Int))))))) 16)))) 59 (IntKind.wrap .u8 ((bShr .u64 (IntKind.wrap .u64 ((8 : Int) * (IntKind.wrap .u64 (a0.2 + (IntKind.wrap .u64 (((a1.take (if (63 : Int) < (a1.length : Int) then (63 : Int) else (a1.length : Int)).toNat).length : Int))))))) 24)))) 60 (IntKind.wrap .u8 ((bShr .u64 (IntKind.wrap .u64 ((8 : Int) * (IntKind.wrap .u64 (a0.2 + (IntKind.wrap .u64 (((a1.take (if (63 : Int) < (a1.length : Int) then (63 : Int) else (a1.length : Int)).toNat).length : Int))))))) 32)))) 61 (IntKind.wrap .u8 ((bShr .u64 (IntKind.wrap .u64 ((8 : Int) * (IntKind.wrap .u64 (a0.2 + (IntKind.wrap .u64 (((a1.take (if (63 : Int) < (a1.length : Int) then (63 : Int) else (a1.length : Int)).toNat).length : Int))))))) 40)))) := patch_map byteT (l := (List.set (List.set (List.set (List.set (List.set x19 56 (IntKind.wrap .u8 ((bShr .u64 (IntKind.wrap .u64 ((8 : Int) * (IntKind.wrap .u64 (a0.2 + (IntKind.wrap .u64 (((a1.take (if (63 : Int) < (a1.length : Int) then (63 : Int) else (a1.length : Int)).toNat).length : Int))))))) 0)))) 57 (IntKind.wrap .u8 ((bShr .u64 (IntKind.wrap .u64 ((8 : Int) * (IntKind.wrap .u64 (a0.2 + (IntKind.wrap .u64 (((a1.take (if (63 : Int) < (a1.length : Int) then (63 : Int) else (a1.length : Int)).toNat).length : Int))))))) 8)))) 58 (IntKind.wrap .u8 ((bShr .u64 (IntKind.wrap .u64 ((8 : Int) * (IntKind.wrap .u64 (a0.2 + (IntKind.wrap .u64 (((a1.take (if (63 : Int) < (a1.length : Int) then (63 : Int) else (a1.length : Int)).toNat).length : Int))))))) 16)))) 59 (IntKind.wrap .u8 ((bShr .u64 (IntKind.wrap .u64 ((8 : Int) * (IntKind.wrap .u64 (a0.2 + (IntKind.wrap .u64 (((a1.take (if (63 : Int) < (a1.length : Int) then (63 : Int) else (a1.length : Int)).toNat).length : Int))))))) 24)))) 60 (IntKind.wrap .u8 ((bShr .u64 (IntKind.wrap .u64 ((8 : Int) * (IntKind.wrap .u64 (a0.2 + (IntKind.wrap .u64 (((a1.take (if (63 : Int) < (a1.length : Int) then (63 : Int) else (a1.length : Int)).toNat).length : Int))))))) 32))))) (i := 61) (v := (IntKind.wrap .u8 ((bShr .u64 (IntKind.wrap .u64 ((8 : Int) * (IntKind.wrap .u64 (a0.2 + (IntKind.wrap .u64 (((a1.take (if (63 : Int) < (a1.length : Int) then (63 : Int) else (a1.length : Int)).toNat).length : Int))))))) 40)))) (by first | assumption | omega | (simp only [List.length_set] at *; omega))
   try simp -implicitDefEqProofs (maxSteps := 4000000) (disch := first | omega | decide | (simp only [go_sem]; omega)) only [go_sem, ↓reduceIte, e31]
   repeat (with_reducible refine And.intro (by first | assumption | omega | (simp; done) | (simp; omega)) ?_)
   refine toEnd hC ?_
   refine endX_blk ?_
   refine endX_seq ?_
   refine runX_regionC fun C hC => ?_
   try simp -implicitDefEqProofs (maxSteps := 4000000) (disch := first | omega | decide | (simp only [go_sem]; omega)) only [go_sem, ↓reduceIte]
   repeat (with_reducible refine And.intro (by first | assumption | omega | (simp; done) | (simp; omega)) ?_)
   refine toEnd hC ?_
   refine endX_lp ?_
   refine runX_seq ?_
   refine runX_regionC fun C hC => ?_
   try simp -implicitDefEqProofs (maxSteps := 4000000) (disch := first | omega | decide | (simp only [go_sem]; omega)) only [go_sem, ↓reduceIte]
   repeat (with_reducible refine And.intro (by first | assumption | omega | (simp; done) | (simp; omega)) ?_)
   refine toEnd hC ?_
   refine endX_seq ?_
   refine runX_seq ?_
   refine runX_condT rfl rfl ?_
   refine runX_skip ?_
   refine endX_seq ?_
   refine runX_seq ?_
   refine runX_block ?_
   refine runX_seq ?_
   refine runX_regionC fun C hC => ?_
   try simp -implicitDefEqProofs (maxSteps := 4000000) (disch := first | omega | decide | (simp only [go_sem]; omega)) only [go_sem, ↓reduceIte]
   repeat (with_reducible refine And.intro (by first | assumption | omega | (simp; done) | (simp; omega)) ?_)
   refine toEnd hC ?_
   refine endX_seq ?_
   refine runX_regionC fun C hC => ?_
   obtain ⟨g32, h⟩ := grd_some h
   have e33 : patchT (List.map byteT (List.set (List.set (List.set (List.set (List.set (List.set x19 56 (IntKind.wrap .u8 ((bShr .u64 (IntKind.wrap .u64 ((8 : Int) * (IntKind.wrap .u64 (a0.2 + (IntKind.wrap .u64 (((a1.take (if (63 : Int) < (a1.length : Int) then (63 : Int) else (a1.length : Int)).toNat).length : Int))))))) 0)))) 57 (IntKind.wrap .u8 ((bShr .u64 (IntKind.wrap .u64 ((8 : Int) * (IntKind.wrap .u64 (a0.2 + (IntKind.wrap .u64 (((a1.take (if (63 : Int) < (a1.length : Int) then (63 : Int) else (a1.length : Int)).toNat).length : Int))))))) 8)))) 58 (IntKind.wrap .u8 ((bShr .u64 (IntKind.wrap .u64 ((8 : Int) * (IntKind.wrap .u64 (a0.2 + (IntKind.wrap .u64 (((a1.take (if (63 : Int) < (a1.length : Int) then (63 : Int) else (a1.length : Int)).toNat).length : Int))))))) 16)))) 59 (IntKind.wrap .u8 ((bShr .u64 (IntKind.wrap .u64 ((8 : Int) * (IntKind.wrap .u64 (a0.2 + (IntKind.wrap .u64 (((a1.take (if (63 : Int) < (a1.length : Int) then (63 : Int) else (a1.length : Int)).toNat).length : Int))))))) 24)))) 60 (IntKind.wrap .u8 ((bShr .u64 (IntKind.wrap .u64 ((8 : Int) * (IntKind.wrap .u64 (a0.2 + (IntKind.wrap .u64 (((a1.take (if (63 : Int) < (a1.length : Int) then (63 : Int) else (a1.length : Int)).toNat).length : Int))))))) 32)))) 61 (IntKind.wrap .u8 ((bShr .u64 (IntKind.wrap .u64 ((8 : Int) * (IntKind.wrap .u64 (a0.2 + (IntKind.wrap .u64 (((a1.take (if (63 : Int) < (a1.length : Int) then (63 : Int) else (a1.length : Int)).toNat).length : Int))))))) 40))))) 62 [.imm (.int .u8 (IntKind.wrap .u8 ((bShr .u64 (IntKind.wrap .u64 ((8 : Int) * (IntKind.wrap .u64 (a0.2 + (IntKind.wrap .u64 (((a1.take (if (63 : Int) < (a1.length : Int) then (63 : Int) else (a1.length : Int)).toNat).length : Int))))))) 48))))] = List.map byteT (List.set (List.set (List.set (List.set (List.set (List.set (List.set x19 56 (IntKind.wrap .u8 ((bShr .u64 (IntKind.wrap .u64 ((8 : Int) * (IntKind.wrap .u64 (a0.2 + (IntKind.wrap .u64 (((a1.take (if (63 : Int) < (a1.length : Int) then (63 : Int) else (a1.length : Int)).toNat).length : Int))))))) 0)))) 57 (IntKind.wrap .u8 ((bShr .u64 (IntKind.wrap .u64 ((8 : Int) * (IntKind.wrap .u64 (a0.2 + (IntKind.wrap .u64 (((a1.take (if (63 : Int) < (a1.length : Int) then (63 : Int) else (a1.length : Int)).toNat).length : Int))))))) 8)))) 58 (IntKind.wrap .u8 ((bShr .u64 (IntKind.wrap .u64 ((8 : Int) * (IntKind.wrap .u64 (a0.2 + (IntKind.wrap .u64 (((a1.take (if (63 : Int) < (a1.length : Int) then (63 : Int) else (a1.length : Int)).toNat).length : Int))))))) 16)))) 59 (IntKind.wrap .u8 ((bShr .u64 (IntKind.wrap .u64 ((8 : Int) * (IntKind.wrap .u64 (a0.2 + (IntKind.wrap .u64 (((a1.take (if (63 : Int) < (a1.length : Int) then (63 : Int) else (a1.length : Int)).toNat).length : Int))))))) 24)))) 60 (IntKind.wrap .u8 ((bShr .u64 (IntKind.wrap .u64 ((8 : Int) * (IntKind.wrap .u64 (a0.2 + (IntKind.wrap .u64 (((a1.take (if (63 : Int) < (a1.length : Int) then (63 : Int) else (a1.length : Int)).toNat).length : Int))))))) 32)))) 61 (IntKind.wrap .u8 ((bShr .u64 (IntKind.wrap .u64 ((8 : Int) * (IntKind.wrap .u64 (a0.2 + (IntKind.wrap .u64 (((a1.take (if (63 : Int) < (a1.length : Int) then (63 : Int) else (a1.length : Int)).toNat).length : Int))))))) 40)))) 62 (IntKind.wrap .u8 ((bShr .u64 (IntKind.wrap .u64 ((8 : Int) * (IntKind.wrap .u64 (a0.2 + (IntKind.wrap .u64 (((a1.take (if (63 : Int) < (a1.length : Int) then (63 : Int) else (a1.length : Int)).toNat).length : Int))))))) 48)))) := patch_map byteT (l := (List.set (List.set (List.set (List.set (List.set (List.set x19 56 (IntKind.wrap .u8 ((bShr .u64 (IntKind.wrap .u64 ((8 : Int) * (IntKind.wrap .u64 (a0.2 + (IntKind.wrap .u64 (((a1.take (if (63 : Int) < (a1.length : Int) then (63 : Int) else (a1.length : Int)).toNat).length : Int))))))) 0)))) 57 (IntKind.wrap .u8 ((bShr .u64 (IntKind.wrap .u64 ((8 : Int) * (IntKind.wrap .u64 (a0.2 + (IntKind.wrap .u64 (((a1.take (if (63 : Int) < (a1.length : Int) then (63 : Int) else (a1.length : Int)).toNat).length : Int))))))) 8)))) 58 (IntKind.wrap .u8 ((bShr .u64 (IntKind.wrap .u64 ((8 : Int) * (IntKind.wrap .u64 (a0.2 + (IntKind.wrap .u64 (((a1.take (if (63 : Int) < (a1.length : Int) then (63 : Int) else (a1.length : Int)).toNat).length : Int))))))) 16)))) 59 (IntKind.wrap .u8 ((bShr .u64 (IntKind.wrap .u64 ((8 : Int) * (IntKind.wrap .u64 (a0.2 + (IntKind.wrap .u64 (((a1.take (if (63 : Int) < (a1.length : Int) then (63 : Int) else (a1.length : Int)).toNat).length : Int))))))) 24)))) 60 (IntKind.wrap .u8 ((bShr .u64 (IntKind.wrap .u64 ((8 : Int) * (IntKind.wrap .u64 (a0.2 + (IntKind.wrap .u64 (((a1.take (if (63 : Int) < (a1.length : Int) then (63 : Int) else (a1.length : Int)).toNat).length : Int))))))) 32)))) 61 (IntKind.wrap .u8 ((bShr .u64 (IntKind.wrap .u64 ((8 : Int) * (IntKind.wrap .u64 (a0.2 + (IntKind.wrap .u64 (((a1.take (if (63 : Int) < (a1.length : Int) then (63 : Int) else (a1.length : Int)).toNat).length : Int))))))) 40))))) (i := 62) (v := (IntKind.wrap .u8 ((bShr .u64 (IntKind.wrap .u64 ((8 : Int) * (IntKind.wrap .u64 (a0.2 + (IntKind.wrap .u64 (((a1.take (if (63 : Int) < (a1.length : Int) then (63 : Int) else (a1.length : Int)).toNat).length : Int))))))) 48)))) (by first | assumption | omega | (simp only [List.length_set] at *; omega))
   try simp -implicitDefEqProofs (maxSteps := 4000000) (disch := first | omega | decide | (simp only [go_sem]; omega)) only [go_sem, ↓reduceIte, e33]
   repeat (with_reducible refine And.intro (by first | assumption | omega | (simp; done) | (simp; omega)) ?_)
   refine toEnd hC ?_
   refine endX_blk ?_
   refine endX_seq ?_
   refine runX_regionC fun C hC => ?_
   try simp -implicitDefEqProofs (maxSteps := 4000000) (disch := first | omega | decide | (simp only [go_sem]; omega)) only [go_sem, ↓reduceIte]
   repeat (with_reducible refine And.intro (by first | assumption | omega | (simp; done) | (simp; omega)) ?_)
   refine toEnd hC ?_
   refine endX_lp ?_
   refine runX_seq ?_
   refine runX_regionC fun C hC => ?_
   try simp -implicitDefEqProofs (maxSteps := 4000000) (disch := first | omega | decide | (simp only [go_sem]; omega)) only [go_sem, ↓reduceIte]
   repeat (with_reducible refine And.intro (by first | assumption | omega | (simp; done) | (simp; omega)) ?_)
   refine toEnd hC ?_
   refine endX_seq ?_
   refine runX_seq ?_
   refine runX_condT rfl rfl ?_
   refine runX_skip ?_
   refine endX_seq ?_
   refine runX_seq ?_
   refine runX_block ?_
   refine runX_seq ?_
   refine runX_regionC fun C hC => ?_
   try simp -implicitDefEqProofs (maxSteps := 4000000) (disch := first | omega | decide | (simp only [go_sem]; omega)) only [go_sem, ↓reduceIte]
   repeat (with_reducible refine And.intro (by first | assumption | omega | (simp; done) | (simp; omega)) ?_)
   refine toEnd hC ?_
   refine endX_seq ?_
   refine runX_regionC fun C hC => ?_
   obtain ⟨g34, h⟩ := grd_some h
   have e35 : patchT (List.map byteT (List.set (List.set (List.set (List.set (List.set (List.set (List.set x19 56 (IntKind.wrap .u8 ((bShr .u64 (IntKind.wrap .u64 ((8 : Int) * (IntKind.wrap .u64 (a0.2 + (IntKind.wrap .u64 (((a1.take (if (63 : Int) < (a1.length : Int) then (63 : Int) else (a1.length : Int)).toNat).length : Int))))))) 0)))) 57 (IntKind.wrap .u8 ((bShr .u64 (IntKind.wrap .u64 ((8 : Int) * (IntKind.wrap .u64 (a0.2 + (IntKind.wrap .u64 (((a1.take (if (63 : Int) < (a1.length : Int) then (63 : Int) else (a1.length : Int)).toNat).length : Int))))))) 8)))) 58 (IntKind.wrap .u8 ((bShr .u64 (IntKind.wrap .u64 ((8 : Int) * (IntKind.wrap .u64 (a0.2 + (IntKind.wrap .u64 (((a1.take (if (63 : Int) < (a1.length : Int) then (63 : Int) else (a1.length : Int)).toNat).length : Int))))))) 16)))) 59 (IntKind.wrap .u8 ((bShr .u64 (IntKind.wrap .u64 ((8 : Int) * (IntKind.wrap .u64 (a0.2 + (IntKind.wrap .u64 (((a1.take (if (63 : Int) < (a1.length : Int) then (63 : Int) else (a1.length : Int)).toNat).length : Int))))))) 24)))) 60 (IntKind.wrap .u8 ((bShr .u64 (IntKind.wrap .u64 ((8 : Int) * (IntKind.wrap .u64 (a0.2 + (IntKind.wrap .u64 (((a1.take (if (63 : Int) < (a1.length : Int) then (63 : Int) else (a1.length : Int)).toNat).length : Int))))))) 32)))) 61 (IntKind.wrap .u8 ((bShr .u64 (IntKind.wrap .u64 ((8 : Int) * (IntKind.wrap .u64 (a0.2 + (IntKind.wrap .u64 (((a1.take (if (63 : Int) < (a1.length : Int) then (63 : Int) else (a1.length : Int)).toNat).length : Int))))))) 40)))) 62 (IntKind.wrap .u8 ((bShr .u64 (IntKind.wrap .u64 ((8 : Int) * (IntKind.wrap .u64 (a0.2 + (IntKind.wrap .u64 (((a1.take (if (63 : Int) < (a1.length : Int) then (63 : Int) else (a1.length : Int)).toNat).length : Int))))))) 48))))) 63 [.imm (.int .u8 (IntKind.wrap .u8 ((bShr .u64 (IntKind.wrap .u64 ((8 : Int) * (IntKind.wrap .u64 (a0.2 + (IntKind.wrap .u64 (((a1.take (if (63 : Int) < (a1.length : Int) then (63 : Int) else (a1.length : Int)).toNat).length : Int))))))) 56))))] = List.map byteT (List.set (List.set (List.set (List.set (List.set (List.set (List.set (List.set x19 56 (IntKind.wrap .u8 ((bShr .u64 (IntKind.wrap .u64 ((8 : Int) * (IntKind.wrap .u64 (a0.2 + (IntKind.wrap .u64 (((a1.take (if (63 : Int) < (a1.length : Int) then (63 : Int) else (a1.length : Int)).toNat).length : Int))))))) 0)))) 57 (IntKind.wrap .u8 ((bShr .u64 (IntKind.wrap .u64 ((8 : Int) * (IntKind.wrap .u64 (a0.2 + (IntKind.wrap .u64 (((a1.take (if (63 : Int) < (a1.length : Int) then (63 : Int) else (a1.length : Int)).toNat).length : Int))))))) 8)))) 58 (IntKind.wrap .u8 ((bShr .u64 (IntKind.wrap .u64 ((8 : Int) * (IntKind.wrap .u64 (a0.2 + (IntKind.wrap .u64 (((a1.take (if (63 : Int) < (a1.length : Int) then (63 : Int) else (a1.length : Int)).toNat).length : Int))))))) 16)))) 59 (IntKind.wrap .u8 ((bShr .u64 (IntKind.wrap .u64 ((8 : Int) * (IntKind.wrap .u64 (a0.2 + (IntKind.wrap .u64 (((a1.take (if (63 : Int) < (a1.length : Int) then (63 : Int) else (a1.length : Int)).toNat).length : Int))))))) 24)))) 60 (IntKind.wrap .u8 ((bShr .u64 (IntKind.wrap .u64 ((8 : Int) * (IntKind.wrap .u64 (a0.2 + (IntKind.wrap .u64 (((a1.take (if (63 : Int) < (a1.length : Int) then (63 : Int) else (a1.length : Int)).toNat).length : Int))))))) 32)))) 61 (IntKind.wrap .u8 ((bShr .u64 (IntKind.wrap .u64 ((8 : Int) * (IntKind.wrap .u64 (a0.2 + (IntKind.wrap .u64 (((a1.take (if (63 : Int) < (a1.length : Int) then (63 : Int) else (a1.length : Int)).toNat).length : Int))))))) 40)))) 62 (IntKind.wrap .u8 ((bShr .u64 (IntKind.wrap .u64 ((8 : Int) * (IntKind.wrap .u64 (a0.2 + (IntKind.wrap .u64 (((a1.take (if (63 : Int) < (a1.length : Int) then (63 : Int) else (a1.length : Int)).toNat).length : Int))))))) 48)))) 63 (IntKind.wrap .u8 ((bShr .u64 (IntKind.wrap .u64 ((8 : Int) * (IntKind.wrap .u64 (a0.2 + (IntKind.wrap .u64 (((a1.take (if (63 : Int) < (a1.length : Int) then (63 : Int) else (a1.length : Int)).toNat).length : Int))))))) 56)))) := patch_map byteT (l := (List.set (List.set (List.set (List.set (List.set (List.set (List.set x19 56 (IntKind.wrap .u8 ((bShr .u64 (IntKind.wrap .u64 ((8 : Int) * (IntKind.wrap .u64 (a0.2 + (IntKind.wrap .u64 (((a1.take (if (63 : Int) < (a1.length : Int) then (63 : Int) else (a1.length : Int)).toNat).length : Int))))))) 0)))) 57 (IntKind.wrap .u8 ((bShr .u64 (IntKind.wrap .u64 ((8 : Int) * (IntKind.wrap .u64 (a0.2 + (IntKind.wrap .u64 (((a1.take (if (63 : Int) < (a1.length : Int) then (63 : Int) else (a1.length : Int)).toNat).length : Int))))))) 8)))) 58 (IntKind.wrap .u8 ((bShr .u64 (IntKind.wrap .u64 ((8 : Int) * (IntKind.wrap .u64 (a0.2 + (IntKind.wrap .u64 (((a1.take (if (63 : Int) < (a1.length : Int) then (63 : Int) else (a1.length : Int)).toNat).length : Int))))))) 16)))) 59 (IntKind.wrap .u8 ((bShr .u64 (IntKind.wrap .u64 ((8 : Int) * (IntKind.wrap .u64 (a0.2 + (IntKind.wrap .u64 (((a1.take (if (63 : Int) < (a1.length : Int) then (63 : Int) else (a1.length : Int)).toNat).length : Int))))))) 24)))) 60 (IntKind.wrap .u8 ((bShr .u64 (IntKind.wrap .u64 ((8 : Int) * (IntKind.wrap .u64 (a0.2 + (IntKind.wrap .u64 (((a1.take (if (63 : Int) < (a1.length : Int) then (63 : Int) else (a1.length : Int)).toNat).length : Int))))))) 32)))) 61 (IntKind.wrap .u8 ((bShr .u64 (IntKind.wrap .u64 ((8 : Int) * (IntKind.wrap .u64 (a0.2 + (IntKind.wrap .u64 (((a1.take (if (63 : Int) < (a1.length : Int) then (63 : Int) else (a1.length : Int)).toNat).length : Int))))))) 40)))) 62 (IntKind.wrap .u8 ((bShr .u64 (IntKind.wrap .u64 ((8 : Int) * (IntKind.wrap .u64 (a0.2 + (IntKind.wrap .u64 (((a1.take (if (63 : Int) < (a1.length : Int) then (63 : Int) else (a1.length : Int)).toNat).length : Int))))))) 48))))) (i := 63) (v := (IntKind.wrap .u8 ((bShr .u64 (IntKind.wrap .u64 ((8 : Int) * (IntKind.wrap .u64 (a0.2 + (IntKind.wrap .u64 (((a1.take (if (63 : Int) < (a1.length : Int) then (63 : Int) else (a1.length : Int)).toNat).length : Int))))))) 56)))) (by first | assumption | omega | (simp only [List.length_set] at *; omega))
   try simp -implicitDefEqProofs (maxSteps := 4000000) (disch := first | omega | decide | (simp only [go_sem]; omega)) only [go_sem, ↓reduceIte, e35]
   repeat (with_reducible refine And.intro (by first | assumption | omega | (simp; done) | (simp; omega)) ?_)
   refine toEnd hC ?_
   refine endX_blk ?_
   refine endX_seq ?_
   refine runX_regionC fun C hC => ?_
   try simp -implicitDefEqProofs (maxSteps := 4000000) (disch := first | omega | decide | (simp only [go_sem]; omega)) only [go_sem, ↓reduceIte]
   repeat (with_reducible refine And.intro (by first | assumption | omega | (simp; done) | (simp; omega)) ?_)
   refine toEnd hC ?_
   refine endX_lp ?_
   refine runX_seq ?_
   refine runX_regionC fun C hC => ?_
   try simp -implicitDefEqProofs (maxSteps := 4000000) (disch := first | omega | decide | (simp only [go_sem]; omega)) only [go_sem, ↓reduceIte]
   repeat (with_reducible refine And.intro (by first | assumption | omega | (simp; done) | (simp; omega)) ?_)
   refine toEnd hC ?_
   refine endX_seq ?_
   refine runX_seq ?_
   refine runX_condF rfl rfl ?_
   refine runX_exit ?_
   refine endX_seqE ?_
   refine endX_lpE ?_
   refine endX_blkE ?_
   refine endX_seq ?_
   refine runX_seq ?_
   refine runX_regionC fun C hC => ?_
   obtain ⟨g36, h⟩ := grd_some h
   obtain ⟨v37, h37, h⟩ := bnd_some h
   try simp -implicitDefEqProofs (maxSteps := 4000000) (disch := first | omega | decide | (simp only [go_sem]; omega)) only [go_sem, ↓reduceIte]
   repeat (with_reducible refine And.intro (by first | assumption | omega | (simp; done) | (simp; omega)) ?_)
   refine callG_X (by first | rfl | (simp only [go_sem]; done) | (simp only [closedL, closedT, Bool.and_true]; exact closedL_map _ (fun _ => by first | rfl | (simp only [go_sem]; done)) _)) (F82_ok n ([x14, x15, x16, x17], x18) ((List.set (List.set (List.set (List.set (List.set (List.set (List.set (List.set x19 56 (IntKind.wrap .u8 ((bShr .u64 (IntKind.wrap .u64 ((8 : Int) * (IntKind.wrap .u64 (a0.2 + (IntKind.wrap .u64 (((a1.take (if (63 : Int) < (a1.length : Int) then (63 : Int) else (a1.length : Int)).toNat).length : Int))))))) 0)))) 57 (IntKind.wrap .u8 ((bShr .u64 (IntKind.wrap .u64 ((8 : Int) * (IntKind.wrap .u64 (a0.2 + (IntKind.wrap .u64 (((a1.take (if (63 : Int) < (a1.length : Int) then (63 : Int) else (a1.length : Int)).toNat).length : Int))))))) 8)))) 58 (IntKind.wrap .u8 ((bShr .u64 (IntKind.wrap .u64 ((8 : Int) * (IntKind.wrap .u64 (a0.2 + (IntKind.wrap .u64 (((a1.take (if (63 : Int) < (a1.length : Int) then (63 : Int) else (a1.length : Int)).toNat).length : Int))))))) 16)))) 59 (IntKind.wrap .u8 ((bShr .u64 (IntKind.wrap .u64 ((8 : Int) * (IntKind.wrap .u64 (a0.2 + (IntKind.wrap .u64 (((a1.take (if (63 : Int) < (a1.length : Int) then (63 : Int) else (a1.length : Int)).toNat).length : Int))))))) 24)))) 60 (IntKind.wrap .u8 ((bShr .u64 (IntKind.wrap .u64 ((8 : Int) * (IntKind.wrap .u64 (a0.2 + (IntKind.wrap .u64 (((a1.take (if (63 : Int) < (a1.length : Int) then (63 : Int) else (a1.length : Int)).toNat).length : Int))))))) 32)))) 61 (IntKind.wrap .u8 ((bShr .u64 (IntKind.wrap .u64 ((8 : Int) * (IntKind.wrap .u64 (a0.2 + (IntKind.wrap .u64 (((a1.take (if (63 : Int) < (a1.length : Int) then (63 : Int) else (a1.length : Int)).toNat).length : Int))))))) 40)))) 62 (IntKind.wrap .u8 ((bShr .u64 (IntKind.wrap .u64 ((8 : Int) * (IntKind.wrap .u64 (a0.2 + (IntKind.wrap .u64 (((a1.take (if (63 : Int) < (a1.length : Int) then (63 : Int) else (a1.length : Int)).toNat).length : Int))))))) 48)))) 63 (IntKind.wrap .u8 ((bShr .u64 (IntKind.wrap .u64 ((8 : Int) * (IntKind.wrap .u64 (a0.2 + (IntKind.wrap .u64 (((a1.take (if (63 : Int) < (a1.length : Int) then (63 : Int) else (a1.length : Int)).toNat).length : Int))))))) 56)))).take 64) _ h37) (by repeat (first | exact leL_refl _ | refine leL_cons (by first | exact leT_refl _ | exact leT_virt | exact leT_junk _ | exact leT_sl | exact leT_sln | exact leT_nil | (refine leT_agg (by repeat (first | exact leL_refl _ | refine leL_cons (by first | exact leT_refl _ | exact leT_sl | exact leT_sln | exact leT_nil) ?_)))) ?_)) ?_
   try simp -implicitDefEqProofs (maxSteps := 4000000) (disch := first | omega | decide | (simp only [go_sem]; omega)) only [go_sem, ↓reduceIte]
   repeat (with_reducible refine And.intro (by first | assumption | omega | (simp; done) | (simp; omega)) ?_)
   refine toEnd hC ?_
   refine endX_seq ?_
   refine runX_seq ?_
   refine runX_regionC fun C hC => ?_
   try simp -implicitDefEqProofs (maxSteps := 4000000) (disch := first | omega | decide | (simp only [go_sem]; omega)) only [go_sem, ↓reduceIte]
   repeat (with_reducible refine And.intro (by first | assumption | omega | (simp; done) | (simp; omega)) ?_)
   refine toEnd hC ?_
   refine endX_seq ?_
   refine runX_seq ?_
   refine runX_seq ?_
   refine runX_regionC fun C hC => ?_
   try simp -implicitDefEqProofs (maxSteps := 4000000) (disch := first | omega | decide | (simp only [go_sem]; omega)) only [go_sem, ↓reduceIte]
   repeat (with_reducible refine And.intro (by first | assumption | omega | (simp; done) | (simp; omega)) ?_)
   refine toEnd hC ?_
   refine endX_seq ?_
   refine runX_block ?_
   refine runX_unroll 16 ?_
   refine runX_seq ?_
   refine runX_regionC fun C hC => ?_
   try simp -implicitDefEqProofs (maxSteps := 4000000) (disch := first | omega | decide | (simp only [go_sem]; omega)) only [go_sem, ↓reduceIte]
   repeat (with_reducible refine And.intro (by first | assumption | omega | (simp; done) | (simp; omega)) ?_)
   refine toEnd hC ?_
   refine endX_seq ?_
   refine runX_seq ?_
   refine runX_condT rfl rfl ?_
   refine runX_skip ?_
   refine endX_seq ?_
   refine runX_seq ?_
   refine runX_block ?_
   refine runX_seq ?_
   refine runX_regionC fun C hC => ?_
   try simp -implicitDefEqProofs (maxSteps := 4000000) (disch := first | omega | decide | (simp only [go_sem]; omega)) only [go_sem, ↓reduceIte]
   repeat (with_reducible refine And.intro (by first | assumption | omega | (simp; done) | (simp; omega)) ?_)
   refine toEnd hC ?_
   refine endX_seq ?_
   refine runX_regionC fun C hC => ?_
   try simp -implicitDefEqProofs (maxSteps := 4000000) (disch := first | omega | decide | (simp only [go_sem]; omega)) only [go_sem, ↓reduceIte]
   repeat (with_reducible refine And.intro (by first | assumption | omega | (simp; done) | (simp; omega)) ?_)
   refine toEnd hC ?_
   refine endX_blk ?_
   refine endX_seq ?_
   refine runX_regionC fun C hC => ?_
   try simp -implicitDefEqProofs (maxSteps := 4000000) (disch := first | omega | decide | (simp only [go_sem]; omega)) only [go_sem, ↓reduceIte]
   repeat (with_reducible refine And.intro (by first | assumption | omega | (simp; done) | (simp; omega)) ?_)
   refine toEnd hC ?_
   refine endX_lp ?_
   refine runX_seq ?_
   refine runX_regionC fun C hC => ?_
   try simp -implicitDefEqProofs (maxSteps := 4000000) (disch := first | omega | decide | (simp only [go_sem]; omega)) only [go_sem, ↓reduceIte]
   repeat (with_reducible refine And.intro (by first | assumption | omega | (simp; done) | (simp; omega)) ?_)
   refine toEnd hC ?_
   refine endX_seq ?_
   refine runX_seq ?_
   refine runX_condT rfl rfl ?_
   refine runX_skip ?_
   refine endX_seq ?_
   refine runX_seq ?_
   refine runX_block ?_
   refine runX_seq ?_
   refine runX_regionC fun C hC => ?_
   try simp -implicitDefEqProofs (maxSteps := 4000000) (disch := first | omega | decide | (simp only [go_sem]; omega)) only [go_sem, ↓reduceIte]
   repeat (with_reducible refine And.intro (by first | assumption | omega | (simp; done) | (simp; omega)) ?_)
   refine toEnd hC ?_
   refine endX_seq ?_
   refine runX_regionC fun C hC => ?_
   try simp -implicitDefEqProofs (maxSteps := 4000000) (disch := first | omega | decide | (simp only [go_sem]; omega)) only [go_sem, ↓reduceIte]
   repeat (with_reducible refine And.intro (by first | assumption | omega | (simp; done) | (simp; omega)) ?_)
   refine toEnd hC ?_
   refine endX_blk ?_
   refine endX_seq ?_
   refine runX_regionC fun C hC => ?_
   try simp -implicitDefEqProofs (maxSteps := 4000000) (disch := first | omega | decide | (simp only [go_sem]; omega)) only [go_sem, ↓reduceIte]
   repeat (with_reducible refine And.intro (by first | assumption | omega | (simp; done) | (simp; omega)) ?_)
   refine toEnd hC ?_
   refine endX_lp ?_
   refine runX_seq ?_
   refine runX_regionC fun C hC => ?_
   try simp -implicitDefEqProofs (maxSteps := 4000000) (disch := first | omega | decide | (simp only [go_sem]; omega)) only [go_sem, ↓reduceIte]
   repeat (with_reducible refine And.intro (by first | assumption | omega | (simp; done) | (simp; omega)) ?_)
   refine toEnd hC ?_
   refine endX_seq ?_
   refine runX_seq ?_
   refine runX_condT rfl rfl ?_
   refine runX_skip ?_
   refine endX_seq ?_
   refine runX_seq ?_
   refine runX_block ?_
   refine runX_seq ?_
   refine runX_regionC fun C hC => ?_
   try simp -implicitDefEqProofs (maxSteps := 4000000) (disch := first | omega | decide | (simp only [go_sem]; omega)) only [go_sem, ↓reduceIte]
   repeat (with_reducible refine And.intro (by first | assumption | omega | (simp; done) | (simp; omega)) ?_)
   refine toEnd hC ?_
   refine endX_seq ?_
   refine runX_regionC fun C hC => ?_
   try simp -implicitDefEqProofs (maxSteps := 4000000) (disch := first | omega | decide | (simp only [go_sem]; omega)) only [go_sem, ↓reduceIte]
   repeat (with_reducible refine And.intro (by first | assumption | omega | (simp; done) | (simp; omega)) ?_)
   refine toEnd hC ?_
   refine endX_blk ?_
   refine endX_seq ?_
   refine runX_regionC fun C hC => ?_
   try simp -implicitDefEqProofs (maxSteps := 4000000) (disch := first | omega | decide | (simp only [go_sem]; omega)) only [go_sem, ↓reduceIte]
   repeat (with_reducible refine And.intro (by first | assumption | omega | (simp; done) | (simp; omega)) ?_)
   refine toEnd hC ?_
   refine endX_lp ?_
   refine runX_seq ?_
   refine runX_regionC fun C hC => ?_
   try simp -implicitDefEqProofs (maxSteps := 4000000) (disch := first | omega | decide | (simp only [go_sem]; omega)) only [go_sem, ↓reduceIte]
   repeat (with_reducible refine And.intro (by first | assumption | omega | (simp; done) | (simp; omega)) ?_)
   refine toEnd hC ?_
   refine endX_seq ?_
   refine runX_seq ?_
   refine runX_condT rfl rfl ?_
   refine runX_skip ?_
   refine endX_seq ?_
   refine runX_seq ?_
   refine runX_block ?_
   refine runX_seq ?_
   refine runX_regionC fun C hC => ?_
   try simp -implicitDefEqProofs (maxSteps := 4000000) (disch := first | omega | decide | (simp only [go_sem]; omega)) only [go_sem, ↓reduceIte]
   repeat (with_reducible refine And.intro (by first | assumption | omega | (simp; done) | (simp; omega)) ?_)
   refine toEnd hC ?_
   refine endX_seq ?_
   refine runX_regionC fun C hC => ?_
   try simp -implicitDefEqProofs (maxSteps := 4000000) (disch := first | omega | decide | (simp only [go_sem]; omega)) only [go_sem, ↓reduceIte]
   repeat (with_reducible refine And.intro (by first | assumption | omega | (simp; done) | (simp; omega)) ?_)
   refine toEnd hC ?_
   refine endX_blk ?_
   refine endX_seq ?_
   refine runX_regionC fun C hC => ?_
   try simp -implicitDefEqProofs (maxSteps := 4000000) (disch := first | omega | decide | (simp only [go_sem]; omega)) only [go_sem, ↓reduceIte]
   repeat (with_reducible refine And.intro (by first | assumption | omega | (simp; done) | (simp; omega)) ?_)
   refine toEnd hC ?_
   refine endX_lp ?_
   refine runX_seq ?_
   refine runX_regionC fun C hC => ?_
   try simp -implicitDefEqProofs (maxSteps := 4000000) (disch := first | omega | decide | (simp only [go_sem]; omega)) only [go_sem, ↓reduceIte]
   repeat (with_reducible refine And.intro (by first | assumption | omega | (simp; done) | (simp; omega)) ?_)
   refine toEnd hC ?_
   refine endX_seq ?_
   refine runX_seq ?_
   refine runX_condT rfl rfl ?_
   refine runX_skip ?_
   refine endX_seq ?_
   refine runX_seq ?_
   refine runX_block ?_
   refine runX_seq ?_
   refine runX_regionC fun C hC => ?_
   try simp -implicitDefEqProofs (maxSteps := 4000000) (disch := first | omega | decide | (simp only [go_sem]; omega)) only [go_sem, ↓reduceIte]
   repeat (with_reducible refine And.intro (by first | assumption | omega | (simp; done) | (simp; omega)) ?_)
   refine toEnd hC ?_
   refine endX_seq ?_
   refine runX_regionC fun C hC => ?_
   try simp -implicitDefEqProofs (maxSteps := 4000000) (disch := first | omega | decide | (simp only [go_sem]; omega)) only [go_sem, ↓reduceIte]
   repeat (with_reducible refine And.intro (by first | assumption | omega | (simp; done) | (simp; omega)) ?_)
   refine toEnd hC ?_
   refine endX_blk ?_
   refine endX_seq ?_
   refine runX_regionC fun C hC => ?_
   try simp -implicitDefEqProofs (maxSteps := 4000000) (disch := first | omega | decide | (simp only [go_sem]; omega)) only [go_sem, ↓reduceIte]
   repeat (with_reducible refine And.intro (by first | assumption | omega | (simp; done) | (simp; omega)) ?_)
   refine toEnd hC ?_
   refine endX_lp ?_
   refine runX_seq ?_
   refine runX_regionC fun C hC => ?_
   try simp -implicitDefEqProofs (maxSteps := 4000000) (disch := first | omega | decide | (simp only [go_sem]; omega)) only [go_sem, ↓reduceIte]
   repeat (with_reducible refine And.intro (by first | assumption | omega | (simp; done) | (simp; omega)) ?_)
   refine toEnd hC ?_
   refine endX_seq ?_
   refine runX_seq ?_
   refine runX_condT rfl rfl ?_
   refine runX_skip ?_
   refine endX_seq ?_
   refine runX_seq ?_
   refine runX_block ?_
   refine runX_seq ?_
   refine runX_regionC fun C hC => ?_
   try simp -implicitDefEqProofs (maxSteps := 4000000) (disch := first | omega | decide | (simp only [go_sem]; omega)) only [go_sem, ↓reduceIte]
   repeat (with_reducible refine And.intro (by first | assumption | omega | (simp; done) | (simp; omega)) ?_)
   refine toEnd hC ?_
   refine endX_seq ?_
   refine runX_regionC fun C hC => ?_
   try simp -implicitDefEqProofs (maxSteps := 4000000) (disch := first | omega | decide | (simp only [go_sem]; omega)) only [go_sem, ↓reduceIte]
   repeat (with_reducible refine And.intro (by first | assumption | omega | (simp; done) | (simp; omega)) ?_)
   refine toEnd hC ?_
   refine endX_blk ?_
   refine endX_seq ?_
   refine runX_regionC fun C hC => ?_
   try simp -implicitDefEqProofs (maxSteps := 4000000) (disch := first | omega | decide | (simp only [go_sem]; omega)) only [go_sem, ↓reduceIte]
   repeat (with_reducible refine And.intro (by first | assumption | omega | (simp; done) | (simp; omega)) ?_)
   refine toEnd hC ?_
   refine endX_lp ?_
   refine runX_seq ?_
   refine runX_regionC fun C hC => ?_
   try simp -implicitDefEqProofs (maxSteps := 4000000) (disch := first | omega | decide | (simp only [go_sem]; omega)) only [go_sem, ↓reduceIte]
   repeat (with_reducible refine And.intro (by first | assumption | omega | (simp; done) | (simp; omega)) ?_)
   refine toEnd hC ?_
   refine endX_seq ?_
   refine runX_seq ?_
   refine runX_condT rfl rfl ?_
   refine runX_skip ?_
   refine endX_seq ?_
   refine runX_seq ?_
   refine runX_block ?_
   refine runX_seq ?_
   refine runX_regionC fun C hC => ?_
   try simp -implicitDefEqProofs (maxSteps := 4000000) (disch := first | omega | decide | (simp only [go_sem]; omega)) only [go_sem, ↓reduceIte]
   repeat (with_reducible refine And.intro (by first | assumption | omega | (simp; done) | (simp; omega)) ?_)
   refine toEnd hC ?_
   refine endX_seq ?_
   refine runX_regionC fun C hC => ?_
   try simp -implicitDefEqProofs (maxSteps := 4000000) (disch := first | omega | decide | (simp only [go_sem]; omega)) only [go_sem, ↓reduceIte]
   repeat (with_reducible refine And.intro (by first | assumption | omega | (simp; done) | (simp; omega)) ?_)
   refine toEnd hC ?_
   refine endX_blk ?_
   refine endX_seq ?_
   refine runX_regionC fun C hC => ?_
   try simp -implicitDefEqProofs (maxSteps := 4000000) (disch := first | omega | decide | (simp only [go_sem]; omega)) only [go_sem, ↓reduceIte]
   repeat (with_reducible refine And.intro (by first | assumption | omega | (simp; done) | (simp; omega)) ?_)
   refine toEnd hC ?_
   refine endX_lp ?_
   refine runX_seq ?_
   refine runX_regionC fun C hC => ?_
   try simp -implicitDefEqProofs (maxSteps := 4000000) (disch := first | omega | decide | (simp only [go_sem]; omega)) only [go_sem, ↓reduceIte]
   repeat (with_reducible refine And.intro (by first | assumption | omega | (simp; done) | (simp; omega)) ?_)
   refine toEnd hC ?_
   refine endX_seq ?_
   refine runX_seq ?_
   refine runX_condT rfl rfl ?_
   refine runX_skip ?_
   refine endX_seq ?_
   refine runX_seq ?_
   refine runX_block ?_
   refine runX_seq ?_
   refine runX_regionC fun C hC => ?_
   try simp -implicitDefEqProofs (maxSteps := 4000000) (disch := first | omega | decide | (simp only [go_sem]; omega)) only [go_sem, ↓reduceIte]
   repeat (with_reducible refine And.intro (by first | assumption | omega | (simp; done) | (simp; omega)) ?_)
   refine toEnd hC ?_
   refine endX_seq ?_
   refine runX_regionC fun C hC => ?_
   try simp -implicitDefEqProofs (maxSteps := 4000000) (disch := first | omega | decide | (simp only [go_sem]; omega)) only [go_sem, ↓reduceIte]
   repeat (with_reducible refine And.intro (by first | assumption | omega | (simp; done) | (simp; omega)) ?_)
   refine toEnd hC ?_
   refine endX_blk ?_
   refine endX_seq ?_
   refine runX_regionC fun C hC => ?_
   try simp -implicitDefEqProofs (maxSteps := 4000000) (disch := first | omega | decide | (simp only [go_sem]; omega)) only [go_sem, ↓reduceIte]
   repeat (with_reducible refine And.intro (by first | assumption | omega | (simp; done) | (simp; omega)) ?_)
   refine toEnd hC ?_
   refine endX_lp ?_
   refine runX_seq ?_
   refine runX_regionC fun C hC => ?_
   try simp -implicitDefEqProofs (maxSteps := 4000000) (disch := first | omega | decide | (simp only [go_sem]; omega)) only [go_sem, ↓reduceIte]
   repeat (with_reducible refine And.intro (by first | assumption | omega | (simp; done) | (simp; omega)) ?_)
   refine toEnd hC ?_
   refine endX_seq ?_
   refine runX_seq ?_
   refine runX_condT rfl rfl ?_
   refine runX_skip ?_
   refine endX_seq ?_
   refine runX_seq ?_
   refine runX_block ?_
   refine runX_seq ?_
   refine runX_regionC fun C hC => ?_
   try simp -implicitDefEqProofs (maxSteps := 4000000) (disch := first | omega | decide | (simp only [go_sem]; omega)) only [go_sem, ↓reduceIte]
   repeat (with_reducible refine And.intro (by first | assumption | omega | (simp; done) | (simp; omega)) ?_)
   refine toEnd hC ?_
   refine endX_seq ?_
   refine runX_regionC fun C hC => ?_
   try simp -implicitDefEqProofs (maxSteps := 4000000) (disch := first | omega | decide | (simp only [go_sem]; omega)) only [go_sem, ↓reduceIte]
   repeat (with_reducible refine And.intro (by first | assumption | omega | (simp; done) | (simp; omega)) ?_)
   refine toEnd hC ?_
   refine endX_blk ?_
   refine endX_seq ?_
   refine runX_regionC fun C hC => ?_
   try simp -implicitDefEqProofs (maxSteps := 4000000) (disch := first | omega | decide | (simp only [go_sem]; omega)) only [go_sem, ↓reduceIte]
   repeat (with_reducible refine And.intro (by first | assumption | omega | (simp; done) | (simp; omega)) ?_)
   refine toEnd hC ?_
   refine endX_lp ?_
   refine runX_seq ?_
   refine runX_regionC fun C hC => ?_
   try simp -implicitDefEqProofs (maxSteps := 4000000) (disch := first | omega | decide | (simp only [go_sem]; omega)) only [go_sem, ↓reduceIte]
   repeat (with_reducible refine And.intro (by first | assumption | omega | (simp; done) | (simp; omega)) ?_)
   refine toEnd hC ?_
   refine endX_seq ?_
   refine runX_seq ?_
   refine runX_condT rfl rfl ?_
   refine runX_skip ?_
   refine endX_seq ?_
   refine runX_seq ?_
   refine runX_block ?_
   refine runX_seq ?_
   refine runX_regionC fun C hC => ?_
   try simp -implicitDefEqProofs (maxSteps := 4000000) (disch := first | omega | decide | (simp only [go_sem]; omega)) only [go_sem, ↓reduceIte]
   repeat (with_reducible refine And.intro (by first | assumption | omega | (simp; done) | (simp; omega)) ?_)
   refine toEnd hC ?_
   refine endX_seq ?_
   refine runX_regionC fun C hC => ?_
   try simp -implicitDefEqProofs (maxSteps := 4000000) (disch := first | omega | decide | (simp only [go_sem]; omega)) only [go_sem, ↓reduceIte]
   repeat (with_reducible refine And.intro (by first | assumption | omega | (simp; done) | (simp; omega)) ?_)
   refine toEnd hC ?_
   refine endX_blk ?_
   refine endX_seq ?_
   refine runX_regionC fun C hC => ?_
   try simp -implicitDefEqProofs (maxSteps := 4000000) (disch := first | omega | decide | (simp only [go_sem]; omega)) only [go_sem, ↓reduceIte]
   repeat (with_reducible refine And.intro (by first | assumption | omega | (simp; done) | (simp; omega)) ?_)
   refine toEnd hC ?_
   refine endX_lp ?_
   refine runX_seq ?_
   refine runX_regionC fun C hC => ?_
   try simp -implicitDefEqProofs (maxSteps := 4000000) (disch := first | omega | decide | (simp only [go_sem]; omega)) only [go_sem, ↓reduceIte]
   repeat (with_reducible refine And.intro (by first | assumption | omega | (simp; done) | (simp; omega)) ?_)
   refine toEnd hC ?_
   refine endX_seq ?_
   refine runX_seq ?_
   refine runX_condT rfl rfl ?_
   refine runX_skip ?_
   refine endX_seq ?_
   refine runX_seq ?_
   refine runX_block ?_
   refine runX_seq ?_
   refine runX_regionC fun C hC => ?_
   try simp -implicitDefEqProofs (maxSteps := 4000000) (disch := first | omega | decide | (simp only [go_sem]; omega)) only [go_sem, ↓reduceIte]
   repeat (with_reducible refine And.intro (by first | assumption | omega | (simp; done) | (simp; omega)) ?_)
   refine toEnd hC ?_
   refine endX_seq ?_
   refine runX_regionC fun C hC => ?_
   try simp -implicitDefEqProofs (maxSteps := 4000000) (disch := first | omega | decide | (simp only [go_sem]; omega)) only [go_sem, ↓reduceIte]
   repeat (with_reducible refine And.intro (by first | assumption | omega | (simp; done) | (simp; omega)) ?_)
   refine toEnd hC ?_
   refine endX_blk ?_
   refine endX_seq ?_
   refine runX_regionC fun C hC => ?_
   try simp -implicitDefEqProofs (maxSteps := 4000000) (disch := first | omega | decide | (simp only [go_sem]; omega)) only [go_sem, ↓reduceIte]
   repeat (with_reducible refine And.intro (by first | assumption | omega | (simp; done) | (simp; omega)) ?_)
   refine toEnd hC ?_
   refine endX_lp ?_
   refine runX_seq ?_
   refine runX_regionC fun C hC => ?_
   try simp -implicitDefEqProofs (maxSteps := 4000000) (disch := first | omega | decide | (simp only [go_sem]; omega)) only [go_sem, ↓reduceIte]
   repeat (with_reducible refine And.intro (by first | assumption | omega | (simp; done) | (simp; omega)) ?_)
   refine toEnd hC ?_
   refine endX_seq ?_
   refine runX_seq ?_
   refine runX_condT rfl rfl ?_
   refine runX_skip ?_
   refine endX_seq ?_
   refine runX_seq ?_
   refine runX_block ?_
   refine runX_seq ?_
   refine runX_regionC fun C hC => ?_
   try simp -implicitDefEqProofs (maxSteps := 4000000) (disch := first | omega | decide | (simp only [go_sem]; omega)) only [go_sem, ↓reduceIte]
   repeat (with_reducible refine And.intro (by first | assumption | omega | (simp; done) | (simp; omega)) ?_)
   refine toEnd hC ?_
   refine endX_seq ?_
   refine runX_regionC fun C hC => ?_
   try simp -implicitDefEqProofs (maxSteps := 4000000) (disch := first | omega | decide | (simp only [go_sem]; omega)) only [go_sem, ↓reduceIte]
   repeat (with_reducible refine And.intro (by first | assumption | omega | (simp; done) | (simp; omega)) ?_)
   refine toEnd hC ?_
   refine endX_blk ?_
   refine endX_seq ?_
   refine runX_regionC fun C hC => ?_
   try simp -implicitDefEqProofs (maxSteps := 4000000) (disch := first | omega | decide | (simp only [go_sem]; omega)) only [go_sem, ↓reduceIte]
   repeat (with_reducible refine And.intro (by first | assumption | omega | (simp; done) | (simp; omega)) ?_)
   refine toEnd hC ?_
   refine endX_lp ?_
   refine runX_seq ?_
   refine runX_regionC fun C hC => ?_
   try simp -implicitDefEqProofs (maxSteps := 4000000) (disch := first | omega | decide | (simp only [go_sem]; omega)) only [go_sem, ↓reduceIte]
   repeat (with_reducible refine And.intro (by first | assumption | omega | (simp; done) | (simp; omega)) ?_)
   refine toEnd hC ?_
   refine endX_seq ?_
   refine runX_seq ?_
   refine runX_condT rfl rfl ?_
   refine runX_skip ?_
   refine endX_seq ?_
   refine runX_seq ?_
   refine runX_block ?_
   refine runX_seq ?_
   refine runX_regionC fun C hC => ?_
   try simp -implicitDefEqProofs (maxSteps := 4000000) (disch := first | omega | decide | (simp only [go_sem]; omega)) only [go_sem, ↓reduceIte]
   repeat (with_reducible refine And.intro (by first | assumption | omega | (simp; done) | (simp; omega)) ?_)
   refine toEnd hC ?_
   refine endX_seq ?_
   refine runX_regionC fun C hC => ?_
   try simp -implicitDefEqProofs (maxSteps := 4000000) (disch := first | omega | decide | (simp only [go_sem]; omega)) only [go_sem, ↓reduceIte]
   repeat (with_reducible refine And.intro (by first | assumption | omega | (simp; done) | (simp; omega)) ?_)
   refine toEnd hC ?_
   refine endX_blk ?_
   refine endX_seq ?_
   refine runX_regionC fun C hC => ?_
   try simp -implicitDefEqProofs (maxSteps := 4000000) (disch := first | omega | decide | (simp only [go_sem]; omega)) only [go_sem, ↓reduceIte]
   repeat (with_reducible refine And.intro (by first | assumption | omega | (simp; done) | (simp; omega)) ?_)
   refine toEnd hC ?_
   refine endX_lp ?_
   refine runX_seq ?_
   refine runX_regionC fun C hC => ?_
   try simp -implicitDefEqProofs (maxSteps := 4000000) (disch := first | omega | decide | (simp only [go_sem]; omega)) only [go_sem, ↓reduceIte]
   repeat (with_reducible refine And.intro (by first | assumption | omega | (simp; done) | (simp; omega)) ?_)
   refine toEnd hC ?_
   refine endX_seq ?_
   refine runX_seq ?_
   refine runX_condT rfl rfl ?_
   refine runX_skip ?_
   refine endX_seq ?_
   refine runX_seq ?_
   refine runX_block ?_
   refine runX_seq ?_
   refine runX_regionC fun C hC => ?_
   try simp -implicitDefEqProofs (maxSteps := 4000000) (disch := first | omega | decide | (simp only [go_sem]; omega)) only [go_sem, ↓reduceIte]
   repeat (with_reducible refine And.intro (by first | assumption | omega | (simp; done) | (simp; omega)) ?_)
   refine toEnd hC ?_
   refine endX_seq ?_
   refine runX_regionC fun C hC => ?_
   try simp -implicitDefEqProofs (maxSteps := 4000000) (disch := first | omega | decide | (simp only [go_sem]; omega)) only [go_sem, ↓reduceIte]
   repeat (with_reducible refine And.intro (by first | assumption | omega | (simp; done) | (simp; omega)) ?_)
   refine toEnd hC ?_
   refine endX_blk ?_
   refine endX_seq ?_
   refine runX_regionC fun C hC => ?_
   try simp -implicitDefEqProofs (maxSteps := 4000000) (disch := first | omega | decide | (simp only [go_sem]; omega)) only [go_sem, ↓reduceIte]
   repeat (with_reducible refine And.intro (by first | assumption | omega | (simp; done) | (simp; omega)) ?_)
   refine toEnd hC ?_
   refine endX_lp ?_
   refine runX_seq ?_
   refine runX_regionC fun C hC => ?_
   try simp -implicitDefEqProofs (maxSteps := 4000000) (disch := first | omega | decide | (simp only [go_sem]; omega)) only [go_sem, ↓reduceIte]
   repeat (with_reducible refine And.intro (by first | assumption | omega | (simp; done) | (simp; omega)) ?_)
   refine toEnd hC ?_
   refine endX_seq ?_
   refine runX_seq ?_
   refine runX_condT rfl rfl ?_
   refine runX_skip ?_
   refine endX_seq ?_
   refine runX_seq ?_
   refine runX_block ?_
   refine runX_seq ?_
   refine runX_regionC fun C hC => ?_
   try simp -implicitDefEqProofs (maxSteps := 4000000) (disch := first | omega | decide | (simp only [go_sem]; omega)) only [go_sem, ↓reduceIte]
   repeat (with_reducible refine And.intro (by first | assumption | omega | (simp; done) | (simp; omega)) ?_)
   refine toEnd hC ?_
   refine endX_seq ?_
   refine runX_regionC fun C hC => ?_
   try simp -implicitDefEqProofs (maxSteps := 4000000) (disch := first | omega | decide | (simp only [go_sem]; omega)) only [go_sem, ↓reduceIte]
   repeat (with_reducible refine And.intro (by first | assumption | omega | (simp; done) | (simp; omega)) ?_)
   refine toEnd hC ?_
   refine endX_blk ?_
   refine endX_seq ?_
   refine runX_regionC fun C hC => ?_
   try simp -implicitDefEqProofs (maxSteps := 4000000) (disch := first | omega | decide | (simp only [go_sem]; omega)) only [go_sem, ↓reduceIte]
   repeat (with_reducible refine And.intro (by first | assumption | omega | (simp; done) | (simp; omega)) ?_)
   refine toEnd hC ?_
   refine endX_lp ?_
   refine runX_seq ?_
   refine runX_regionC fun C hC => ?_
   try simp -implicitDefEqProofs (maxSteps := 4000000) (disch := first | omega | decide | (simp only [go_sem]; omega)) only [go_sem, ↓reduceIte]
   repeat (with_reducible refine And.intro (by first | assumption | omega | (simp; done) | (simp; omega)) ?_)
   refine toEnd hC ?_
   refine endX_seq ?_
   refine runX_seq ?_
   refine runX_condT rfl rfl ?_
   refine runX_skip ?_
   refine endX_seq ?_
   refine runX_seq ?_
   refine runX_block ?_
   refine runX_seq ?_
   refine runX_regionC fun C hC => ?_
   try simp -implicitDefEqProofs (maxSteps := 4000000) (disch := first | omega | decide | (simp only [go_sem]; omega)) only [go_sem, ↓reduceIte]
   repeat (with_reducible refine And.intro (by first | assumption | omega | (simp; done) | (simp; omega)) ?_)
   refine toEnd hC ?_
   refine endX_seq ?_
   refine runX_regionC fun C hC => ?_
   try simp -implicitDefEqProofs (maxSteps := 4000000) (disch := first | omega | decide | (simp only [go_sem]; omega)) only [go_sem, ↓reduceIte]
   repeat (with_reducible refine And.intro (by first | assumption | omega | (simp; done) | (simp; omega)) ?_)
   refine toEnd hC ?_
   refine endX_blk ?_
   refine endX_seq ?_
   refine runX_regionC fun C hC => ?_
   try simp -implicitDefEqProofs (maxSteps := 4000000) (disch := first | omega | decide | (simp only [go_sem]; omega)) only [go_sem, ↓reduceIte]
   repeat (with_reducible refine And.intro (by first | assumption | omega | (simp; done) | (simp; omega)) ?_)
   refine toEnd hC ?_
   refine endX_lp ?_
   refine runX_seq ?_
   refine runX_regionC fun C hC => ?_
   try simp -implicitDefEqProofs (maxSteps := 4000000) (disch := first | omega | decide | (simp only [go_sem]; omega)) only [go_sem, ↓reduceIte]
   repeat (with_reducible refine And.intro (by first | assumption | omega | (simp; done) | (simp; omega)) ?_)
   refine toEnd hC ?_
   refine endX_seq ?_
   refine runX_seq ?_
   refine runX_condF rfl rfl ?_
   refine runX_exit ?_
   refine endX_seqE ?_
   refine endX_lpE ?_
   refine endX_blkE ?_
   refine endX_seq ?_
   refine runX_seq ?_
   refine runX_regionC fun C hC => ?_
   try simp -implicitDefEqProofs (maxSteps := 4000000) (disch := first | omega | decide | (simp only [go_sem]; omega)) only [go_sem, ↓reduceIte]
   repeat (with_reducible refine And.intro (by first | assumption | omega | (simp; done) | (simp; omega)) ?_)
   refine toEnd hC ?_
   refine endX_seq ?_
   refine runX_ret ?_
   refine endX_q ?_
   obtain rfl := Option.some.inj h
   show RetW _ _ _ _ _
   simp only [RetW]
   (try simp -implicitDefEqProofs (maxSteps := 4000000) (disch := first | omega | decide | (simp only [go_sem]; omega)) only [go_sem, ↓reduceIte])
   (try simp (disch := omega) only [if_pos, Nat.sub_zero])
   exact leT_refl _
end Go.Proofs.YtaiapalhdejngaaX

set_option linter.unusedVariables false
set_option linter.unusedSimpArgs false
namespace Go.Proofs.YtaiapalhdejngaaX
open Go Go.RowKit Go.Proofs
set_option maxRecDepth 100000
attribute [local go_sem ↓] stepsK_build stepsK_bs appendS
attribute [local go_sem] String.reduceEq String.reduceNe reduceCtorEq Int.reduceEq Nat.reduceAdd Nat.reduceSub Nat.reduceMul Nat.reduceLT Nat.reduceLeDiff Nat.reduceEqDiff Nat.reduceBEq Int.reduceToNat Int.reduceLT Int.reduceLE Int.reduceGT Int.reduceGE Int.reduceAdd Int.reduceSub Int.reduceMul Int.reduceNeg Int.reduceBEq Int.reduceBNe Int.reducePow Int.reduceDiv Int.reduceMod Int.reduceTDiv Int.reduceTMod Int.reduceNatCast
/-! ### md5.Sum -/
def F45_S1 (x2 : List (Int)) (x3 : Int) (x4 : Int) (x5 : Int) (x6 : Int) (x7 : Int) : St := ⟨[.sl 1 false (List.map byteT x2), .junk, .ref 0 0 0 0, .ref 1 0 0 0, .junk, .junk, .junk, .junk, .junk, .junk, .junk, .junk, .junk, .junk, .junk, .junk, .junk, .junk], [some (.box 70 (.agg [.imm (.int .u8 (0 : Int)), .imm (.int .u8 (0 : Int)), .imm (.int .u8 (0 : Int)), .imm (.int .u8 (0 : Int)), .imm (.int .u8 (0 : Int)), .imm (.int .u8 (0 : Int)), .imm (.int .u8 (0 : Int)), .imm (.int .u8 (0 : Int)), .imm (.int .u8 (0 : Int)), .imm (.int .u8 (0 : Int)), .imm (.int .u8 (0 : Int)), .imm (.int .u8 (0 : Int)), .imm (.int .u8 (0 : Int)), .imm (.int .u8 (0 : Int)), .imm (.int .u8 (0 : Int)), .imm (.int .u8 (0 : Int))]) false), some (.box 113 (.agg [.imm (.int .u32 x3), .imm (.int .u32 x4), .imm (.int .u32 x5), .imm (.int .u32 x6), .imm (.int .u64 x7)]) false)]⟩
def F45_L1 : Nat → (List (Int)) → (Int) → (Int) → (Int) → (Int) → (Int) → Option (List (Int))
 | 0, _, _, _, _, _, _ => none
 | m1 + 1, x2, x3, x4, x5, x6, x7 => iteB (decide ((64 : Int) ≤ (x2.length : Int))) (grd (64 ≤ x2.length) (grd (64 ≤ (x2.take 64).length) ((F82 m1 ([x3, x4, x5, x6], x7) ((x2.take 64).take 64)).bind fun v11 => grd ((64 : Int) ≤ (x2.length : Int)) (F45_L1 m1 (x2.drop 64) (v11.1.getD 0 default) (v11.1.getD 1 default) (v11.1.getD 2 default) (v11.1.getD 3 default) v11.2)))) ((F83 m1 ([x3, x4, x5, x6], x7) x2).bind fun v13 => grd (v13.length = 16) (grd (16 ≤ v13.length) (some (v13.take 16))))
def F45 (n : Nat) (a0 : List (Int)) : Option (List (Int)) := (F81 n ).bind fun v1 => F45_L1 n a0 (v1.1.getD 0 default) (v1.1.getD 1 default) (v1.1.getD 2 default) (v1.1.getD 3 default) v1.2
set_option maxHeartbeats 4000000 in
theorem F45_ok : ∀ (n : Nat) (a0 : List (Int)) (r : List (Int)), F45 n a0 = some r → FnC Try.prog 45 [.sl 1 false (List.map byteT a0)] (.agg (List.map byteT r))
 | n, a0, r, h => by
  unfold F45 at h
  refine FnC.goX mixed Try.func45 (by kernel_rfl) rfl ?_
  simp only [Try.ntmps45, List.length_cons, List.length_nil, List.replicate, List.cons_append, List.nil_append, Nat.reduceAdd, Nat.reduceSub]
  refine runX_seq ?_
  refine runX_regionC fun C hC => ?_
  try simp -implicitDefEqProofs (disch := omega) only [go_sem, ↓reduceIte]
  refine toEnd hC ?_
  refine endX_seq ?_
  refine runX_seq ?_
  refine runX_regionC fun C hC => ?_
  simp only [runK_region, runK_draw, liteL, liteL2, dstsL, gL, List.getD_cons_zero, List.getD_cons_succ]
  obtain ⟨v1, h1, h⟩ := bnd_some h
  try simp -implicitDefEqProofs (maxSteps := 4000000) (disch := first | omega | decide | (simp only [go_sem]; omega)) only [go_sem, ↓reduceIte]
  repeat (with_reducible refine And.intro (by first | assumption | omega | (simp; done) | (simp; omega)) ?_)
  refine callG_X (by first | rfl | (simp only [go_sem]; done) | (simp only [closedL, closedT, Bool.and_true]; exact closedL_map _ (fun _ => by first | rfl | (simp only [go_sem]; done)) _)) (F81_ok n  _ h1) (by repeat (first | exact leL_refl _ | refine leL_cons (by first | exact leT_refl _ | exact leT_virt | exact leT_junk _ | exact leT_sl | exact leT_sln | exact leT_nil | (refine leT_agg (by repeat (first | exact leL_refl _ | refine leL_cons (by first | exact leT_refl _ | exact leT_sl | exact leT_sln | exact leT_nil) ?_)))) ?_)) ?_
  try simp -implicitDefEqProofs (maxSteps := 4000000) (disch := first | omega | decide | (simp only [go_sem]; omega)) only [go_sem, ↓reduceIte]
  repeat (with_reducible refine And.intro (by first | assumption | omega | (simp; done) | (simp; omega)) ?_)
  refine toEnd hC ?_
  refine endX_seq ?_
  refine runX_seq ?_
  refine runX_block ?_
  refine runX_loop [0, 2, 3] (fun m S => ∃ (x2 : List (Int)) (x3 : Int) (x4 : Int) (x5 : Int) (x6 : Int) (x7 : Int), S = F45_S1 x2 x3 x4 x5 x6 x7 ∧ m ≤ n ∧ F45_L1 m x2 x3 x4 x5 x6 x7 = some r) n ⟨F45_S1 a0 (v1.1.getD 0 default) (v1.1.getD 1 default) (v1.1.getD 2 default) (v1.1.getD 3 default) v1.2, ?_, a0, (v1.1.getD 0 default), (v1.1.getD 1 default), (v1.1.getD 2 default), (v1.1.getD 3 default), v1.2, rfl, Nat.le_refl _, h⟩ ?_
  ·simp only [F45_S1]
   (try simp -implicitDefEqProofs (disch := omega) only [go_sem, ↓reduceIte])
   exact leS_refl _
  ·clear h
   rintro m1 S ⟨x2, x3, x4, x5, x6, x7, rfl, hm1, h⟩
   cases m1 with
   | zero => first | cases (show (none : Option _) = some _ from h) | (rw [F45_L1] at h; cases h)
   | succ m1 =>
    rw [F45_L1] at h
    simp only [F45_S1]
    refine runX_seq ?_
    refine runX_seq ?_
    refine runX_regionC fun C hC => ?_
    try simp -implicitDefEqProofs (maxSteps := 4000000) (disch := first | omega | decide | (simp only [go_sem]; omega)) only [go_sem, ↓reduceIte]
    repeat (with_reducible refine And.intro (by first | assumption | omega | (simp; done) | (simp; omega)) ?_)
    refine toEnd hC ?_
    refine endX_seq ?_
    rcases iteB_some h with ⟨c8, h⟩ | ⟨c8, h⟩
    ·refine runX_condT rfl c8 ?_
     refine runX_skip ?_
     refine endX_seq ?_
     refine runX_seq ?_
     refine runX_block ?_
     refine runX_drawC mixed (by kernel_rfl) fun C hC => ?_
     obtain ⟨g9, h⟩ := grd_some h
     obtain ⟨g10, h⟩ := grd_some h
     obtain ⟨v11, h11, h⟩ := bnd_some h
     try simp -implicitDefEqProofs (maxSteps := 4000000) (disch := first | omega | decide | (simp only [go_sem]; omega)) only [go_sem, ↓reduceIte]
     repeat (with_reducible refine And.intro (by first | assumption | omega | (simp; done) | (simp; omega)) ?_)
     refine callD_X (F82_ok m1 ([x3, x4, x5, x6], x7) ((x2.take 64).take 64) _ h11) (by repeat (first | exact leL_refl _ | refine leL_cons (by first | exact leT_refl _ | exact leT_virt | exact leT_junk _ | exact leT_sl | exact leT_sln | exact leT_nil | (refine leT_agg (by repeat (first | exact leL_refl _ | refine leL_cons (by first | exact leT_refl _ | exact leT_sl | exact leT_sln | exact leT_nil) ?_)))) ?_)) ?_
     try simp -implicitDefEqProofs (maxSteps := 4000000) (disch := first | omega | decide | (simp only [go_sem]; omega)) only [go_sem, ↓reduceIte]
     repeat (with_reducible refine And.intro (by first | assumption | omega | (simp; done) | (simp; omega)) ?_)
     refine toEnd hC ?_
     refine endX_blk ?_
     refine endX_seq ?_
     refine runX_regionC fun C hC => ?_
     obtain ⟨g12, h⟩ := grd_some h
     try simp -implicitDefEqProofs (maxSteps := 4000000) (disch := first | omega | decide | (simp only [go_sem]; omega)) only [go_sem, ↓reduceIte]
     repeat (with_reducible refine And.intro (by first | assumption | omega | (simp; done) | (simp; omega)) ?_)
     refine toEnd hC ?_
     refine endX_q (roundQ_normal ⟨m1, by omega, F45_S1 (x2.drop 64) (v11.1.getD 0 default) (v11.1.getD 1 default) (v11.1.getD 2 default) (v11.1.getD 3 default) v11.2, ?_, (x2.drop 64), (v11.1.getD 0 default), (v11.1.getD 1 default), (v11.1.getD 2 default), (v11.1.getD 3 default), v11.2, rfl, by omega, h⟩)
     simp only [F45_S1]
     (try simp -implicitDefEqProofs (maxSteps := 4000000) (disch := first | omega | decide | (simp only [go_sem]; omega)) only [go_sem, ↓reduceIte])
     first | exact leS_refl _ | (refine leS_le ?_ ?_ <;> first | exact leL_refl _ | exact leOs_refl _ | (simp only [List.append_assoc, List.cons_append, List.nil_append]; exact leOs_refl _) | (repeat (first | exact leL_refl _ | refine leL_cons (by first | exact leT_refl _ | exact leT_virt | exact leT_junk _ | exact leT_sl | exact leT_sln | exact leT_nil | (refine leT_agg (by repeat (first | exact leL_refl _ | refine leL_cons (by first | exact leT_refl _ | exact leT_sl | exact leT_sln | exact leT_nil) ?_)))) ?_)))
    ·refine runX_condF rfl c8 ?_
     refine runX_exit ?_
     refine endX_seqE ?_
     refine endX_q (roundQ_exit ?_)
     refine endX_blkE ?_
     refine endX_seq ?_
     refine runX_seq ?_
     refine runX_regionC fun C hC => ?_
     obtain ⟨v13, h13, h⟩ := bnd_some h
     try simp -implicitDefEqProofs (maxSteps := 4000000) (disch := first | omega | decide | (simp only [go_sem]; omega)) only [go_sem, ↓reduceIte]
     repeat (with_reducible refine And.intro (by first | assumption | omega | (simp; done) | (simp; omega)) ?_)
     refine callG_X (by first | rfl | (simp only [go_sem]; done) | (simp only [closedL, closedT, Bool.and_true]; exact closedL_map _ (fun _ => by first | rfl | (simp only [go_sem]; done)) _)) (F83_ok m1 ([x3, x4, x5, x6], x7) x2 _ h13) (by repeat (first | exact leL_refl _ | refine leL_cons (by first | exact leT_refl _ | exact leT_virt | exact leT_junk _ | exact leT_sl | exact leT_sln | exact leT_nil | (refine leT_agg (by repeat (first | exact leL_refl _ | refine leL_cons (by first | exact leT_refl _ | exact leT_sl | exact leT_sln | exact leT_nil) ?_)))) ?_)) ?_
     obtain ⟨g14, h⟩ := grd_some h
     have e15 : List.drop v13.length ([.imm (.int .u8 (0 : Int)), .imm (.int .u8 (0 : Int)), .imm (.int .u8 (0 : Int)), .imm (.int .u8 (0 : Int)), .imm (.int .u8 (0 : Int)), .imm (.int .u8 (0 : Int)), .imm (.int .u8 (0 : Int)), .imm (.int .u8 (0 : Int)), .imm (.int .u8 (0 : Int)), .imm (.int .u8 (0 : Int)), .imm (.int .u8 (0 : Int)), .imm (.int .u8 (0 : Int)), .imm (.int .u8 (0 : Int)), .imm (.int .u8 (0 : Int)), .imm (.int .u8 (0 : Int)), .imm (.int .u8 (0 : Int))] : List T) = [] := drop_all (by first | (simp only [List.length_cons, List.length_nil]; omega) | (simp; omega))
     try simp -implicitDefEqProofs (maxSteps := 4000000) (disch := first | omega | decide | (simp only [go_sem]; omega)) only [go_sem, ↓reduceIte, e15]
     repeat (with_reducible refine And.intro (by first | assumption | omega | (simp; done) | (simp; omega)) ?_)
     refine toEnd hC ?_
     refine endX_seq ?_
     refine runX_ret ?_
     refine endX_q ?_
     obtain ⟨g16, h⟩ := grd_some h
     obtain rfl := Option.some.inj h
     show RetW _ _ _ _ _
     simp only [RetW]
     (try simp -implicitDefEqProofs (maxSteps := 4000000) (disch := first | omega | decide | (simp only [go_sem]; omega)) only [go_sem, ↓reduceIte])
     repeat (with_reducible refine And.intro (by first | assumption | omega | (simp; done) | (simp; omega)) ?_)
     (try simp (disch := omega) only [if_pos, Nat.sub_zero])
     exact leT_refl _
end Go.Proofs.YtaiapalhdejngaaX
