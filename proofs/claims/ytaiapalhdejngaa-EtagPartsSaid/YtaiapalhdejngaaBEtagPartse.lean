/- Part of the proof of EtagParts: walks and plain words, merged. -/
import Derived.Test.YtaiapalhdejngaaBEtagPartsc
import Derived.Test.YtaiapalhdejngaaBEtagPartsd
set_option linter.unusedVariables false
set_option linter.unusedSimpArgs false

set_option linter.unusedVariables false
set_option linter.unusedSimpArgs false
namespace Go.Proofs.YtaiapalhdejngaaX
open Go Go.RowKit Go.Proofs
set_option maxRecDepth 100000
attribute [local go_sem ↓] stepsK_build stepsK_build0 stepsK_bs stepsK_bs0 appendS
attribute [local go_sem] String.reduceEq String.reduceNe reduceCtorEq Int.reduceEq Nat.reduceAdd Nat.reduceSub Nat.reduceMul Nat.reduceLT Nat.reduceLeDiff Nat.reduceEqDiff Nat.reduceBEq Int.reduceToNat Int.reduceLT Int.reduceLE Int.reduceGT Int.reduceGE Int.reduceAdd Int.reduceSub Int.reduceMul Int.reduceNeg Int.reduceBEq Int.reduceBNe Int.reducePow Int.reduceDiv Int.reduceMod Int.reduceTDiv Int.reduceTMod Int.reduceNatCast
/-! ### shadowboxref04.ReadHex -/
def F76_S1 (a0 : List UInt8) (x2 : Int) (x3 : List (Int)) : St := ⟨[.imm (.string (bs a0)), .junk, .junk, .junk, .rsl 0 1 0 x3.length, .imm (.int .i64 x2), .junk, .junk, .junk, .junk, .junk, .junk, .junk, .junk, .junk, .junk, .junk, .junk, .junk, .junk, .junk, .junk, .junk, .junk, .junk, .junk, .junk, .junk, .junk, .junk, .junk, .junk, .junk, .junk, .junk, .junk, .junk, .junk, .junk, .junk, .junk, .junk, .junk], [some (.buf 5 1 (List.map byteT x3) 0)]⟩
def F76_L1 : Nat → (List UInt8) → (Int) → (List (Int)) → Option ((List (Int)) × (Bool))
  | 0, _, _, _ => none
  | m1 + 1, a0, x2, x3 => iteB (decide ((IntKind.wrap .i64 (x2 + (1 : Int))) < (a0.length : Int))) (grd (0 ≤ x2 ∧ x2 < (a0.length : Int)) ((F94 m1 ((a0.getD x2.toNat 0).toNat : Int)).bind fun v6 => grd (0 ≤ (IntKind.wrap .i64 (x2 + (1 : Int))) ∧ (IntKind.wrap .i64 (x2 + (1 : Int))) < (a0.length : Int)) ((F94 m1 ((a0.getD (IntKind.wrap .i64 (x2 + (1 : Int))).toNat 0).toNat : Int)).bind fun v8 => iteB (decide (v6 < (0 : Int))) (some ([], false)) (iteB (decide (v8 < (0 : Int))) (some ([], false)) (grd ((x3.length + 1) ≤ 549755813888) (F76_L1 m1 a0 (IntKind.wrap .i64 (x2 + (2 : Int))) (x3 ++ [(IntKind.wrap .u8 ((IntKind.wrap .i64 ((IntKind.wrap .i64 ((16 : Int) * v6)) + v8))))]))))))) (some (x3, true))
def F76 (n : Nat) (a0 : List UInt8) : Option ((List (Int)) × (Bool)) := iteB (((a0.length : Int).tmod (2 : Int)) != (0 : Int)) (some ([], false)) (F76_L1 n a0 (0 : Int) [])
set_option maxHeartbeats 4000000 in
theorem F76_ok : ∀ (n : Nat) (a0 : List UInt8) (r : (List (Int)) × (Bool)), F76 n a0 = some r → FnC Try.prog 76 [.imm (.string (bs a0))] (.tup [.sl 1 false (List.map byteT r.1), .imm (.bool r.2)])
  | n, a0, r, h => by
    unfold F76 at h
    refine FnC.goX mixed Try.func76 (by kernel_rfl) rfl ?_
    simp only [Try.ntmps76, List.length_cons, List.length_nil, List.replicate, List.cons_append, List.nil_append, Nat.reduceAdd, Nat.reduceSub]
    refine runX_seq ?_
    refine runX_regionC fun C hC => ?_
    try simp -implicitDefEqProofs (maxSteps := 4000000) (disch := first | omega | decide | (simp only [go_sem]; omega)) only [go_sem, ↓reduceIte]
    repeat (with_reducible refine And.intro (by first | assumption | omega | (simp; done) | (simp; omega)) ?_)
    refine toEnd hC ?_
    refine endX_seq ?_
    refine runX_seq ?_
    refine runX_seq ?_
    refine runX_regionC fun C hC => ?_
    try simp -implicitDefEqProofs (maxSteps := 4000000) (disch := first | omega | decide | (simp only [go_sem]; omega)) only [go_sem, ↓reduceIte]
    repeat (with_reducible refine And.intro (by first | assumption | omega | (simp; done) | (simp; omega)) ?_)
    refine toEnd hC ?_
    refine endX_seq ?_
    rcases iteB_some h with ⟨c1, h⟩ | ⟨c1, h⟩
    · refine runX_condT rfl c1 ?_
      refine runX_seq ?_
      refine runX_regionC fun C hC => ?_
      try simp -implicitDefEqProofs (maxSteps := 4000000) (disch := first | omega | decide | (simp only [go_sem]; omega)) only [go_sem, ↓reduceIte]
      repeat (with_reducible refine And.intro (by first | assumption | omega | (simp; done) | (simp; omega)) ?_)
      refine toEnd hC ?_
      refine endX_seq ?_
      refine runX_ret ?_
      refine endX_seqR ?_
      refine endX_q ?_
      obtain rfl := Option.some.inj h
      show RetW _ _ _ _ _
      simp only [RetW]
      (try simp -implicitDefEqProofs (maxSteps := 4000000) (disch := first | omega | decide | (simp only [go_sem]; omega)) only [go_sem, ↓reduceIte])
      (try simp (disch := omega) only [if_pos, Nat.sub_zero])
      first | exact leT_refl _ | (refine ⟨rfl, ?_⟩; first | exact leT_refl _ | exact leT_sl | exact leT_sln | exact leT_nil | (refine leT_tup (by repeat (first | exact leL_refl _ | refine leL_cons (by first | exact leT_refl _ | exact leT_virt | exact leT_junk _ | exact leT_sl | exact leT_sln | exact leT_nil | (refine leT_agg (by repeat (first | exact leL_refl _ | refine leL_cons (by first | exact leT_refl _ | exact leT_sl | exact leT_sln | exact leT_nil) ?_)))) ?_))) | (refine leT_agg (by repeat (first | exact leL_refl _ | refine leL_cons (by first | exact leT_refl _ | exact leT_virt | exact leT_junk _ | exact leT_sl | exact leT_sln | exact leT_nil | (refine leT_agg (by repeat (first | exact leL_refl _ | refine leL_cons (by first | exact leT_refl _ | exact leT_sl | exact leT_sln | exact leT_nil) ?_)))) ?_)))) | (first | exact leT_refl _ | exact leT_sl | exact leT_sln | exact leT_nil | (refine leT_tup (by repeat (first | exact leL_refl _ | refine leL_cons (by first | exact leT_refl _ | exact leT_virt | exact leT_junk _ | exact leT_sl | exact leT_sln | exact leT_nil | (refine leT_agg (by repeat (first | exact leL_refl _ | refine leL_cons (by first | exact leT_refl _ | exact leT_sl | exact leT_sln | exact leT_nil) ?_)))) ?_))) | (refine leT_agg (by repeat (first | exact leL_refl _ | refine leL_cons (by first | exact leT_refl _ | exact leT_virt | exact leT_junk _ | exact leT_sl | exact leT_sln | exact leT_nil | (refine leT_agg (by repeat (first | exact leL_refl _ | refine leL_cons (by first | exact leT_refl _ | exact leT_sl | exact leT_sln | exact leT_nil) ?_)))) ?_)))) | (simp only [List.append_assoc, List.cons_append, List.nil_append]; exact leT_refl _) | (rw [List.take_of_length_le (by simp)]; (try simp only [List.append_assoc, List.cons_append, List.nil_append]); exact leT_refl _)
    · refine runX_condF rfl c1 ?_
      refine runX_skip ?_
      refine endX_seq ?_
      refine runX_seq ?_
      refine runX_regionC fun C hC => ?_
      try simp -implicitDefEqProofs (maxSteps := 4000000) (disch := first | omega | decide | (simp only [go_sem]; omega)) only [go_sem, ↓reduceIte]
      repeat (with_reducible refine And.intro (by first | assumption | omega | (simp; done) | (simp; omega)) ?_)
      refine toEnd hC ?_
      refine endX_seq ?_
      refine runX_seq ?_
      refine runX_seq ?_
      refine runX_regionC fun C hC => ?_
      try simp -implicitDefEqProofs (maxSteps := 4000000) (disch := first | omega | decide | (simp only [go_sem]; omega)) only [go_sem, ↓reduceIte]
      repeat (with_reducible refine And.intro (by first | assumption | omega | (simp; done) | (simp; omega)) ?_)
      refine toEnd hC ?_
      refine endX_seq ?_
      refine runX_block ?_
      refine runX_loop [0, 4, 5] (fun m S => ∃ (x2 : Int) (x3 : List (Int)), S = F76_S1 a0 x2 x3 ∧ m ≤ n ∧ F76_L1 m a0 x2 x3 = some r) n ⟨F76_S1 a0 (0 : Int) [], ?_, (0 : Int), [], rfl, Nat.le_refl _, h⟩ ?_
      · (try simp -implicitDefEqProofs (maxSteps := 4000000) (disch := first | omega | decide | (simp only [go_sem]; omega)) only [go_sem, ↓reduceIte])
        simp only [F76_S1]
        refine leS_trans (leS_pad _ _ 1) ?_
        simp only [List.replicate, List.cons_append, List.nil_append]
        refine leS_virt 0 5 1 rfl ?_ ?_ rfl
        · repeat (first | exact leL_refl _ | refine leL_cons (by first | exact leT_refl _ | exact leT_virt | exact leT_junk _ | exact leT_sl | exact leT_sln | exact leT_nil | (refine leT_agg (by repeat (first | exact leL_refl _ | refine leL_cons (by first | exact leT_refl _ | exact leT_sl | exact leT_sln | exact leT_nil) ?_)))) ?_)
        · repeat (first | exact leOs_refl _ | refine leOs.cons (by first | exact leO.same _ | (refine leO.box (leT_agg (by repeat (first | exact leL_refl _ | refine leL_cons (by first | exact leT_refl _ | exact leT_virt | exact leT_junk _ | exact leT_sl | exact leT_sln | exact leT_nil | (refine leT_agg (by repeat (first | exact leL_refl _ | refine leL_cons (by first | exact leT_refl _ | exact leT_sl | exact leT_sln | exact leT_nil) ?_)))) ?_))) rfl) | (refine leO.box (by first | exact leT_virt | exact leT_sl | exact leT_sln) rfl)) ?_)
      · clear h
        rintro m1 S ⟨x2, x3, rfl, hm1, h⟩
        cases m1 with
        | zero => first | cases (show (none : Option _) = some _ from h) | (rw [F76_L1] at h; cases h)
        | succ m1 =>
          rw [F76_L1] at h
          simp only [F76_S1]
          refine runX_seq ?_
          refine runX_seq ?_
          refine runX_regionC fun C hC => ?_
          try simp -implicitDefEqProofs (maxSteps := 4000000) (disch := first | omega | decide | (simp only [go_sem]; omega)) only [go_sem, ↓reduceIte]
          repeat (with_reducible refine And.intro (by first | assumption | omega | (simp; done) | (simp; omega)) ?_)
          refine toEnd hC ?_
          refine endX_seq ?_
          rcases iteB_some h with ⟨c4, h⟩ | ⟨c4, h⟩
          · refine runX_condT rfl c4 ?_
            refine runX_skip ?_
            refine endX_seq ?_
            refine runX_seq ?_
            refine runX_block ?_
            refine runX_seq ?_
            refine runX_regionC fun C hC => ?_
            obtain ⟨g5, h⟩ := grd_some h
            obtain ⟨v6, h6, h⟩ := bnd_some h
            try simp -implicitDefEqProofs (maxSteps := 4000000) (disch := first | omega | decide | (simp only [go_sem]; omega)) only [go_sem, ↓reduceIte]
            repeat (with_reducible refine And.intro (by first | assumption | omega | (simp; done) | (simp; omega)) ?_)
            refine callG_X (by first | rfl | (simp only [go_sem]; done) | (simp only [closedL, closedT, Bool.and_true]; exact closedL_map _ (fun _ => by first | rfl | (simp only [go_sem]; done)) _)) (F94_ok m1 ((a0.getD x2.toNat 0).toNat : Int) _ h6) (by repeat (first | exact leL_refl _ | refine leL_cons (by first | exact leT_refl _ | exact leT_virt | exact leT_junk _ | exact leT_sl | exact leT_sln | exact leT_nil | (refine leT_agg (by repeat (first | exact leL_refl _ | refine leL_cons (by first | exact leT_refl _ | exact leT_sl | exact leT_sln | exact leT_nil) ?_)))) ?_)) ?_
            try simp -implicitDefEqProofs (maxSteps := 4000000) (disch := first | omega | decide | (simp only [go_sem]; omega)) only [go_sem, ↓reduceIte]
            repeat (with_reducible refine And.intro (by first | assumption | omega | (simp; done) | (simp; omega)) ?_)
            refine toEnd hC ?_
            refine endX_seq ?_
            refine runX_seq ?_
            refine runX_regionC fun C hC => ?_
            obtain ⟨g7, h⟩ := grd_some h
            obtain ⟨v8, h8, h⟩ := bnd_some h
            try simp -implicitDefEqProofs (maxSteps := 4000000) (disch := first | omega | decide | (simp only [go_sem]; omega)) only [go_sem, ↓reduceIte]
            repeat (with_reducible refine And.intro (by first | assumption | omega | (simp; done) | (simp; omega)) ?_)
            refine callG_X (by first | rfl | (simp only [go_sem]; done) | (simp only [closedL, closedT, Bool.and_true]; exact closedL_map _ (fun _ => by first | rfl | (simp only [go_sem]; done)) _)) (F94_ok m1 ((a0.getD (IntKind.wrap .i64 (x2 + (1 : Int))).toNat 0).toNat : Int) _ h8) (by repeat (first | exact leL_refl _ | refine leL_cons (by first | exact leT_refl _ | exact leT_virt | exact leT_junk _ | exact leT_sl | exact leT_sln | exact leT_nil | (refine leT_agg (by repeat (first | exact leL_refl _ | refine leL_cons (by first | exact leT_refl _ | exact leT_sl | exact leT_sln | exact leT_nil) ?_)))) ?_)) ?_
            try simp -implicitDefEqProofs (maxSteps := 4000000) (disch := first | omega | decide | (simp only [go_sem]; omega)) only [go_sem, ↓reduceIte]
            repeat (with_reducible refine And.intro (by first | assumption | omega | (simp; done) | (simp; omega)) ?_)
            refine toEnd hC ?_
            refine endX_seq ?_
            refine runX_seq ?_
            refine runX_seq ?_
            refine runX_regionC fun C hC => ?_
            try simp -implicitDefEqProofs (maxSteps := 4000000) (disch := first | omega | decide | (simp only [go_sem]; omega)) only [go_sem, ↓reduceIte]
            repeat (with_reducible refine And.intro (by first | assumption | omega | (simp; done) | (simp; omega)) ?_)
            rcases iteB_some h with ⟨c9, h⟩ | ⟨c9, h⟩
            · refine guardK_F c9 ?_
              try simp -implicitDefEqProofs (maxSteps := 4000000) (disch := first | omega | decide | (simp only [go_sem]; omega)) only [go_sem, ↓reduceIte]
              repeat (with_reducible refine And.intro (by first | assumption | omega | (simp; done) | (simp; omega)) ?_)
              refine toEnd hC ?_
              refine endX_seq ?_
              refine runX_condT rfl rfl ?_
              refine runX_seq ?_
              refine runX_regionC fun C hC => ?_
              try simp -implicitDefEqProofs (maxSteps := 4000000) (disch := first | omega | decide | (simp only [go_sem]; omega)) only [go_sem, ↓reduceIte]
              repeat (with_reducible refine And.intro (by first | assumption | omega | (simp; done) | (simp; omega)) ?_)
              refine toEnd hC ?_
              refine endX_seq ?_
              refine runX_ret ?_
              refine endX_seqR ?_
              refine endX_blkR ?_
              refine endX_seqR ?_
              refine endX_q (roundQ_ret ?_)
              refine endX_blkR ?_
              refine endX_seqR ?_
              refine endX_q ?_
              obtain rfl := Option.some.inj h
              show RetW _ _ _ _ _
              simp only [RetW]
              (try simp -implicitDefEqProofs (maxSteps := 4000000) (disch := first | omega | decide | (simp only [go_sem]; omega)) only [go_sem, ↓reduceIte])
              (try simp (disch := omega) only [if_pos, Nat.sub_zero])
              first | exact leT_refl _ | (refine ⟨rfl, ?_⟩; first | exact leT_refl _ | exact leT_sl | exact leT_sln | exact leT_nil | (refine leT_tup (by repeat (first | exact leL_refl _ | refine leL_cons (by first | exact leT_refl _ | exact leT_virt | exact leT_junk _ | exact leT_sl | exact leT_sln | exact leT_nil | (refine leT_agg (by repeat (first | exact leL_refl _ | refine leL_cons (by first | exact leT_refl _ | exact leT_sl | exact leT_sln | exact leT_nil) ?_)))) ?_))) | (refine leT_agg (by repeat (first | exact leL_refl _ | refine leL_cons (by first | exact leT_refl _ | exact leT_virt | exact leT_junk _ | exact leT_sl | exact leT_sln | exact leT_nil | (refine leT_agg (by repeat (first | exact leL_refl _ | refine leL_cons (by first | exact leT_refl _ | exact leT_sl | exact leT_sln | exact leT_nil) ?_)))) ?_)))) | (first | exact leT_refl _ | exact leT_sl | exact leT_sln | exact leT_nil | (refine leT_tup (by repeat (first | exact leL_refl _ | refine leL_cons (by first | exact leT_refl _ | exact leT_virt | exact leT_junk _ | exact leT_sl | exact leT_sln | exact leT_nil | (refine leT_agg (by repeat (first | exact leL_refl _ | refine leL_cons (by first | exact leT_refl _ | exact leT_sl | exact leT_sln | exact leT_nil) ?_)))) ?_))) | (refine leT_agg (by repeat (first | exact leL_refl _ | refine leL_cons (by first | exact leT_refl _ | exact leT_virt | exact leT_junk _ | exact leT_sl | exact leT_sln | exact leT_nil | (refine leT_agg (by repeat (first | exact leL_refl _ | refine leL_cons (by first | exact leT_refl _ | exact leT_sl | exact leT_sln | exact leT_nil) ?_)))) ?_)))) | (simp only [List.append_assoc, List.cons_append, List.nil_append]; exact leT_refl _) | (rw [List.take_of_length_le (by simp)]; (try simp only [List.append_assoc, List.cons_append, List.nil_append]); exact leT_refl _)
            · refine guardK_T c9 ?_
              try simp -implicitDefEqProofs (maxSteps := 4000000) (disch := first | omega | decide | (simp only [go_sem]; omega)) only [go_sem, ↓reduceIte]
              repeat (with_reducible refine And.intro (by first | assumption | omega | (simp; done) | (simp; omega)) ?_)
              refine toEnd hC ?_
              refine endX_seq ?_
              rcases iteB_some h with ⟨c10, h⟩ | ⟨c10, h⟩
              · refine runX_condT rfl c10 ?_
                refine runX_seq ?_
                refine runX_regionC fun C hC => ?_
                try simp -implicitDefEqProofs (maxSteps := 4000000) (disch := first | omega | decide | (simp only [go_sem]; omega)) only [go_sem, ↓reduceIte]
                repeat (with_reducible refine And.intro (by first | assumption | omega | (simp; done) | (simp; omega)) ?_)
                refine toEnd hC ?_
                refine endX_seq ?_
                refine runX_ret ?_
                refine endX_seqR ?_
                refine endX_blkR ?_
                refine endX_seqR ?_
                refine endX_q (roundQ_ret ?_)
                refine endX_blkR ?_
                refine endX_seqR ?_
                refine endX_q ?_
                obtain rfl := Option.some.inj h
                show RetW _ _ _ _ _
                simp only [RetW]
                (try simp -implicitDefEqProofs (maxSteps := 4000000) (disch := first | omega | decide | (simp only [go_sem]; omega)) only [go_sem, ↓reduceIte])
                (try simp (disch := omega) only [if_pos, Nat.sub_zero])
                first | exact leT_refl _ | (refine ⟨rfl, ?_⟩; first | exact leT_refl _ | exact leT_sl | exact leT_sln | exact leT_nil | (refine leT_tup (by repeat (first | exact leL_refl _ | refine leL_cons (by first | exact leT_refl _ | exact leT_virt | exact leT_junk _ | exact leT_sl | exact leT_sln | exact leT_nil | (refine leT_agg (by repeat (first | exact leL_refl _ | refine leL_cons (by first | exact leT_refl _ | exact leT_sl | exact leT_sln | exact leT_nil) ?_)))) ?_))) | (refine leT_agg (by repeat (first | exact leL_refl _ | refine leL_cons (by first | exact leT_refl _ | exact leT_virt | exact leT_junk _ | exact leT_sl | exact leT_sln | exact leT_nil | (refine leT_agg (by repeat (first | exact leL_refl _ | refine leL_cons (by first | exact leT_refl _ | exact leT_sl | exact leT_sln | exact leT_nil) ?_)))) ?_)))) | (first | exact leT_refl _ | exact leT_sl | exact leT_sln | exact leT_nil | (refine leT_tup (by repeat (first | exact leL_refl _ | refine leL_cons (by first | exact leT_refl _ | exact leT_virt | exact leT_junk _ | exact leT_sl | exact leT_sln | exact leT_nil | (refine leT_agg (by repeat (first | exact leL_refl _ | refine leL_cons (by first | exact leT_refl _ | exact leT_sl | exact leT_sln | exact leT_nil) ?_)))) ?_))) | (refine leT_agg (by repeat (first | exact leL_refl _ | refine leL_cons (by first | exact leT_refl _ | exact leT_virt | exact leT_junk _ | exact leT_sl | exact leT_sln | exact leT_nil | (refine leT_agg (by repeat (first | exact leL_refl _ | refine leL_cons (by first | exact leT_refl _ | exact leT_sl | exact leT_sln | exact leT_nil) ?_)))) ?_)))) | (simp only [List.append_assoc, List.cons_append, List.nil_append]; exact leT_refl _) | (rw [List.take_of_length_le (by simp)]; (try simp only [List.append_assoc, List.cons_append, List.nil_append]); exact leT_refl _)
              · refine runX_condF rfl c10 ?_
                refine runX_skip ?_
                refine endX_seq ?_
                refine runX_regionC fun C hC => ?_
                try simp -implicitDefEqProofs (maxSteps := 4000000) (disch := first | omega | decide | (simp only [go_sem]; omega)) only [go_sem, ↓reduceIte]
                repeat (with_reducible refine And.intro (by first | assumption | omega | (simp; done) | (simp; omega)) ?_)
                refine bs_go <| buildX_val ?_
                obtain ⟨g11, h⟩ := grd_some h
                try simp -implicitDefEqProofs (maxSteps := 4000000) (disch := first | omega | decide | (simp only [go_sem]; omega)) only [go_sem, ↓reduceIte]
                repeat (with_reducible refine And.intro (by first | assumption | omega | (simp; done) | (simp; omega)) ?_)
                refine toEnd hC ?_
                refine endX_blk ?_
                refine endX_seq ?_
                refine runX_regionC fun C hC => ?_
                try simp -implicitDefEqProofs (maxSteps := 4000000) (disch := first | omega | decide | (simp only [go_sem]; omega)) only [go_sem, ↓reduceIte]
                repeat (with_reducible refine And.intro (by first | assumption | omega | (simp; done) | (simp; omega)) ?_)
                refine toEnd hC ?_
                refine endX_q (roundQ_normal ⟨m1, by omega, F76_S1 a0 (IntKind.wrap .i64 (x2 + (2 : Int))) (x3 ++ [(IntKind.wrap .u8 ((IntKind.wrap .i64 ((IntKind.wrap .i64 ((16 : Int) * v6)) + v8))))]), ?_, (IntKind.wrap .i64 (x2 + (2 : Int))), (x3 ++ [(IntKind.wrap .u8 ((IntKind.wrap .i64 ((IntKind.wrap .i64 ((16 : Int) * v6)) + v8))))]), rfl, by omega, h⟩)
                simp only [F76_S1]
                (try simp -implicitDefEqProofs (maxSteps := 4000000) (disch := first | omega | decide | (simp only [go_sem]; omega)) only [go_sem, ↓reduceIte])
                first | exact leS_refl _ | (refine leS_le ?_ ?_ <;> first | exact leL_refl _ | exact leOs_refl _ | (simp only [List.append_assoc, List.cons_append, List.nil_append]; exact leOs_refl _) | (repeat (first | exact leL_refl _ | refine leL_cons (by first | exact leT_refl _ | exact leT_virt | exact leT_junk _ | exact leT_sl | exact leT_sln | exact leT_nil | (refine leT_agg (by repeat (first | exact leL_refl _ | refine leL_cons (by first | exact leT_refl _ | exact leT_sl | exact leT_sln | exact leT_nil) ?_)))) ?_)))
          · refine runX_condF rfl c4 ?_
            refine runX_exit ?_
            refine endX_seqE ?_
            refine endX_q (roundQ_exit ?_)
            refine endX_blkE ?_
            refine endX_seq ?_
            refine runX_seq ?_
            refine runX_regionC fun C hC => ?_
            try simp -implicitDefEqProofs (maxSteps := 4000000) (disch := first | omega | decide | (simp only [go_sem]; omega)) only [go_sem, ↓reduceIte]
            repeat (with_reducible refine And.intro (by first | assumption | omega | (simp; done) | (simp; omega)) ?_)
            refine toEnd hC ?_
            refine endX_seq ?_
            refine runX_ret ?_
            refine endX_q ?_
            obtain rfl := Option.some.inj h
            show RetW _ _ _ _ _
            simp only [RetW]
            (try simp -implicitDefEqProofs (maxSteps := 4000000) (disch := first | omega | decide | (simp only [go_sem]; omega)) only [go_sem, ↓reduceIte])
            (try simp (disch := omega) only [if_pos, Nat.sub_zero])
            first | exact leT_refl _ | (refine ⟨rfl, ?_⟩; first | exact leT_refl _ | exact leT_sl | exact leT_sln | exact leT_nil | (refine leT_tup (by repeat (first | exact leL_refl _ | refine leL_cons (by first | exact leT_refl _ | exact leT_virt | exact leT_junk _ | exact leT_sl | exact leT_sln | exact leT_nil | (refine leT_agg (by repeat (first | exact leL_refl _ | refine leL_cons (by first | exact leT_refl _ | exact leT_sl | exact leT_sln | exact leT_nil) ?_)))) ?_))) | (refine leT_agg (by repeat (first | exact leL_refl _ | refine leL_cons (by first | exact leT_refl _ | exact leT_virt | exact leT_junk _ | exact leT_sl | exact leT_sln | exact leT_nil | (refine leT_agg (by repeat (first | exact leL_refl _ | refine leL_cons (by first | exact leT_refl _ | exact leT_sl | exact leT_sln | exact leT_nil) ?_)))) ?_)))) | (first | exact leT_refl _ | exact leT_sl | exact leT_sln | exact leT_nil | (refine leT_tup (by repeat (first | exact leL_refl _ | refine leL_cons (by first | exact leT_refl _ | exact leT_virt | exact leT_junk _ | exact leT_sl | exact leT_sln | exact leT_nil | (refine leT_agg (by repeat (first | exact leL_refl _ | refine leL_cons (by first | exact leT_refl _ | exact leT_sl | exact leT_sln | exact leT_nil) ?_)))) ?_))) | (refine leT_agg (by repeat (first | exact leL_refl _ | refine leL_cons (by first | exact leT_refl _ | exact leT_virt | exact leT_junk _ | exact leT_sl | exact leT_sln | exact leT_nil | (refine leT_agg (by repeat (first | exact leL_refl _ | refine leL_cons (by first | exact leT_refl _ | exact leT_sl | exact leT_sln | exact leT_nil) ?_)))) ?_)))) | (simp only [List.append_assoc, List.cons_append, List.nil_append]; exact leT_refl _) | (rw [List.take_of_length_le (by simp)]; (try simp only [List.append_assoc, List.cons_append, List.nil_append]); exact leT_refl _)
end Go.Proofs.YtaiapalhdejngaaX

set_option linter.unusedVariables false
set_option linter.unusedSimpArgs false
namespace Go.Proofs.YtaiapalhdejngaaX
open Go Go.RowKit Go.Proofs
set_option maxRecDepth 100000
attribute [local go_sem ↓] stepsK_build stepsK_build0 stepsK_bs stepsK_bs0 appendS
attribute [local go_sem] String.reduceEq String.reduceNe reduceCtorEq Int.reduceEq Nat.reduceAdd Nat.reduceSub Nat.reduceMul Nat.reduceLT Nat.reduceLeDiff Nat.reduceEqDiff Nat.reduceBEq Int.reduceToNat Int.reduceLT Int.reduceLE Int.reduceGT Int.reduceGE Int.reduceAdd Int.reduceSub Int.reduceMul Int.reduceNeg Int.reduceBEq Int.reduceBNe Int.reducePow Int.reduceDiv Int.reduceMod Int.reduceTDiv Int.reduceTMod Int.reduceNatCast
/-! ### shadowboxref37.Sum -/
def F38 (n : Nat) (a0 : List UInt8) : Option ((List (Int)) × (Bool)) := (F76 n a0).bind fun v1 => iteB (!v1.2) (some ([], false)) (iteB ((v1.1.length : Int) != (16 : Int)) (some ([], false)) (some (v1.1, true)))
set_option maxHeartbeats 4000000 in
theorem F38_ok : ∀ (n : Nat) (a0 : List UInt8) (r : (List (Int)) × (Bool)), F38 n a0 = some r → FnC Try.prog 38 [.imm (.string (bs a0))] (.tup [.sl 1 false (List.map byteT r.1), .imm (.bool r.2)])
  | n, a0, r, h => by
    unfold F38 at h
    refine FnC.goX mixed Try.func38 (by kernel_rfl) rfl ?_
    simp only [Try.ntmps38, List.length_cons, List.length_nil, List.replicate, List.cons_append, List.nil_append, Nat.reduceAdd, Nat.reduceSub]
    refine runX_seq ?_
    refine runX_regionC fun C hC => ?_
    try simp -implicitDefEqProofs (maxSteps := 4000000) (disch := first | omega | decide | (simp only [go_sem]; omega)) only [go_sem, ↓reduceIte]
    repeat (with_reducible refine And.intro (by first | assumption | omega | (simp; done) | (simp; omega)) ?_)
    refine toEnd hC ?_
    refine endX_seq ?_
    refine runX_seq ?_
    refine runX_regionC fun C hC => ?_
    obtain ⟨v1, h1, h⟩ := bnd_some h
    try simp -implicitDefEqProofs (maxSteps := 4000000) (disch := first | omega | decide | (simp only [go_sem]; omega)) only [go_sem, ↓reduceIte]
    repeat (with_reducible refine And.intro (by first | assumption | omega | (simp; done) | (simp; omega)) ?_)
    refine callG_X (by first | rfl | (simp only [go_sem]; done) | (simp only [closedL, closedT, Bool.and_true]; exact closedL_map _ (fun _ => by first | rfl | (simp only [go_sem]; done)) _)) (F76_ok n a0 _ h1) (by repeat (first | exact leL_refl _ | refine leL_cons (by first | exact leT_refl _ | exact leT_virt | exact leT_junk _ | exact leT_sl | exact leT_sln | exact leT_nil | (refine leT_agg (by repeat (first | exact leL_refl _ | refine leL_cons (by first | exact leT_refl _ | exact leT_sl | exact leT_sln | exact leT_nil) ?_)))) ?_)) ?_
    try simp -implicitDefEqProofs (maxSteps := 4000000) (disch := first | omega | decide | (simp only [go_sem]; omega)) only [go_sem, ↓reduceIte]
    repeat (with_reducible refine And.intro (by first | assumption | omega | (simp; done) | (simp; omega)) ?_)
    refine toEnd hC ?_
    refine endX_seq ?_
    refine runX_seq ?_
    refine runX_seq ?_
    refine runX_regionC fun C hC => ?_
    try simp -implicitDefEqProofs (maxSteps := 4000000) (disch := first | omega | decide | (simp only [go_sem]; omega)) only [go_sem, ↓reduceIte]
    repeat (with_reducible refine And.intro (by first | assumption | omega | (simp; done) | (simp; omega)) ?_)
    rcases iteB_some h with ⟨c2, h⟩ | ⟨c2, h⟩
    · refine guardK_F c2 ?_
      try simp -implicitDefEqProofs (maxSteps := 4000000) (disch := first | omega | decide | (simp only [go_sem]; omega)) only [go_sem, ↓reduceIte]
      repeat (with_reducible refine And.intro (by first | assumption | omega | (simp; done) | (simp; omega)) ?_)
      refine toEnd hC ?_
      refine endX_seq ?_
      refine runX_condT rfl rfl ?_
      refine runX_seq ?_
      refine runX_regionC fun C hC => ?_
      try simp -implicitDefEqProofs (maxSteps := 4000000) (disch := first | omega | decide | (simp only [go_sem]; omega)) only [go_sem, ↓reduceIte]
      repeat (with_reducible refine And.intro (by first | assumption | omega | (simp; done) | (simp; omega)) ?_)
      refine toEnd hC ?_
      refine endX_seq ?_
      refine runX_ret ?_
      refine endX_seqR ?_
      refine endX_q ?_
      obtain rfl := Option.some.inj h
      show RetW _ _ _ _ _
      simp only [RetW]
      (try simp -implicitDefEqProofs (maxSteps := 4000000) (disch := first | omega | decide | (simp only [go_sem]; omega)) only [go_sem, ↓reduceIte])
      (try simp (disch := omega) only [if_pos, Nat.sub_zero])
      first | exact leT_refl _ | (refine ⟨rfl, ?_⟩; first | exact leT_refl _ | exact leT_sl | exact leT_sln | exact leT_nil | (refine leT_tup (by repeat (first | exact leL_refl _ | refine leL_cons (by first | exact leT_refl _ | exact leT_virt | exact leT_junk _ | exact leT_sl | exact leT_sln | exact leT_nil | (refine leT_agg (by repeat (first | exact leL_refl _ | refine leL_cons (by first | exact leT_refl _ | exact leT_sl | exact leT_sln | exact leT_nil) ?_)))) ?_))) | (refine leT_agg (by repeat (first | exact leL_refl _ | refine leL_cons (by first | exact leT_refl _ | exact leT_virt | exact leT_junk _ | exact leT_sl | exact leT_sln | exact leT_nil | (refine leT_agg (by repeat (first | exact leL_refl _ | refine leL_cons (by first | exact leT_refl _ | exact leT_sl | exact leT_sln | exact leT_nil) ?_)))) ?_)))) | (first | exact leT_refl _ | exact leT_sl | exact leT_sln | exact leT_nil | (refine leT_tup (by repeat (first | exact leL_refl _ | refine leL_cons (by first | exact leT_refl _ | exact leT_virt | exact leT_junk _ | exact leT_sl | exact leT_sln | exact leT_nil | (refine leT_agg (by repeat (first | exact leL_refl _ | refine leL_cons (by first | exact leT_refl _ | exact leT_sl | exact leT_sln | exact leT_nil) ?_)))) ?_))) | (refine leT_agg (by repeat (first | exact leL_refl _ | refine leL_cons (by first | exact leT_refl _ | exact leT_virt | exact leT_junk _ | exact leT_sl | exact leT_sln | exact leT_nil | (refine leT_agg (by repeat (first | exact leL_refl _ | refine leL_cons (by first | exact leT_refl _ | exact leT_sl | exact leT_sln | exact leT_nil) ?_)))) ?_)))) | (simp only [List.append_assoc, List.cons_append, List.nil_append]; exact leT_refl _) | (rw [List.take_of_length_le (by simp)]; (try simp only [List.append_assoc, List.cons_append, List.nil_append]); exact leT_refl _)
    · refine guardK_T c2 ?_
      try simp -implicitDefEqProofs (maxSteps := 4000000) (disch := first | omega | decide | (simp only [go_sem]; omega)) only [go_sem, ↓reduceIte]
      repeat (with_reducible refine And.intro (by first | assumption | omega | (simp; done) | (simp; omega)) ?_)
      refine toEnd hC ?_
      refine endX_seq ?_
      rcases iteB_some h with ⟨c3, h⟩ | ⟨c3, h⟩
      · refine runX_condT rfl c3 ?_
        refine runX_seq ?_
        refine runX_regionC fun C hC => ?_
        try simp -implicitDefEqProofs (maxSteps := 4000000) (disch := first | omega | decide | (simp only [go_sem]; omega)) only [go_sem, ↓reduceIte]
        repeat (with_reducible refine And.intro (by first | assumption | omega | (simp; done) | (simp; omega)) ?_)
        refine toEnd hC ?_
        refine endX_seq ?_
        refine runX_ret ?_
        refine endX_seqR ?_
        refine endX_q ?_
        obtain rfl := Option.some.inj h
        show RetW _ _ _ _ _
        simp only [RetW]
        (try simp -implicitDefEqProofs (maxSteps := 4000000) (disch := first | omega | decide | (simp only [go_sem]; omega)) only [go_sem, ↓reduceIte])
        (try simp (disch := omega) only [if_pos, Nat.sub_zero])
        first | exact leT_refl _ | (refine ⟨rfl, ?_⟩; first | exact leT_refl _ | exact leT_sl | exact leT_sln | exact leT_nil | (refine leT_tup (by repeat (first | exact leL_refl _ | refine leL_cons (by first | exact leT_refl _ | exact leT_virt | exact leT_junk _ | exact leT_sl | exact leT_sln | exact leT_nil | (refine leT_agg (by repeat (first | exact leL_refl _ | refine leL_cons (by first | exact leT_refl _ | exact leT_sl | exact leT_sln | exact leT_nil) ?_)))) ?_))) | (refine leT_agg (by repeat (first | exact leL_refl _ | refine leL_cons (by first | exact leT_refl _ | exact leT_virt | exact leT_junk _ | exact leT_sl | exact leT_sln | exact leT_nil | (refine leT_agg (by repeat (first | exact leL_refl _ | refine leL_cons (by first | exact leT_refl _ | exact leT_sl | exact leT_sln | exact leT_nil) ?_)))) ?_)))) | (first | exact leT_refl _ | exact leT_sl | exact leT_sln | exact leT_nil | (refine leT_tup (by repeat (first | exact leL_refl _ | refine leL_cons (by first | exact leT_refl _ | exact leT_virt | exact leT_junk _ | exact leT_sl | exact leT_sln | exact leT_nil | (refine leT_agg (by repeat (first | exact leL_refl _ | refine leL_cons (by first | exact leT_refl _ | exact leT_sl | exact leT_sln | exact leT_nil) ?_)))) ?_))) | (refine leT_agg (by repeat (first | exact leL_refl _ | refine leL_cons (by first | exact leT_refl _ | exact leT_virt | exact leT_junk _ | exact leT_sl | exact leT_sln | exact leT_nil | (refine leT_agg (by repeat (first | exact leL_refl _ | refine leL_cons (by first | exact leT_refl _ | exact leT_sl | exact leT_sln | exact leT_nil) ?_)))) ?_)))) | (simp only [List.append_assoc, List.cons_append, List.nil_append]; exact leT_refl _) | (rw [List.take_of_length_le (by simp)]; (try simp only [List.append_assoc, List.cons_append, List.nil_append]); exact leT_refl _)
      · refine runX_condF rfl c3 ?_
        refine runX_skip ?_
        refine endX_seq ?_
        refine runX_seq ?_
        refine runX_regionC fun C hC => ?_
        try simp -implicitDefEqProofs (maxSteps := 4000000) (disch := first | omega | decide | (simp only [go_sem]; omega)) only [go_sem, ↓reduceIte]
        repeat (with_reducible refine And.intro (by first | assumption | omega | (simp; done) | (simp; omega)) ?_)
        refine toEnd hC ?_
        refine endX_seq ?_
        refine runX_ret ?_
        refine endX_q ?_
        obtain rfl := Option.some.inj h
        show RetW _ _ _ _ _
        simp only [RetW]
        (try simp -implicitDefEqProofs (maxSteps := 4000000) (disch := first | omega | decide | (simp only [go_sem]; omega)) only [go_sem, ↓reduceIte])
        (try simp (disch := omega) only [if_pos, Nat.sub_zero])
        first | exact leT_refl _ | (refine ⟨rfl, ?_⟩; first | exact leT_refl _ | exact leT_sl | exact leT_sln | exact leT_nil | (refine leT_tup (by repeat (first | exact leL_refl _ | refine leL_cons (by first | exact leT_refl _ | exact leT_virt | exact leT_junk _ | exact leT_sl | exact leT_sln | exact leT_nil | (refine leT_agg (by repeat (first | exact leL_refl _ | refine leL_cons (by first | exact leT_refl _ | exact leT_sl | exact leT_sln | exact leT_nil) ?_)))) ?_))) | (refine leT_agg (by repeat (first | exact leL_refl _ | refine leL_cons (by first | exact leT_refl _ | exact leT_virt | exact leT_junk _ | exact leT_sl | exact leT_sln | exact leT_nil | (refine leT_agg (by repeat (first | exact leL_refl _ | refine leL_cons (by first | exact leT_refl _ | exact leT_sl | exact leT_sln | exact leT_nil) ?_)))) ?_)))) | (first | exact leT_refl _ | exact leT_sl | exact leT_sln | exact leT_nil | (refine leT_tup (by repeat (first | exact leL_refl _ | refine leL_cons (by first | exact leT_refl _ | exact leT_virt | exact leT_junk _ | exact leT_sl | exact leT_sln | exact leT_nil | (refine leT_agg (by repeat (first | exact leL_refl _ | refine leL_cons (by first | exact leT_refl _ | exact leT_sl | exact leT_sln | exact leT_nil) ?_)))) ?_))) | (refine leT_agg (by repeat (first | exact leL_refl _ | refine leL_cons (by first | exact leT_refl _ | exact leT_virt | exact leT_junk _ | exact leT_sl | exact leT_sln | exact leT_nil | (refine leT_agg (by repeat (first | exact leL_refl _ | refine leL_cons (by first | exact leT_refl _ | exact leT_sl | exact leT_sln | exact leT_nil) ?_)))) ?_)))) | (simp only [List.append_assoc, List.cons_append, List.nil_append]; exact leT_refl _) | (rw [List.take_of_length_le (by simp)]; (try simp only [List.append_assoc, List.cons_append, List.nil_append]); exact leT_refl _)
end Go.Proofs.YtaiapalhdejngaaX

set_option linter.unusedVariables false
set_option linter.unusedSimpArgs false
namespace Go.Proofs.YtaiapalhdejngaaX
open Go Go.RowKit Go.Proofs
set_option maxRecDepth 100000
attribute [local go_sem ↓] stepsK_build stepsK_build0 stepsK_bs stepsK_bs0 appendS
attribute [local go_sem] String.reduceEq String.reduceNe reduceCtorEq Int.reduceEq Nat.reduceAdd Nat.reduceSub Nat.reduceMul Nat.reduceLT Nat.reduceLeDiff Nat.reduceEqDiff Nat.reduceBEq Int.reduceToNat Int.reduceLT Int.reduceLE Int.reduceGT Int.reduceGE Int.reduceAdd Int.reduceSub Int.reduceMul Int.reduceNeg Int.reduceBEq Int.reduceBNe Int.reducePow Int.reduceDiv Int.reduceMod Int.reduceTDiv Int.reduceTMod Int.reduceNatCast
/-! ### shadowboxref11.Begin -/
def F100 (n : Nat)  : Option ((List (Int)) × (Int)) := some ([(1732584193 : Int), (4023233417 : Int), (2562383102 : Int), (271733878 : Int)], (0 : Int))
set_option maxHeartbeats 4000000 in
theorem F100_ok : ∀ (n : Nat) (r : (List (Int)) × (Int)), F100 n = some r → FnC Try.prog 100 [] (.agg [.imm (.int .u32 (r.1.getD 0 default)), .imm (.int .u32 (r.1.getD 1 default)), .imm (.int .u32 (r.1.getD 2 default)), .imm (.int .u32 (r.1.getD 3 default)), .imm (.int .u64 r.2)])
  | n, r, h => by
    unfold F100 at h
    refine FnC.goX mixed Try.func100 (by kernel_rfl) rfl ?_
    simp only [Try.ntmps100, List.length_cons, List.length_nil, List.replicate, List.cons_append, List.nil_append, Nat.reduceAdd, Nat.reduceSub]
    refine runX_seq ?_
    refine runX_regionC fun C hC => ?_
    try simp -implicitDefEqProofs (maxSteps := 4000000) (disch := first | omega | decide | (simp only [go_sem]; omega)) only [go_sem, ↓reduceIte]
    repeat (with_reducible refine And.intro (by first | assumption | omega | (simp; done) | (simp; omega)) ?_)
    refine toEnd hC ?_
    refine endX_seq ?_
    refine runX_seq ?_
    refine runX_regionC fun C hC => ?_
    simp only [runK_region, runK_draw, liteL, liteL2, dstsL, gL, List.getD_cons_zero, List.getD_cons_succ]
    try simp -implicitDefEqProofs (maxSteps := 4000000) (disch := first | omega | decide | (simp only [go_sem]; omega)) only [go_sem, ↓reduceIte]
    repeat (with_reducible refine And.intro (by first | assumption | omega | (simp; done) | (simp; omega)) ?_)
    refine bldG_of [.imm (.int .u32 (1732584193 : Int)), .imm (.int .u32 (4023233417 : Int)), .imm (.int .u32 (2562383102 : Int)), .imm (.int .u32 (271733878 : Int))] (by kernel_rfl) ?_
    try simp -implicitDefEqProofs (maxSteps := 4000000) (disch := first | omega | decide | (simp only [go_sem]; omega)) only [go_sem, ↓reduceIte]
    repeat (with_reducible refine And.intro (by first | assumption | omega | (simp; done) | (simp; omega)) ?_)
    refine bldG_of [.imm (.int .u32 (1732584193 : Int)), .imm (.int .u32 (4023233417 : Int)), .imm (.int .u32 (2562383102 : Int)), .imm (.int .u32 (271733878 : Int)), .imm (.int .u64 (0 : Int))] (by kernel_rfl) ?_
    try simp -implicitDefEqProofs (maxSteps := 4000000) (disch := first | omega | decide | (simp only [go_sem]; omega)) only [go_sem, ↓reduceIte]
    repeat (with_reducible refine And.intro (by first | assumption | omega | (simp; done) | (simp; omega)) ?_)
    refine toEnd hC ?_
    refine endX_seq ?_
    refine runX_ret ?_
    refine endX_q ?_
    obtain rfl := Option.some.inj h
    show RetW _ _ _ _ _
    simp only [RetW]
    (try simp -implicitDefEqProofs (maxSteps := 4000000) (disch := first | omega | decide | (simp only [go_sem]; omega)) only [go_sem, ↓reduceIte])
    (try simp (disch := omega) only [if_pos, Nat.sub_zero])
    exact leT_refl _
end Go.Proofs.YtaiapalhdejngaaX

set_option linter.unusedVariables false
set_option linter.unusedSimpArgs false
namespace Go.Proofs.YtaiapalhdejngaaX
open Go Go.RowKit Go.Proofs
set_option maxRecDepth 100000
attribute [local go_sem ↓] stepsK_build stepsK_build0 stepsK_bs stepsK_bs0 appendS
attribute [local go_sem] String.reduceEq String.reduceNe reduceCtorEq Int.reduceEq Nat.reduceAdd Nat.reduceSub Nat.reduceMul Nat.reduceLT Nat.reduceLeDiff Nat.reduceEqDiff Nat.reduceBEq Int.reduceToNat Int.reduceLT Int.reduceLE Int.reduceGT Int.reduceGE Int.reduceAdd Int.reduceSub Int.reduceMul Int.reduceNeg Int.reduceBEq Int.reduceBNe Int.reducePow Int.reduceDiv Int.reduceMod Int.reduceTDiv Int.reduceTMod Int.reduceNatCast
/-! ### shadowboxref11.sines -/
def F115 (n : Nat)  : Option (List (Int)) := some ((3614090360 : Int) :: (3905402710 : Int) :: (606105819 : Int) :: (3250441966 : Int) :: (4118548399 : Int) :: (1200080426 : Int) :: (2821735955 : Int) :: (4249261313 : Int) :: (1770035416 : Int) :: (2336552879 : Int) :: (4294925233 : Int) :: (2304563134 : Int) :: (1804603682 : Int) :: (4254626195 : Int) :: (2792965006 : Int) :: (1236535329 : Int) :: (4129170786 : Int) :: (3225465664 : Int) :: (643717713 : Int) :: (3921069994 : Int) :: (3593408605 : Int) :: (38016083 : Int) :: (3634488961 : Int) :: (3889429448 : Int) :: (568446438 : Int) :: (3275163606 : Int) :: (4107603335 : Int) :: (1163531501 : Int) :: (2850285829 : Int) :: (4243563512 : Int) :: (1735328473 : Int) :: (2368359562 : Int) :: (4294588738 : Int) :: (2272392833 : Int) :: (1839030562 : Int) :: (4259657740 : Int) :: (2763975236 : Int) :: (1272893353 : Int) :: (4139469664 : Int) :: (3200236656 : Int) :: (681279174 : Int) :: (3936430074 : Int) :: (3572445317 : Int) :: (76029189 : Int) :: (3654602809 : Int) :: (3873151461 : Int) :: (530742520 : Int) :: (3299628645 : Int) :: (4096336452 : Int) :: (1126891415 : Int) :: (2878612391 : Int) :: (4237533241 : Int) :: (1700485571 : Int) :: (2399980690 : Int) :: (4293915773 : Int) :: (2240044497 : Int) :: (1873313359 : Int) :: (4264355552 : Int) :: (2734768916 : Int) :: (1309151649 : Int) :: (4149444226 : Int) :: (3174756917 : Int) :: (718787259 : Int) :: (3951481745 : Int) :: ([] : List Int))
set_option maxHeartbeats 4000000 in
theorem F115_ok : ∀ (n : Nat) (r : List (Int)), F115 n = some r → FnC Try.prog 115 [] (.agg (List.map (eI .u32) r))
  | n, r, h => by
    unfold F115 at h
    refine FnC.goX mixed Try.func115 (by kernel_rfl) rfl ?_
    simp only [Try.ntmps115, List.length_cons, List.length_nil, List.replicate, List.cons_append, List.nil_append, Nat.reduceAdd, Nat.reduceSub]
    refine runX_seq ?_
    refine runX_regionC fun C hC => ?_
    try simp -implicitDefEqProofs (maxSteps := 4000000) (disch := first | omega | decide | (simp only [go_sem]; omega)) only [go_sem, ↓reduceIte]
    repeat (with_reducible refine And.intro (by first | assumption | omega | (simp; done) | (simp; omega)) ?_)
    refine toEnd hC ?_
    refine endX_seq ?_
    refine runX_seq ?_
    refine runX_regionC fun C hC => ?_
    simp only [runK_region, runK_draw, liteL, liteL2, dstsL, gL, List.getD_cons_zero, List.getD_cons_succ]
    try simp -implicitDefEqProofs (maxSteps := 4000000) (disch := first | omega | decide | (simp only [go_sem]; omega)) only [go_sem, ↓reduceIte]
    repeat (with_reducible refine And.intro (by first | assumption | omega | (simp; done) | (simp; omega)) ?_)
    refine bldG_of [.imm (.int .u32 (3614090360 : Int)), .imm (.int .u32 (3905402710 : Int)), .imm (.int .u32 (606105819 : Int)), .imm (.int .u32 (3250441966 : Int)), .imm (.int .u32 (4118548399 : Int)), .imm (.int .u32 (1200080426 : Int)), .imm (.int .u32 (2821735955 : Int)), .imm (.int .u32 (4249261313 : Int)), .imm (.int .u32 (1770035416 : Int)), .imm (.int .u32 (2336552879 : Int)), .imm (.int .u32 (4294925233 : Int)), .imm (.int .u32 (2304563134 : Int)), .imm (.int .u32 (1804603682 : Int)), .imm (.int .u32 (4254626195 : Int)), .imm (.int .u32 (2792965006 : Int)), .imm (.int .u32 (1236535329 : Int)), .imm (.int .u32 (4129170786 : Int)), .imm (.int .u32 (3225465664 : Int)), .imm (.int .u32 (643717713 : Int)), .imm (.int .u32 (3921069994 : Int)), .imm (.int .u32 (3593408605 : Int)), .imm (.int .u32 (38016083 : Int)), .imm (.int .u32 (3634488961 : Int)), .imm (.int .u32 (3889429448 : Int)), .imm (.int .u32 (568446438 : Int)), .imm (.int .u32 (3275163606 : Int)), .imm (.int .u32 (4107603335 : Int)), .imm (.int .u32 (1163531501 : Int)), .imm (.int .u32 (2850285829 : Int)), .imm (.int .u32 (4243563512 : Int)), .imm (.int .u32 (1735328473 : Int)), .imm (.int .u32 (2368359562 : Int)), .imm (.int .u32 (4294588738 : Int)), .imm (.int .u32 (2272392833 : Int)), .imm (.int .u32 (1839030562 : Int)), .imm (.int .u32 (4259657740 : Int)), .imm (.int .u32 (2763975236 : Int)), .imm (.int .u32 (1272893353 : Int)), .imm (.int .u32 (4139469664 : Int)), .imm (.int .u32 (3200236656 : Int)), .imm (.int .u32 (681279174 : Int)), .imm (.int .u32 (3936430074 : Int)), .imm (.int .u32 (3572445317 : Int)), .imm (.int .u32 (76029189 : Int)), .imm (.int .u32 (3654602809 : Int)), .imm (.int .u32 (3873151461 : Int)), .imm (.int .u32 (530742520 : Int)), .imm (.int .u32 (3299628645 : Int)), .imm (.int .u32 (4096336452 : Int)), .imm (.int .u32 (1126891415 : Int)), .imm (.int .u32 (2878612391 : Int)), .imm (.int .u32 (4237533241 : Int)), .imm (.int .u32 (1700485571 : Int)), .imm (.int .u32 (2399980690 : Int)), .imm (.int .u32 (4293915773 : Int)), .imm (.int .u32 (2240044497 : Int)), .imm (.int .u32 (1873313359 : Int)), .imm (.int .u32 (4264355552 : Int)), .imm (.int .u32 (2734768916 : Int)), .imm (.int .u32 (1309151649 : Int)), .imm (.int .u32 (4149444226 : Int)), .imm (.int .u32 (3174756917 : Int)), .imm (.int .u32 (718787259 : Int)), .imm (.int .u32 (3951481745 : Int))] (by kernel_rfl) ?_
    try simp -implicitDefEqProofs (maxSteps := 4000000) (disch := first | omega | decide | (simp only [go_sem]; omega)) only [go_sem, ↓reduceIte]
    repeat (with_reducible refine And.intro (by first | assumption | omega | (simp; done) | (simp; omega)) ?_)
    refine toEnd hC ?_
    refine endX_seq ?_
    refine runX_ret ?_
    refine endX_q ?_
    obtain rfl := Option.some.inj h
    show RetW _ _ _ _ _
    simp only [RetW]
    (try simp -implicitDefEqProofs (maxSteps := 4000000) (disch := first | omega | decide | (simp only [go_sem]; omega)) only [go_sem, ↓reduceIte])
    (try simp (disch := omega) only [if_pos, Nat.sub_zero])
    exact leT_refl _
end Go.Proofs.YtaiapalhdejngaaX

set_option linter.unusedVariables false
set_option linter.unusedSimpArgs false
namespace Go.Proofs.YtaiapalhdejngaaX
open Go Go.RowKit Go.Proofs
set_option maxRecDepth 100000
attribute [local go_sem ↓] stepsK_build stepsK_build0 stepsK_bs stepsK_bs0 appendS
attribute [local go_sem] String.reduceEq String.reduceNe reduceCtorEq Int.reduceEq Nat.reduceAdd Nat.reduceSub Nat.reduceMul Nat.reduceLT Nat.reduceLeDiff Nat.reduceEqDiff Nat.reduceBEq Int.reduceToNat Int.reduceLT Int.reduceLE Int.reduceGT Int.reduceGE Int.reduceAdd Int.reduceSub Int.reduceMul Int.reduceNeg Int.reduceBEq Int.reduceBNe Int.reducePow Int.reduceDiv Int.reduceMod Int.reduceTDiv Int.reduceTMod Int.reduceNatCast
/-! ### shadowboxref11.not -/
def F116 (n : Nat) (a0 : Int) : Option (Int) := some (IntKind.wrap .u32 ((4294967295 : Int) - a0))
set_option maxHeartbeats 4000000 in
theorem F116_ok : ∀ (n : Nat) (a0 : Int) (r : Int), F116 n a0 = some r → FnC Try.prog 116 [.imm (.int .u32 a0)] (.imm (.int .u32 r))
  | n, a0, r, h => by
    unfold F116 at h
    refine FnC.goX mixed Try.func116 (by kernel_rfl) rfl ?_
    simp only [Try.ntmps116, List.length_cons, List.length_nil, List.replicate, List.cons_append, List.nil_append, Nat.reduceAdd, Nat.reduceSub]
    refine runX_seq ?_
    refine runX_regionC fun C hC => ?_
    try simp -implicitDefEqProofs (maxSteps := 4000000) (disch := first | omega | decide | (simp only [go_sem]; omega)) only [go_sem, ↓reduceIte]
    repeat (with_reducible refine And.intro (by first | assumption | omega | (simp; done) | (simp; omega)) ?_)
    refine toEnd hC ?_
    refine endX_seq ?_
    refine runX_seq ?_
    refine runX_regionC fun C hC => ?_
    try simp -implicitDefEqProofs (maxSteps := 4000000) (disch := first | omega | decide | (simp only [go_sem]; omega)) only [go_sem, ↓reduceIte]
    repeat (with_reducible refine And.intro (by first | assumption | omega | (simp; done) | (simp; omega)) ?_)
    refine toEnd hC ?_
    refine endX_seq ?_
    refine runX_ret ?_
    refine endX_q ?_
    obtain rfl := Option.some.inj h
    show RetW _ _ _ _ _
    simp only [RetW]
    (try simp -implicitDefEqProofs (maxSteps := 4000000) (disch := first | omega | decide | (simp only [go_sem]; omega)) only [go_sem, ↓reduceIte])
    (try simp (disch := omega) only [if_pos, Nat.sub_zero])
    exact leT_refl _
end Go.Proofs.YtaiapalhdejngaaX

set_option linter.unusedVariables false
set_option linter.unusedSimpArgs false
namespace Go.Proofs.YtaiapalhdejngaaX
open Go Go.RowKit Go.Proofs
set_option maxRecDepth 100000
attribute [local go_sem ↓] stepsK_build stepsK_build0 stepsK_bs stepsK_bs0 appendS
attribute [local go_sem] String.reduceEq String.reduceNe reduceCtorEq Int.reduceEq Nat.reduceAdd Nat.reduceSub Nat.reduceMul Nat.reduceLT Nat.reduceLeDiff Nat.reduceEqDiff Nat.reduceBEq Int.reduceToNat Int.reduceLT Int.reduceLE Int.reduceGT Int.reduceGE Int.reduceAdd Int.reduceSub Int.reduceMul Int.reduceNeg Int.reduceBEq Int.reduceBNe Int.reducePow Int.reduceDiv Int.reduceMod Int.reduceTDiv Int.reduceTMod Int.reduceNatCast
/-! ### shadowboxref11.rol -/
def F117 (n : Nat) (a0 : Int) (a1 : Int) : Option (Int) := grd (0 ≤ a1) (grd (0 ≤ (IntKind.wrap .u64 ((32 : Int) - a1))) (some (IntKind.wrap .u32 (bOr .u32 (IntKind.wrap .u32 (bShl .u32 a0 a1.toNat)) (bShr .u32 a0 ((IntKind.wrap .u64 ((32 : Int) - a1)).toNat))))))
set_option maxHeartbeats 4000000 in
theorem F117_ok : ∀ (n : Nat) (a0 : Int) (a1 : Int) (r : Int), F117 n a0 a1 = some r → FnC Try.prog 117 [.imm (.int .u32 a0), .imm (.int .u64 a1)] (.imm (.int .u32 r))
  | n, a0, a1, r, h => by
    unfold F117 at h
    refine FnC.goX mixed Try.func117 (by kernel_rfl) rfl ?_
    simp only [Try.ntmps117, List.length_cons, List.length_nil, List.replicate, List.cons_append, List.nil_append, Nat.reduceAdd, Nat.reduceSub]
    refine runX_seq ?_
    refine runX_regionC fun C hC => ?_
    try simp -implicitDefEqProofs (maxSteps := 4000000) (disch := first | omega | decide | (simp only [go_sem]; omega)) only [go_sem, ↓reduceIte]
    repeat (with_reducible refine And.intro (by first | assumption | omega | (simp; done) | (simp; omega)) ?_)
    refine toEnd hC ?_
    refine endX_seq ?_
    refine runX_seq ?_
    refine runX_regionC fun C hC => ?_
    obtain ⟨g1, h⟩ := grd_some h
    obtain ⟨g2, h⟩ := grd_some h
    try simp -implicitDefEqProofs (maxSteps := 4000000) (disch := first | omega | decide | (simp only [go_sem]; omega)) only [go_sem, ↓reduceIte]
    repeat (with_reducible refine And.intro (by first | assumption | omega | (simp; done) | (simp; omega)) ?_)
    refine toEnd hC ?_
    refine endX_seq ?_
    refine runX_ret ?_
    refine endX_q ?_
    obtain rfl := Option.some.inj h
    show RetW _ _ _ _ _
    simp only [RetW]
    (try simp -implicitDefEqProofs (maxSteps := 4000000) (disch := first | omega | decide | (simp only [go_sem]; omega)) only [go_sem, ↓reduceIte])
    (try simp (disch := omega) only [if_pos, Nat.sub_zero])
    exact leT_refl _
end Go.Proofs.YtaiapalhdejngaaX

set_option linter.unusedVariables false
set_option linter.unusedSimpArgs false
namespace Go.Proofs.YtaiapalhdejngaaX
open Go Go.RowKit Go.Proofs
set_option maxRecDepth 100000
attribute [local go_sem ↓] stepsK_build stepsK_build0 stepsK_bs stepsK_bs0 appendS
attribute [local go_sem] String.reduceEq String.reduceNe reduceCtorEq Int.reduceEq Nat.reduceAdd Nat.reduceSub Nat.reduceMul Nat.reduceLT Nat.reduceLeDiff Nat.reduceEqDiff Nat.reduceBEq Int.reduceToNat Int.reduceLT Int.reduceLE Int.reduceGT Int.reduceGE Int.reduceAdd Int.reduceSub Int.reduceMul Int.reduceNeg Int.reduceBEq Int.reduceBNe Int.reducePow Int.reduceDiv Int.reduceMod Int.reduceTDiv Int.reduceTMod Int.reduceNatCast
/-! ### shadowboxref11.Block -/
def F101_S2 (a1 : List (Int)) (x4 : Int) (a0 : (List (Int)) × (Int)) (v1 : List (Int)) (x5 : Int) (x6 : Int) (x7 : Int) (x8 : Int) (x16 : Int) (x17 : Int) : St := ⟨[.junk, .sl 1 false (List.map byteT a1), .ref 0 0 0 0, .junk, .ref 1 0 0 0, .ref 2 0 0 0, .sl 1 true (List.map (eI .u64) [(7 : Int), (12 : Int), (17 : Int), (22 : Int), (5 : Int), (9 : Int), (14 : Int), (20 : Int), (4 : Int), (11 : Int), (16 : Int), (23 : Int), (6 : Int), (10 : Int), (15 : Int), (21 : Int)]), .ref 3 0 0 0, .imm (.int .i64 x4), .imm (.int .u32 x16), .imm (.int .i64 x17), .junk, .junk, .junk, .junk, .junk, .junk, .junk, .junk, .junk, .junk, .junk, .junk, .junk, .junk, .junk, .junk, .junk, .junk, .junk, .junk, .junk, .junk, .junk, .junk, .junk, .junk, .junk, .junk, .junk, .junk, .junk, .junk, .junk, .junk, .junk, .junk, .junk, .junk, .junk, .junk, .junk, .junk, .junk, .junk, .junk, .junk, .junk, .junk, .junk, .junk, .junk, .junk, .junk, .junk, .junk, .junk, .junk, .junk, .junk, .junk, .junk, .junk, .junk, .junk, .junk, .junk, .junk, .junk, .junk, .junk, .junk, .junk, .junk, .junk, .junk, .junk, .junk, .junk, .junk, .junk, .junk, .junk, .junk, .junk, .junk, .junk, .junk, .junk, .junk, .junk, .junk, .junk, .junk, .junk, .junk, .junk, .junk, .junk, .junk, .junk, .junk, .junk, .junk, .junk, .junk, .junk, .junk, .junk, .junk, .junk, .junk, .junk, .junk, .junk, .junk, .junk, .junk, .junk, .junk, .junk, .junk, .junk, .junk, .junk, .junk, .junk, .junk, .junk, .junk, .junk, .junk, .junk, .junk, .junk, .junk, .junk, .junk, .junk, .junk, .junk, .junk, .junk, .junk, .junk, .junk, .junk, .junk, .junk, .junk, .junk, .junk, .junk, .junk], [some (.box 132 (.agg [.imm (.int .u32 (a0.1.getD 0 default)), .imm (.int .u32 (a0.1.getD 1 default)), .imm (.int .u32 (a0.1.getD 2 default)), .imm (.int .u32 (a0.1.getD 3 default)), .imm (.int .u64 a0.2)]) false), some (.box 132 (.agg [.imm (.int .u32 (0 : Int)), .imm (.int .u32 (0 : Int)), .imm (.int .u32 (0 : Int)), .imm (.int .u32 (0 : Int)), .imm (.int .u64 (0 : Int))]) false), some (.box 139 (.agg (List.map (eI .u32) v1)) false), some (.box 110 (.agg [.imm (.int .u32 x5), .imm (.int .u32 x6), .imm (.int .u32 x7), .imm (.int .u32 x8)]) false)]⟩
def F101_S1 (a1 : List (Int)) (a0 : (List (Int)) × (Int)) (v1 : List (Int)) (x4 : Int) (x5 : Int) (x6 : Int) (x7 : Int) (x8 : Int) : St := ⟨[.junk, .sl 1 false (List.map byteT a1), .ref 0 0 0 0, .junk, .ref 1 0 0 0, .ref 2 0 0 0, .sl 1 true (List.map (eI .u64) [(7 : Int), (12 : Int), (17 : Int), (22 : Int), (5 : Int), (9 : Int), (14 : Int), (20 : Int), (4 : Int), (11 : Int), (16 : Int), (23 : Int), (6 : Int), (10 : Int), (15 : Int), (21 : Int)]), .ref 3 0 0 0, .imm (.int .i64 x4), .junk, .junk, .junk, .junk, .junk, .junk, .junk, .junk, .junk, .junk, .junk, .junk, .junk, .junk, .junk, .junk, .junk, .junk, .junk, .junk, .junk, .junk, .junk, .junk, .junk, .junk, .junk, .junk, .junk, .junk, .junk, .junk, .junk, .junk, .junk, .junk, .junk, .junk, .junk, .junk, .junk, .junk, .junk, .junk, .junk, .junk, .junk, .junk, .junk, .junk, .junk, .junk, .junk, .junk, .junk, .junk, .junk, .junk, .junk, .junk, .junk, .junk, .junk, .junk, .junk, .junk, .junk, .junk, .junk, .junk, .junk, .junk, .junk, .junk, .junk, .junk, .junk, .junk, .junk, .junk, .junk, .junk, .junk, .junk, .junk, .junk, .junk, .junk, .junk, .junk, .junk, .junk, .junk, .junk, .junk, .junk, .junk, .junk, .junk, .junk, .junk, .junk, .junk, .junk, .junk, .junk, .junk, .junk, .junk, .junk, .junk, .junk, .junk, .junk, .junk, .junk, .junk, .junk, .junk, .junk, .junk, .junk, .junk, .junk, .junk, .junk, .junk, .junk, .junk, .junk, .junk, .junk, .junk, .junk, .junk, .junk, .junk, .junk, .junk, .junk, .junk, .junk, .junk, .junk, .junk, .junk, .junk, .junk, .junk, .junk, .junk, .junk, .junk, .junk, .junk], [some (.box 132 (.agg [.imm (.int .u32 (a0.1.getD 0 default)), .imm (.int .u32 (a0.1.getD 1 default)), .imm (.int .u32 (a0.1.getD 2 default)), .imm (.int .u32 (a0.1.getD 3 default)), .imm (.int .u64 a0.2)]) false), some (.box 132 (.agg [.imm (.int .u32 (0 : Int)), .imm (.int .u32 (0 : Int)), .imm (.int .u32 (0 : Int)), .imm (.int .u32 (0 : Int)), .imm (.int .u64 (0 : Int))]) false), some (.box 139 (.agg (List.map (eI .u32) v1)) false), some (.box 110 (.agg [.imm (.int .u32 x5), .imm (.int .u32 x6), .imm (.int .u32 x7), .imm (.int .u32 x8)]) false)]⟩
mutual
def F101_J2 (m1 : Nat) (a1 : List (Int)) (x4 : Int) (a0 : (List (Int)) × (Int)) (v1 : List (Int)) (x5 : Int) (x6 : Int) (x7 : Int) (x8 : Int) (x16 : Int) (x17 : Int) : Option ((List (Int)) × (Int)) := grd (0 ≤ (IntKind.wrap .i64 ((4 : Int) * (x17.tmod (16 : Int)))) ∧ (IntKind.wrap .i64 ((4 : Int) * (x17.tmod (16 : Int)))) < (a1.length : Int)) (grd (0 ≤ (IntKind.wrap .i64 ((IntKind.wrap .i64 ((4 : Int) * (x17.tmod (16 : Int)))) + (1 : Int))) ∧ (IntKind.wrap .i64 ((IntKind.wrap .i64 ((4 : Int) * (x17.tmod (16 : Int)))) + (1 : Int))) < (a1.length : Int)) (grd (0 ≤ (IntKind.wrap .i64 ((IntKind.wrap .i64 ((4 : Int) * (x17.tmod (16 : Int)))) + (2 : Int))) ∧ (IntKind.wrap .i64 ((IntKind.wrap .i64 ((4 : Int) * (x17.tmod (16 : Int)))) + (2 : Int))) < (a1.length : Int)) (grd (0 ≤ (IntKind.wrap .i64 ((IntKind.wrap .i64 ((4 : Int) * (x17.tmod (16 : Int)))) + (3 : Int))) ∧ (IntKind.wrap .i64 ((IntKind.wrap .i64 ((4 : Int) * (x17.tmod (16 : Int)))) + (3 : Int))) < (a1.length : Int)) (grd (0 ≤ x4 ∧ x4 < (64 : Int)) (grd (x4.toNat < v1.length) (grd (0 ≤ (IntKind.wrap .i64 ((IntKind.wrap .i64 ((IntKind.wrap .i64 (x4.tdiv (16 : Int))) * (4 : Int))) + (x4.tmod (4 : Int)))) ∧ (IntKind.wrap .i64 ((IntKind.wrap .i64 ((IntKind.wrap .i64 (x4.tdiv (16 : Int))) * (4 : Int))) + (x4.tmod (4 : Int)))) < (16 : Int)) ((F117 m1 (IntKind.wrap .u32 ((IntKind.wrap .u32 ((IntKind.wrap .u32 (x5 + x16)) + (IntKind.wrap .u32 ((IntKind.wrap .u32 ((IntKind.wrap .u32 ((IntKind.wrap .u32 ((a1.getD (IntKind.wrap .i64 ((4 : Int) * (x17.tmod (16 : Int)))).toNat default))) + (IntKind.wrap .u32 (bShl .u32 (IntKind.wrap .u32 ((a1.getD (IntKind.wrap .i64 ((IntKind.wrap .i64 ((4 : Int) * (x17.tmod (16 : Int)))) + (1 : Int))).toNat default))) 8)))) + (IntKind.wrap .u32 (bShl .u32 (IntKind.wrap .u32 ((a1.getD (IntKind.wrap .i64 ((IntKind.wrap .i64 ((4 : Int) * (x17.tmod (16 : Int)))) + (2 : Int))).toNat default))) 16)))) + (IntKind.wrap .u32 (bShl .u32 (IntKind.wrap .u32 ((a1.getD (IntKind.wrap .i64 ((IntKind.wrap .i64 ((4 : Int) * (x17.tmod (16 : Int)))) + (3 : Int))).toNat default))) 24)))))) + (v1.getD x4.toNat default))) ([(7 : Int), (12 : Int), (17 : Int), (22 : Int), (5 : Int), (9 : Int), (14 : Int), (20 : Int), (4 : Int), (11 : Int), (16 : Int), (23 : Int), (6 : Int), (10 : Int), (15 : Int), (21 : Int)].getD (IntKind.wrap .i64 ((IntKind.wrap .i64 ((IntKind.wrap .i64 (x4.tdiv (16 : Int))) * (4 : Int))) + (x4.tmod (4 : Int)))).toNat default)).bind fun v26 => F101_L1 m1 a1 a0 v1 (IntKind.wrap .i64 (x4 + (1 : Int))) x8 (IntKind.wrap .u32 (x6 + v26)) x6 x7)))))))
def F101_L1 : Nat → (List (Int)) → ((List (Int)) × (Int)) → (List (Int)) → (Int) → (Int) → (Int) → (Int) → (Int) → Option ((List (Int)) × (Int))
  | 0, _, _, _, _, _, _, _, _ => none
  | m1 + 1, a1, a0, v1, x4, x5, x6, x7, x8 => iteB (decide (x4 < (64 : Int))) (iteB ((IntKind.wrap .i64 (x4.tdiv (16 : Int))) == (0 : Int)) ((F116 m1 x6).bind fun v11 => F101_J2 m1 a1 x4 a0 v1 x5 x6 x7 x8 (IntKind.wrap .u32 (bOr .u32 (IntKind.wrap .u32 (bAnd .u32 x6 x7)) (IntKind.wrap .u32 (bAnd .u32 v11 x8)))) x4) (iteB ((IntKind.wrap .i64 (x4.tdiv (16 : Int))) == (1 : Int)) ((F116 m1 x8).bind fun v13 => F101_J2 m1 a1 x4 a0 v1 x5 x6 x7 x8 (IntKind.wrap .u32 (bOr .u32 (IntKind.wrap .u32 (bAnd .u32 x8 x6)) (IntKind.wrap .u32 (bAnd .u32 v13 x7)))) (IntKind.wrap .i64 ((IntKind.wrap .i64 ((5 : Int) * x4)) + (1 : Int)))) (iteB ((IntKind.wrap .i64 (x4.tdiv (16 : Int))) == (2 : Int)) (F101_J2 m1 a1 x4 a0 v1 x5 x6 x7 x8 (IntKind.wrap .u32 (bXor .u32 (IntKind.wrap .u32 (bXor .u32 x6 x7)) x8)) (IntKind.wrap .i64 ((IntKind.wrap .i64 ((3 : Int) * x4)) + (5 : Int)))) ((F116 m1 x8).bind fun v15 => F101_J2 m1 a1 x4 a0 v1 x5 x6 x7 x8 (IntKind.wrap .u32 (bXor .u32 x7 (IntKind.wrap .u32 (bOr .u32 x6 v15)))) (IntKind.wrap .i64 ((7 : Int) * x4)))))) (some ([(IntKind.wrap .u32 ((a0.1.getD 0 default) + x5)), (IntKind.wrap .u32 ((a0.1.getD 1 default) + x6)), (IntKind.wrap .u32 ((a0.1.getD 2 default) + x7)), (IntKind.wrap .u32 ((a0.1.getD 3 default) + x8))], (IntKind.wrap .u64 (a0.2 + (64 : Int)))))
end
def F101 (n : Nat) (a0 : (List (Int)) × (Int)) (a1 : List (Int)) : Option ((List (Int)) × (Int)) := (F115 n ).bind fun v1 => grd (v1.length = 64) (F101_L1 n a1 a0 v1 (0 : Int) (a0.1.getD 0 default) (a0.1.getD 1 default) (a0.1.getD 2 default) (a0.1.getD 3 default))
set_option maxHeartbeats 4000000 in
theorem F101_ok : ∀ (n : Nat) (a0 : (List (Int)) × (Int)) (a1 : List (Int)) (r : (List (Int)) × (Int)), F101 n a0 a1 = some r → FnC Try.prog 101 [.agg [.imm (.int .u32 (a0.1.getD 0 default)), .imm (.int .u32 (a0.1.getD 1 default)), .imm (.int .u32 (a0.1.getD 2 default)), .imm (.int .u32 (a0.1.getD 3 default)), .imm (.int .u64 a0.2)], .sl 1 false (List.map byteT a1)] (.agg [.imm (.int .u32 (r.1.getD 0 default)), .imm (.int .u32 (r.1.getD 1 default)), .imm (.int .u32 (r.1.getD 2 default)), .imm (.int .u32 (r.1.getD 3 default)), .imm (.int .u64 r.2)])
  | n, a0, a1, r, h => by
    unfold F101 at h
    refine FnC.goX mixed Try.func101 (by kernel_rfl) rfl ?_
    simp only [Try.ntmps101, List.length_cons, List.length_nil, List.replicate, List.cons_append, List.nil_append, Nat.reduceAdd, Nat.reduceSub]
    refine runX_seq ?_
    refine runX_regionC fun C hC => ?_
    try simp -implicitDefEqProofs (maxSteps := 4000000) (disch := first | omega | decide | (simp only [go_sem]; omega)) only [go_sem, ↓reduceIte]
    repeat (with_reducible refine And.intro (by first | assumption | omega | (simp; done) | (simp; omega)) ?_)
    refine toEnd hC ?_
    refine endX_seq ?_
    refine runX_seq ?_
    refine runX_regionC fun C hC => ?_
    simp only [runK_region, runK_draw, liteL, liteL2, dstsL, gL, List.getD_cons_zero, List.getD_cons_succ]
    obtain ⟨v1, h1, h⟩ := bnd_some h
    try simp -implicitDefEqProofs (maxSteps := 4000000) (disch := first | omega | decide | (simp only [go_sem]; omega)) only [go_sem, ↓reduceIte]
    repeat (with_reducible refine And.intro (by first | assumption | omega | (simp; done) | (simp; omega)) ?_)
    refine callG_X (by first | rfl | (simp only [go_sem]; done) | (simp only [closedL, closedT, Bool.and_true]; exact closedL_map _ (fun _ => by first | rfl | (simp only [go_sem]; done)) _)) (F115_ok n  _ h1) (by repeat (first | exact leL_refl _ | refine leL_cons (by first | exact leT_refl _ | exact leT_virt | exact leT_junk _ | exact leT_sl | exact leT_sln | exact leT_nil | (refine leT_agg (by repeat (first | exact leL_refl _ | refine leL_cons (by first | exact leT_refl _ | exact leT_sl | exact leT_sln | exact leT_nil) ?_)))) ?_)) ?_
    obtain ⟨g2, h⟩ := grd_some h
    have e3 : List.drop v1.length ((.imm (.int .u32 (0 : Int)) :: .imm (.int .u32 (0 : Int)) :: .imm (.int .u32 (0 : Int)) :: .imm (.int .u32 (0 : Int)) :: .imm (.int .u32 (0 : Int)) :: .imm (.int .u32 (0 : Int)) :: .imm (.int .u32 (0 : Int)) :: .imm (.int .u32 (0 : Int)) :: .imm (.int .u32 (0 : Int)) :: .imm (.int .u32 (0 : Int)) :: .imm (.int .u32 (0 : Int)) :: .imm (.int .u32 (0 : Int)) :: .imm (.int .u32 (0 : Int)) :: .imm (.int .u32 (0 : Int)) :: .imm (.int .u32 (0 : Int)) :: .imm (.int .u32 (0 : Int)) :: .imm (.int .u32 (0 : Int)) :: .imm (.int .u32 (0 : Int)) :: .imm (.int .u32 (0 : Int)) :: .imm (.int .u32 (0 : Int)) :: .imm (.int .u32 (0 : Int)) :: .imm (.int .u32 (0 : Int)) :: .imm (.int .u32 (0 : Int)) :: .imm (.int .u32 (0 : Int)) :: .imm (.int .u32 (0 : Int)) :: .imm (.int .u32 (0 : Int)) :: .imm (.int .u32 (0 : Int)) :: .imm (.int .u32 (0 : Int)) :: .imm (.int .u32 (0 : Int)) :: .imm (.int .u32 (0 : Int)) :: .imm (.int .u32 (0 : Int)) :: .imm (.int .u32 (0 : Int)) :: .imm (.int .u32 (0 : Int)) :: .imm (.int .u32 (0 : Int)) :: .imm (.int .u32 (0 : Int)) :: .imm (.int .u32 (0 : Int)) :: .imm (.int .u32 (0 : Int)) :: .imm (.int .u32 (0 : Int)) :: .imm (.int .u32 (0 : Int)) :: .imm (.int .u32 (0 : Int)) :: .imm (.int .u32 (0 : Int)) :: .imm (.int .u32 (0 : Int)) :: .imm (.int .u32 (0 : Int)) :: .imm (.int .u32 (0 : Int)) :: .imm (.int .u32 (0 : Int)) :: .imm (.int .u32 (0 : Int)) :: .imm (.int .u32 (0 : Int)) :: .imm (.int .u32 (0 : Int)) :: .imm (.int .u32 (0 : Int)) :: .imm (.int .u32 (0 : Int)) :: .imm (.int .u32 (0 : Int)) :: .imm (.int .u32 (0 : Int)) :: .imm (.int .u32 (0 : Int)) :: .imm (.int .u32 (0 : Int)) :: .imm (.int .u32 (0 : Int)) :: .imm (.int .u32 (0 : Int)) :: .imm (.int .u32 (0 : Int)) :: .imm (.int .u32 (0 : Int)) :: .imm (.int .u32 (0 : Int)) :: .imm (.int .u32 (0 : Int)) :: .imm (.int .u32 (0 : Int)) :: .imm (.int .u32 (0 : Int)) :: .imm (.int .u32 (0 : Int)) :: .imm (.int .u32 (0 : Int)) :: ([] : List T)) : List T) = [] := drop_all (by first | (simp only [List.length_cons, List.length_nil]; omega) | (simp; omega))
    try simp -implicitDefEqProofs (maxSteps := 4000000) (disch := first | omega | decide | (simp only [go_sem]; omega)) only [go_sem, ↓reduceIte, e3]
    repeat (with_reducible refine And.intro (by first | assumption | omega | (simp; done) | (simp; omega)) ?_)
    refine toEnd hC ?_
    refine endX_seq ?_
    refine runX_seq ?_
    refine runX_regionC fun C hC => ?_
    simp only [runK_region, runK_draw, liteL, liteL2, dstsL, gL, List.getD_cons_zero, List.getD_cons_succ]
    try simp -implicitDefEqProofs (maxSteps := 4000000) (disch := first | omega | decide | (simp only [go_sem]; omega)) only [go_sem, ↓reduceIte]
    repeat (with_reducible refine And.intro (by first | assumption | omega | (simp; done) | (simp; omega)) ?_)
    refine bs_go <| buildX_val ?_
    try simp -implicitDefEqProofs (maxSteps := 4000000) (disch := first | omega | decide | (simp only [go_sem]; omega)) only [go_sem, ↓reduceIte]
    repeat (with_reducible refine And.intro (by first | assumption | omega | (simp; done) | (simp; omega)) ?_)
    refine toEnd hC ?_
    refine endX_seq ?_
    refine runX_seq ?_
    refine runX_regionC fun C hC => ?_
    try simp -implicitDefEqProofs (maxSteps := 4000000) (disch := first | omega | decide | (simp only [go_sem]; omega)) only [go_sem, ↓reduceIte]
    repeat (with_reducible refine And.intro (by first | assumption | omega | (simp; done) | (simp; omega)) ?_)
    refine toEnd hC ?_
    refine endX_seq ?_
    refine runX_seq ?_
    refine runX_seq ?_
    refine runX_regionC fun C hC => ?_
    try simp -implicitDefEqProofs (maxSteps := 4000000) (disch := first | omega | decide | (simp only [go_sem]; omega)) only [go_sem, ↓reduceIte]
    repeat (with_reducible refine And.intro (by first | assumption | omega | (simp; done) | (simp; omega)) ?_)
    refine toEnd hC ?_
    refine endX_seq ?_
    refine runX_block ?_
    refine runX_loop [1, 2, 4, 5, 6, 7, 8] (fun m S => ∃ (x4 : Int) (x5 : Int) (x6 : Int) (x7 : Int) (x8 : Int), S = F101_S1 a1 a0 v1 x4 x5 x6 x7 x8 ∧ m ≤ n ∧ F101_L1 m a1 a0 v1 x4 x5 x6 x7 x8 = some r) n ⟨F101_S1 a1 a0 v1 (0 : Int) (a0.1.getD 0 default) (a0.1.getD 1 default) (a0.1.getD 2 default) (a0.1.getD 3 default), ?_, (0 : Int), (a0.1.getD 0 default), (a0.1.getD 1 default), (a0.1.getD 2 default), (a0.1.getD 3 default), rfl, Nat.le_refl _, h⟩ ?_
    · simp only [F101_S1]
      (try simp -implicitDefEqProofs (maxSteps := 4000000) (disch := first | omega | decide | (simp only [go_sem]; omega)) only [go_sem, ↓reduceIte])
      first | exact leS_refl _ | (refine leS_le ?_ ?_ <;> first | exact leL_refl _ | exact leOs_refl _ | (simp only [List.append_assoc, List.cons_append, List.nil_append]; exact leOs_refl _) | (repeat (first | exact leL_refl _ | refine leL_cons (by first | exact leT_refl _ | exact leT_virt | exact leT_junk _ | exact leT_sl | exact leT_sln | exact leT_nil | (refine leT_agg (by repeat (first | exact leL_refl _ | refine leL_cons (by first | exact leT_refl _ | exact leT_sl | exact leT_sln | exact leT_nil) ?_)))) ?_)))
    · clear h
      rintro m1 S ⟨x4, x5, x6, x7, x8, rfl, hm1, h⟩
      cases m1 with
      | zero => first | cases (show (none : Option _) = some _ from h) | (rw [F101_L1] at h; cases h)
      | succ m1 =>
        rw [F101_L1] at h
        simp only [F101_S1]
        refine runX_seq ?_
        refine runX_seq ?_
        refine runX_regionC fun C hC => ?_
        try simp -implicitDefEqProofs (maxSteps := 4000000) (disch := first | omega | decide | (simp only [go_sem]; omega)) only [go_sem, ↓reduceIte]
        repeat (with_reducible refine And.intro (by first | assumption | omega | (simp; done) | (simp; omega)) ?_)
        refine toEnd hC ?_
        refine endX_seq ?_
        rcases iteB_some h with ⟨c9, h⟩ | ⟨c9, h⟩
        · refine runX_condT rfl c9 ?_
          refine runX_skip ?_
          refine endX_seq ?_
          refine runX_seq ?_
          refine runX_block ?_
          refine runX_seq ?_
          refine runX_regionC fun C hC => ?_
          try simp -implicitDefEqProofs (maxSteps := 4000000) (disch := first | omega | decide | (simp only [go_sem]; omega)) only [go_sem, ↓reduceIte]
          repeat (with_reducible refine And.intro (by first | assumption | omega | (simp; done) | (simp; omega)) ?_)
          refine toEnd hC ?_
          refine endX_seq ?_
          refine runX_seq ?_
          refine runX_regionC fun C hC => ?_
          try simp -implicitDefEqProofs (maxSteps := 4000000) (disch := first | omega | decide | (simp only [go_sem]; omega)) only [go_sem, ↓reduceIte]
          repeat (with_reducible refine And.intro (by first | assumption | omega | (simp; done) | (simp; omega)) ?_)
          refine toEnd hC ?_
          refine endX_seq ?_
          refine runX_meet [1, 2, 4, 5, 6, 7, 8, 9, 10] (fun S => ∃ (x16 : Int) (x17 : Int), S = F101_S2 a1 x4 a0 v1 x5 x6 x7 x8 x16 x17 ∧ F101_J2 m1 a1 x4 a0 v1 x5 x6 x7 x8 x16 x17 = some r) ?_ ?_
          · refine runX_seq ?_
            refine runX_regionC fun C hC => ?_
            try simp -implicitDefEqProofs (maxSteps := 4000000) (disch := first | omega | decide | (simp only [go_sem]; omega)) only [go_sem, ↓reduceIte]
            repeat (with_reducible refine And.intro (by first | assumption | omega | (simp; done) | (simp; omega)) ?_)
            refine toEnd hC ?_
            refine endX_seq ?_
            refine runX_block ?_
            refine runX_seq ?_
            refine runX_regionC fun C hC => ?_
            try simp -implicitDefEqProofs (maxSteps := 4000000) (disch := first | omega | decide | (simp only [go_sem]; omega)) only [go_sem, ↓reduceIte]
            repeat (with_reducible refine And.intro (by first | assumption | omega | (simp; done) | (simp; omega)) ?_)
            refine toEnd hC ?_
            refine endX_seq ?_
            rcases iteB_some h with ⟨c10, h⟩ | ⟨c10, h⟩
            · refine runX_condT rfl c10 ?_
              refine runX_seq ?_
              refine runX_drawC mixed (by kernel_rfl) fun C hC => ?_
              obtain ⟨v11, h11, h⟩ := bnd_some h
              try simp -implicitDefEqProofs (maxSteps := 4000000) (disch := first | omega | decide | (simp only [go_sem]; omega)) only [go_sem, ↓reduceIte]
              repeat (with_reducible refine And.intro (by first | assumption | omega | (simp; done) | (simp; omega)) ?_)
              refine callD_X (F116_ok m1 x6 _ h11) (by repeat (first | exact leL_refl _ | refine leL_cons (by first | exact leT_refl _ | exact leT_virt | exact leT_junk _ | exact leT_sl | exact leT_sln | exact leT_nil | (refine leT_agg (by repeat (first | exact leL_refl _ | refine leL_cons (by first | exact leT_refl _ | exact leT_sl | exact leT_sln | exact leT_nil) ?_)))) ?_)) ?_
              try simp -implicitDefEqProofs (maxSteps := 4000000) (disch := first | omega | decide | (simp only [go_sem]; omega)) only [go_sem, ↓reduceIte]
              repeat (with_reducible refine And.intro (by first | assumption | omega | (simp; done) | (simp; omega)) ?_)
              refine toEnd hC ?_
              refine endX_seq ?_
              refine runX_regionC fun C hC => ?_
              try simp -implicitDefEqProofs (maxSteps := 4000000) (disch := first | omega | decide | (simp only [go_sem]; omega)) only [go_sem, ↓reduceIte]
              repeat (with_reducible refine And.intro (by first | assumption | omega | (simp; done) | (simp; omega)) ?_)
              refine toEnd hC ?_
              refine endX_blk ?_
              refine endX_q (meetQ_normal ⟨F101_S2 a1 x4 a0 v1 x5 x6 x7 x8 (IntKind.wrap .u32 (bOr .u32 (IntKind.wrap .u32 (bAnd .u32 x6 x7)) (IntKind.wrap .u32 (bAnd .u32 v11 x8)))) x4, ?_, (IntKind.wrap .u32 (bOr .u32 (IntKind.wrap .u32 (bAnd .u32 x6 x7)) (IntKind.wrap .u32 (bAnd .u32 v11 x8)))), x4, rfl, h⟩)
              simp only [F101_S2]
              (try simp -implicitDefEqProofs (maxSteps := 4000000) (disch := first | omega | decide | (simp only [go_sem]; omega)) only [go_sem, ↓reduceIte])
              first | exact leS_refl _ | (refine leS_le ?_ ?_ <;> first | exact leL_refl _ | exact leOs_refl _ | (simp only [List.append_assoc, List.cons_append, List.nil_append]; exact leOs_refl _) | (repeat (first | exact leL_refl _ | refine leL_cons (by first | exact leT_refl _ | exact leT_virt | exact leT_junk _ | exact leT_sl | exact leT_sln | exact leT_nil | (refine leT_agg (by repeat (first | exact leL_refl _ | refine leL_cons (by first | exact leT_refl _ | exact leT_sl | exact leT_sln | exact leT_nil) ?_)))) ?_)))
            · refine runX_condF rfl c10 ?_
              refine runX_seq ?_
              refine runX_regionC fun C hC => ?_
              try simp -implicitDefEqProofs (maxSteps := 4000000) (disch := first | omega | decide | (simp only [go_sem]; omega)) only [go_sem, ↓reduceIte]
              repeat (with_reducible refine And.intro (by first | assumption | omega | (simp; done) | (simp; omega)) ?_)
              refine toEnd hC ?_
              refine endX_seq ?_
              rcases iteB_some h with ⟨c12, h⟩ | ⟨c12, h⟩
              · refine runX_condT rfl c12 ?_
                refine runX_seq ?_
                refine runX_drawC mixed (by kernel_rfl) fun C hC => ?_
                obtain ⟨v13, h13, h⟩ := bnd_some h
                try simp -implicitDefEqProofs (maxSteps := 4000000) (disch := first | omega | decide | (simp only [go_sem]; omega)) only [go_sem, ↓reduceIte]
                repeat (with_reducible refine And.intro (by first | assumption | omega | (simp; done) | (simp; omega)) ?_)
                refine callD_X (F116_ok m1 x8 _ h13) (by repeat (first | exact leL_refl _ | refine leL_cons (by first | exact leT_refl _ | exact leT_virt | exact leT_junk _ | exact leT_sl | exact leT_sln | exact leT_nil | (refine leT_agg (by repeat (first | exact leL_refl _ | refine leL_cons (by first | exact leT_refl _ | exact leT_sl | exact leT_sln | exact leT_nil) ?_)))) ?_)) ?_
                try simp -implicitDefEqProofs (maxSteps := 4000000) (disch := first | omega | decide | (simp only [go_sem]; omega)) only [go_sem, ↓reduceIte]
                repeat (with_reducible refine And.intro (by first | assumption | omega | (simp; done) | (simp; omega)) ?_)
                refine toEnd hC ?_
                refine endX_seq ?_
                refine runX_regionC fun C hC => ?_
                try simp -implicitDefEqProofs (maxSteps := 4000000) (disch := first | omega | decide | (simp only [go_sem]; omega)) only [go_sem, ↓reduceIte]
                repeat (with_reducible refine And.intro (by first | assumption | omega | (simp; done) | (simp; omega)) ?_)
                refine toEnd hC ?_
                refine endX_blk ?_
                refine endX_q (meetQ_normal ⟨F101_S2 a1 x4 a0 v1 x5 x6 x7 x8 (IntKind.wrap .u32 (bOr .u32 (IntKind.wrap .u32 (bAnd .u32 x8 x6)) (IntKind.wrap .u32 (bAnd .u32 v13 x7)))) (IntKind.wrap .i64 ((IntKind.wrap .i64 ((5 : Int) * x4)) + (1 : Int))), ?_, (IntKind.wrap .u32 (bOr .u32 (IntKind.wrap .u32 (bAnd .u32 x8 x6)) (IntKind.wrap .u32 (bAnd .u32 v13 x7)))), (IntKind.wrap .i64 ((IntKind.wrap .i64 ((5 : Int) * x4)) + (1 : Int))), rfl, h⟩)
                simp only [F101_S2]
                (try simp -implicitDefEqProofs (maxSteps := 4000000) (disch := first | omega | decide | (simp only [go_sem]; omega)) only [go_sem, ↓reduceIte])
                first | exact leS_refl _ | (refine leS_le ?_ ?_ <;> first | exact leL_refl _ | exact leOs_refl _ | (simp only [List.append_assoc, List.cons_append, List.nil_append]; exact leOs_refl _) | (repeat (first | exact leL_refl _ | refine leL_cons (by first | exact leT_refl _ | exact leT_virt | exact leT_junk _ | exact leT_sl | exact leT_sln | exact leT_nil | (refine leT_agg (by repeat (first | exact leL_refl _ | refine leL_cons (by first | exact leT_refl _ | exact leT_sl | exact leT_sln | exact leT_nil) ?_)))) ?_)))
              · refine runX_condF rfl c12 ?_
                refine runX_seq ?_
                refine runX_regionC fun C hC => ?_
                try simp -implicitDefEqProofs (maxSteps := 4000000) (disch := first | omega | decide | (simp only [go_sem]; omega)) only [go_sem, ↓reduceIte]
                repeat (with_reducible refine And.intro (by first | assumption | omega | (simp; done) | (simp; omega)) ?_)
                refine toEnd hC ?_
                refine endX_seq ?_
                rcases iteB_some h with ⟨c14, h⟩ | ⟨c14, h⟩
                · refine runX_condT rfl c14 ?_
                  refine runX_seq ?_
                  refine runX_regionC fun C hC => ?_
                  try simp -implicitDefEqProofs (maxSteps := 4000000) (disch := first | omega | decide | (simp only [go_sem]; omega)) only [go_sem, ↓reduceIte]
                  repeat (with_reducible refine And.intro (by first | assumption | omega | (simp; done) | (simp; omega)) ?_)
                  refine toEnd hC ?_
                  refine endX_seq ?_
                  refine runX_regionC fun C hC => ?_
                  try simp -implicitDefEqProofs (maxSteps := 4000000) (disch := first | omega | decide | (simp only [go_sem]; omega)) only [go_sem, ↓reduceIte]
                  repeat (with_reducible refine And.intro (by first | assumption | omega | (simp; done) | (simp; omega)) ?_)
                  refine toEnd hC ?_
                  refine endX_blk ?_
                  refine endX_q (meetQ_normal ⟨F101_S2 a1 x4 a0 v1 x5 x6 x7 x8 (IntKind.wrap .u32 (bXor .u32 (IntKind.wrap .u32 (bXor .u32 x6 x7)) x8)) (IntKind.wrap .i64 ((IntKind.wrap .i64 ((3 : Int) * x4)) + (5 : Int))), ?_, (IntKind.wrap .u32 (bXor .u32 (IntKind.wrap .u32 (bXor .u32 x6 x7)) x8)), (IntKind.wrap .i64 ((IntKind.wrap .i64 ((3 : Int) * x4)) + (5 : Int))), rfl, h⟩)
                  simp only [F101_S2]
                  (try simp -implicitDefEqProofs (maxSteps := 4000000) (disch := first | omega | decide | (simp only [go_sem]; omega)) only [go_sem, ↓reduceIte])
                  first | exact leS_refl _ | (refine leS_le ?_ ?_ <;> first | exact leL_refl _ | exact leOs_refl _ | (simp only [List.append_assoc, List.cons_append, List.nil_append]; exact leOs_refl _) | (repeat (first | exact leL_refl _ | refine leL_cons (by first | exact leT_refl _ | exact leT_virt | exact leT_junk _ | exact leT_sl | exact leT_sln | exact leT_nil | (refine leT_agg (by repeat (first | exact leL_refl _ | refine leL_cons (by first | exact leT_refl _ | exact leT_sl | exact leT_sln | exact leT_nil) ?_)))) ?_)))
                · refine runX_condF rfl c14 ?_
                  refine runX_seq ?_
                  refine runX_drawC mixed (by kernel_rfl) fun C hC => ?_
                  obtain ⟨v15, h15, h⟩ := bnd_some h
                  try simp -implicitDefEqProofs (maxSteps := 4000000) (disch := first | omega | decide | (simp only [go_sem]; omega)) only [go_sem, ↓reduceIte]
                  repeat (with_reducible refine And.intro (by first | assumption | omega | (simp; done) | (simp; omega)) ?_)
                  refine callD_X (F116_ok m1 x8 _ h15) (by repeat (first | exact leL_refl _ | refine leL_cons (by first | exact leT_refl _ | exact leT_virt | exact leT_junk _ | exact leT_sl | exact leT_sln | exact leT_nil | (refine leT_agg (by repeat (first | exact leL_refl _ | refine leL_cons (by first | exact leT_refl _ | exact leT_sl | exact leT_sln | exact leT_nil) ?_)))) ?_)) ?_
                  try simp -implicitDefEqProofs (maxSteps := 4000000) (disch := first | omega | decide | (simp only [go_sem]; omega)) only [go_sem, ↓reduceIte]
                  repeat (with_reducible refine And.intro (by first | assumption | omega | (simp; done) | (simp; omega)) ?_)
                  refine toEnd hC ?_
                  refine endX_seq ?_
                  refine runX_regionC fun C hC => ?_
                  try simp -implicitDefEqProofs (maxSteps := 4000000) (disch := first | omega | decide | (simp only [go_sem]; omega)) only [go_sem, ↓reduceIte]
                  repeat (with_reducible refine And.intro (by first | assumption | omega | (simp; done) | (simp; omega)) ?_)
                  refine toEnd hC ?_
                  refine endX_blk ?_
                  refine endX_q (meetQ_normal ⟨F101_S2 a1 x4 a0 v1 x5 x6 x7 x8 (IntKind.wrap .u32 (bXor .u32 x7 (IntKind.wrap .u32 (bOr .u32 x6 v15)))) (IntKind.wrap .i64 ((7 : Int) * x4)), ?_, (IntKind.wrap .u32 (bXor .u32 x7 (IntKind.wrap .u32 (bOr .u32 x6 v15)))), (IntKind.wrap .i64 ((7 : Int) * x4)), rfl, h⟩)
                  simp only [F101_S2]
                  (try simp -implicitDefEqProofs (maxSteps := 4000000) (disch := first | omega | decide | (simp only [go_sem]; omega)) only [go_sem, ↓reduceIte])
                  first | exact leS_refl _ | (refine leS_le ?_ ?_ <;> first | exact leL_refl _ | exact leOs_refl _ | (simp only [List.append_assoc, List.cons_append, List.nil_append]; exact leOs_refl _) | (repeat (first | exact leL_refl _ | refine leL_cons (by first | exact leT_refl _ | exact leT_virt | exact leT_junk _ | exact leT_sl | exact leT_sln | exact leT_nil | (refine leT_agg (by repeat (first | exact leL_refl _ | refine leL_cons (by first | exact leT_refl _ | exact leT_sl | exact leT_sln | exact leT_nil) ?_)))) ?_)))
          · clear h
            rintro S ⟨x16, x17, rfl, h⟩
            rw [F101_J2] at h
            simp only [F101_S2]
            refine runX_seq ?_
            refine runX_regionC fun C hC => ?_
            try simp -implicitDefEqProofs (maxSteps := 4000000) (disch := first | omega | decide | (simp only [go_sem]; omega)) only [go_sem, ↓reduceIte]
            repeat (with_reducible refine And.intro (by first | assumption | omega | (simp; done) | (simp; omega)) ?_)
            refine toEnd hC ?_
            refine endX_seq ?_
            refine runX_seq ?_
            refine runX_drawC mixed (by kernel_rfl) fun C hC => ?_
            obtain ⟨g18, h⟩ := grd_some h
            obtain ⟨g19, h⟩ := grd_some h
            obtain ⟨g20, h⟩ := grd_some h
            obtain ⟨g21, h⟩ := grd_some h
            try simp -implicitDefEqProofs (maxSteps := 4000000) (disch := first | omega | decide | (simp only [go_sem]; omega)) only [go_sem, ↓reduceIte]
            repeat (with_reducible refine And.intro (by first | assumption | omega | (simp; done) | (simp; omega)) ?_)
            refine toEnd hC ?_
            refine endX_seq ?_
            refine runX_drawC mixed (by kernel_rfl) fun C hC => ?_
            obtain ⟨g22, h⟩ := grd_some h
            obtain ⟨g23, h⟩ := grd_some h
            obtain ⟨g24, h⟩ := grd_some h
            have e25 : ([.imm (.int .u64 (7 : Int)), .imm (.int .u64 (12 : Int)), .imm (.int .u64 (17 : Int)), .imm (.int .u64 (22 : Int)), .imm (.int .u64 (5 : Int)), .imm (.int .u64 (9 : Int)), .imm (.int .u64 (14 : Int)), .imm (.int .u64 (20 : Int)), .imm (.int .u64 (4 : Int)), .imm (.int .u64 (11 : Int)), .imm (.int .u64 (16 : Int)), .imm (.int .u64 (23 : Int)), .imm (.int .u64 (6 : Int)), .imm (.int .u64 (10 : Int)), .imm (.int .u64 (15 : Int)), .imm (.int .u64 (21 : Int))] : List T).getD ((IntKind.wrap .i64 ((IntKind.wrap .i64 ((IntKind.wrap .i64 (x4.tdiv (16 : Int))) * (4 : Int))) + (x4.tmod (4 : Int)))).toNat) .junk = .imm (.int .u64 ([(7 : Int), (12 : Int), (17 : Int), (22 : Int), (5 : Int), (9 : Int), (14 : Int), (20 : Int), (4 : Int), (11 : Int), (16 : Int), (23 : Int), (6 : Int), (10 : Int), (15 : Int), (21 : Int)].getD ((IntKind.wrap .i64 ((IntKind.wrap .i64 ((IntKind.wrap .i64 (x4.tdiv (16 : Int))) * (4 : Int))) + (x4.tmod (4 : Int)))).toNat) default)) := getD_map (eI .u64) (l := [(7 : Int), (12 : Int), (17 : Int), (22 : Int), (5 : Int), (9 : Int), (14 : Int), (20 : Int), (4 : Int), (11 : Int), (16 : Int), (23 : Int), (6 : Int), (10 : Int), (15 : Int), (21 : Int)]) (i := (IntKind.wrap .i64 ((IntKind.wrap .i64 ((IntKind.wrap .i64 (x4.tdiv (16 : Int))) * (4 : Int))) + (x4.tmod (4 : Int)))).toNat) (by simp only [List.length_cons, List.length_nil]; omega)
            obtain ⟨v26, h26, h⟩ := bnd_some h
            try simp -implicitDefEqProofs (maxSteps := 4000000) (disch := first | omega | decide | (simp only [go_sem]; omega)) only [go_sem, ↓reduceIte, e25]
            repeat (with_reducible refine And.intro (by first | assumption | omega | (simp; done) | (simp; omega)) ?_)
            refine callD_X (F117_ok m1 (IntKind.wrap .u32 ((IntKind.wrap .u32 ((IntKind.wrap .u32 (x5 + x16)) + (IntKind.wrap .u32 ((IntKind.wrap .u32 ((IntKind.wrap .u32 ((IntKind.wrap .u32 ((a1.getD (IntKind.wrap .i64 ((4 : Int) * (x17.tmod (16 : Int)))).toNat default))) + (IntKind.wrap .u32 (bShl .u32 (IntKind.wrap .u32 ((a1.getD (IntKind.wrap .i64 ((IntKind.wrap .i64 ((4 : Int) * (x17.tmod (16 : Int)))) + (1 : Int))).toNat default))) 8)))) + (IntKind.wrap .u32 (bShl .u32 (IntKind.wrap .u32 ((a1.getD (IntKind.wrap .i64 ((IntKind.wrap .i64 ((4 : Int) * (x17.tmod (16 : Int)))) + (2 : Int))).toNat default))) 16)))) + (IntKind.wrap .u32 (bShl .u32 (IntKind.wrap .u32 ((a1.getD (IntKind.wrap .i64 ((IntKind.wrap .i64 ((4 : Int) * (x17.tmod (16 : Int)))) + (3 : Int))).toNat default))) 24)))))) + (v1.getD x4.toNat default))) ([(7 : Int), (12 : Int), (17 : Int), (22 : Int), (5 : Int), (9 : Int), (14 : Int), (20 : Int), (4 : Int), (11 : Int), (16 : Int), (23 : Int), (6 : Int), (10 : Int), (15 : Int), (21 : Int)].getD (IntKind.wrap .i64 ((IntKind.wrap .i64 ((IntKind.wrap .i64 (x4.tdiv (16 : Int))) * (4 : Int))) + (x4.tmod (4 : Int)))).toNat default) _ h26) (by repeat (first | exact leL_refl _ | refine leL_cons (by first | exact leT_refl _ | exact leT_virt | exact leT_junk _ | exact leT_sl | exact leT_sln | exact leT_nil | (refine leT_agg (by repeat (first | exact leL_refl _ | refine leL_cons (by first | exact leT_refl _ | exact leT_sl | exact leT_sln | exact leT_nil) ?_)))) ?_)) ?_
            try simp -implicitDefEqProofs (maxSteps := 4000000) (disch := first | omega | decide | (simp only [go_sem]; omega)) only [go_sem, ↓reduceIte, e25]
            repeat (with_reducible refine And.intro (by first | assumption | omega | (simp; done) | (simp; omega)) ?_)
            refine buildW_of [.imm (.int .u32 x8), .imm (.int .u32 (IntKind.wrap .u32 (x6 + v26))), .imm (.int .u32 x6), .imm (.int .u32 x7)] (by kernel_rfl) ?_
            try simp -implicitDefEqProofs (maxSteps := 4000000) (disch := first | omega | decide | (simp only [go_sem]; omega)) only [go_sem, ↓reduceIte, e25]
            repeat (with_reducible refine And.intro (by first | assumption | omega | (simp; done) | (simp; omega)) ?_)
            refine toEnd hC ?_
            refine endX_blk ?_
            refine endX_seq ?_
            refine runX_regionC fun C hC => ?_
            try simp -implicitDefEqProofs (maxSteps := 4000000) (disch := first | omega | decide | (simp only [go_sem]; omega)) only [go_sem, ↓reduceIte]
            repeat (with_reducible refine And.intro (by first | assumption | omega | (simp; done) | (simp; omega)) ?_)
            refine toEnd hC ?_
            refine endX_q (roundQ_normal ⟨m1, by omega, F101_S1 a1 a0 v1 (IntKind.wrap .i64 (x4 + (1 : Int))) x8 (IntKind.wrap .u32 (x6 + v26)) x6 x7, ?_, (IntKind.wrap .i64 (x4 + (1 : Int))), x8, (IntKind.wrap .u32 (x6 + v26)), x6, x7, rfl, by omega, h⟩)
            simp only [F101_S1]
            (try simp -implicitDefEqProofs (maxSteps := 4000000) (disch := first | omega | decide | (simp only [go_sem]; omega)) only [go_sem, ↓reduceIte])
            first | exact leS_refl _ | (refine leS_le ?_ ?_ <;> first | exact leL_refl _ | exact leOs_refl _ | (simp only [List.append_assoc, List.cons_append, List.nil_append]; exact leOs_refl _) | (repeat (first | exact leL_refl _ | refine leL_cons (by first | exact leT_refl _ | exact leT_virt | exact leT_junk _ | exact leT_sl | exact leT_sln | exact leT_nil | (refine leT_agg (by repeat (first | exact leL_refl _ | refine leL_cons (by first | exact leT_refl _ | exact leT_sl | exact leT_sln | exact leT_nil) ?_)))) ?_)))
        · refine runX_condF rfl c9 ?_
          refine runX_exit ?_
          refine endX_seqE ?_
          refine endX_q (roundQ_exit ?_)
          refine endX_blkE ?_
          refine endX_seq ?_
          refine runX_seq ?_
          refine runX_seq ?_
          refine runX_regionC fun C hC => ?_
          try simp -implicitDefEqProofs (maxSteps := 4000000) (disch := first | omega | decide | (simp only [go_sem]; omega)) only [go_sem, ↓reduceIte]
          repeat (with_reducible refine And.intro (by first | assumption | omega | (simp; done) | (simp; omega)) ?_)
          refine toEnd hC ?_
          refine endX_seq ?_
          refine runX_block ?_
          refine runX_unroll 4 ?_
          refine runX_seq ?_
          refine runX_seq ?_
          refine runX_regionC fun C hC => ?_
          try simp -implicitDefEqProofs (maxSteps := 4000000) (disch := first | omega | decide | (simp only [go_sem]; omega)) only [go_sem, ↓reduceIte]
          repeat (with_reducible refine And.intro (by first | assumption | omega | (simp; done) | (simp; omega)) ?_)
          refine toEnd hC ?_
          refine endX_seq ?_
          refine runX_condT rfl rfl ?_
          refine runX_skip ?_
          refine endX_seq ?_
          refine runX_seq ?_
          refine runX_block ?_
          refine runX_drawC mixed (by kernel_rfl) fun C hC => ?_
          try simp -implicitDefEqProofs (maxSteps := 4000000) (disch := first | omega | decide | (simp only [go_sem]; omega)) only [go_sem, ↓reduceIte]
          repeat (with_reducible refine And.intro (by first | assumption | omega | (simp; done) | (simp; omega)) ?_)
          refine toEnd hC ?_
          refine endX_blk ?_
          refine endX_seq ?_
          refine runX_regionC fun C hC => ?_
          try simp -implicitDefEqProofs (maxSteps := 4000000) (disch := first | omega | decide | (simp only [go_sem]; omega)) only [go_sem, ↓reduceIte]
          repeat (with_reducible refine And.intro (by first | assumption | omega | (simp; done) | (simp; omega)) ?_)
          refine toEnd hC ?_
          refine endX_lp ?_
          refine runX_seq ?_
          refine runX_seq ?_
          refine runX_regionC fun C hC => ?_
          try simp -implicitDefEqProofs (maxSteps := 4000000) (disch := first | omega | decide | (simp only [go_sem]; omega)) only [go_sem, ↓reduceIte]
          repeat (with_reducible refine And.intro (by first | assumption | omega | (simp; done) | (simp; omega)) ?_)
          refine toEnd hC ?_
          refine endX_seq ?_
          refine runX_condT rfl rfl ?_
          refine runX_skip ?_
          refine endX_seq ?_
          refine runX_seq ?_
          refine runX_block ?_
          refine runX_drawC mixed (by kernel_rfl) fun C hC => ?_
          try simp -implicitDefEqProofs (maxSteps := 4000000) (disch := first | omega | decide | (simp only [go_sem]; omega)) only [go_sem, ↓reduceIte]
          repeat (with_reducible refine And.intro (by first | assumption | omega | (simp; done) | (simp; omega)) ?_)
          refine toEnd hC ?_
          refine endX_blk ?_
          refine endX_seq ?_
          refine runX_regionC fun C hC => ?_
          try simp -implicitDefEqProofs (maxSteps := 4000000) (disch := first | omega | decide | (simp only [go_sem]; omega)) only [go_sem, ↓reduceIte]
          repeat (with_reducible refine And.intro (by first | assumption | omega | (simp; done) | (simp; omega)) ?_)
          refine toEnd hC ?_
          refine endX_lp ?_
          refine runX_seq ?_
          refine runX_seq ?_
          refine runX_regionC fun C hC => ?_
          try simp -implicitDefEqProofs (maxSteps := 4000000) (disch := first | omega | decide | (simp only [go_sem]; omega)) only [go_sem, ↓reduceIte]
          repeat (with_reducible refine And.intro (by first | assumption | omega | (simp; done) | (simp; omega)) ?_)
          refine toEnd hC ?_
          refine endX_seq ?_
          refine runX_condT rfl rfl ?_
          refine runX_skip ?_
          refine endX_seq ?_
          refine runX_seq ?_
          refine runX_block ?_
          refine runX_drawC mixed (by kernel_rfl) fun C hC => ?_
          try simp -implicitDefEqProofs (maxSteps := 4000000) (disch := first | omega | decide | (simp only [go_sem]; omega)) only [go_sem, ↓reduceIte]
          repeat (with_reducible refine And.intro (by first | assumption | omega | (simp; done) | (simp; omega)) ?_)
          refine toEnd hC ?_
          refine endX_blk ?_
          refine endX_seq ?_
          refine runX_regionC fun C hC => ?_
          try simp -implicitDefEqProofs (maxSteps := 4000000) (disch := first | omega | decide | (simp only [go_sem]; omega)) only [go_sem, ↓reduceIte]
          repeat (with_reducible refine And.intro (by first | assumption | omega | (simp; done) | (simp; omega)) ?_)
          refine toEnd hC ?_
          refine endX_lp ?_
          refine runX_seq ?_
          refine runX_seq ?_
          refine runX_regionC fun C hC => ?_
          try simp -implicitDefEqProofs (maxSteps := 4000000) (disch := first | omega | decide | (simp only [go_sem]; omega)) only [go_sem, ↓reduceIte]
          repeat (with_reducible refine And.intro (by first | assumption | omega | (simp; done) | (simp; omega)) ?_)
          refine toEnd hC ?_
          refine endX_seq ?_
          refine runX_condT rfl rfl ?_
          refine runX_skip ?_
          refine endX_seq ?_
          refine runX_seq ?_
          refine runX_block ?_
          refine runX_drawC mixed (by kernel_rfl) fun C hC => ?_
          try simp -implicitDefEqProofs (maxSteps := 4000000) (disch := first | omega | decide | (simp only [go_sem]; omega)) only [go_sem, ↓reduceIte]
          repeat (with_reducible refine And.intro (by first | assumption | omega | (simp; done) | (simp; omega)) ?_)
          refine toEnd hC ?_
          refine endX_blk ?_
          refine endX_seq ?_
          refine runX_regionC fun C hC => ?_
          try simp -implicitDefEqProofs (maxSteps := 4000000) (disch := first | omega | decide | (simp only [go_sem]; omega)) only [go_sem, ↓reduceIte]
          repeat (with_reducible refine And.intro (by first | assumption | omega | (simp; done) | (simp; omega)) ?_)
          refine toEnd hC ?_
          refine endX_lp ?_
          refine runX_seq ?_
          refine runX_seq ?_
          refine runX_regionC fun C hC => ?_
          try simp -implicitDefEqProofs (maxSteps := 4000000) (disch := first | omega | decide | (simp only [go_sem]; omega)) only [go_sem, ↓reduceIte]
          repeat (with_reducible refine And.intro (by first | assumption | omega | (simp; done) | (simp; omega)) ?_)
          refine toEnd hC ?_
          refine endX_seq ?_
          refine runX_condF rfl rfl ?_
          refine runX_exit ?_
          refine endX_seqE ?_
          refine endX_lpE ?_
          refine endX_blkE ?_
          refine endX_seq ?_
          refine runX_seq ?_
          refine runX_regionC fun C hC => ?_
          try simp -implicitDefEqProofs (maxSteps := 4000000) (disch := first | omega | decide | (simp only [go_sem]; omega)) only [go_sem, ↓reduceIte]
          repeat (with_reducible refine And.intro (by first | assumption | omega | (simp; done) | (simp; omega)) ?_)
          refine toEnd hC ?_
          refine endX_seq ?_
          refine runX_seq ?_
          refine runX_regionC fun C hC => ?_
          try simp -implicitDefEqProofs (maxSteps := 4000000) (disch := first | omega | decide | (simp only [go_sem]; omega)) only [go_sem, ↓reduceIte]
          repeat (with_reducible refine And.intro (by first | assumption | omega | (simp; done) | (simp; omega)) ?_)
          refine toEnd hC ?_
          refine endX_seq ?_
          refine runX_ret ?_
          refine endX_q ?_
          obtain rfl := Option.some.inj h
          show RetW _ _ _ _ _
          simp only [RetW]
          (try simp -implicitDefEqProofs (maxSteps := 4000000) (disch := first | omega | decide | (simp only [go_sem]; omega)) only [go_sem, ↓reduceIte])
          (try simp (disch := omega) only [if_pos, Nat.sub_zero])
          exact leT_refl _
end Go.Proofs.YtaiapalhdejngaaX

set_option linter.unusedVariables false
set_option linter.unusedSimpArgs false
namespace Go.Proofs.YtaiapalhdejngaaX
open Go Go.RowKit Go.Proofs
set_option maxRecDepth 100000
attribute [local go_sem ↓] stepsK_build stepsK_build0 stepsK_bs stepsK_bs0 appendS
attribute [local go_sem] String.reduceEq String.reduceNe reduceCtorEq Int.reduceEq Nat.reduceAdd Nat.reduceSub Nat.reduceMul Nat.reduceLT Nat.reduceLeDiff Nat.reduceEqDiff Nat.reduceBEq Int.reduceToNat Int.reduceLT Int.reduceLE Int.reduceGT Int.reduceGE Int.reduceAdd Int.reduceSub Int.reduceMul Int.reduceNeg Int.reduceBEq Int.reduceBNe Int.reducePow Int.reduceDiv Int.reduceMod Int.reduceTDiv Int.reduceTMod Int.reduceNatCast
/-! ### shadowboxref11.End -/
def F102_S3 (x6 : List (Int)) (a0 : (List (Int)) × (Int)) (x3 : List (Int)) (x17 : Int) (x18 : Int) (x19 : Int) (x20 : Int) (x21 : Int) (x22 : Int) : St := ⟨[.junk, .junk, .ref 0 0 0 0, .junk, .ref 1 0 0 0, .junk, .rsl 2 1 0 (x6.length + 8), .junk, .imm (.int .i64 x17), .junk, .junk, .junk, .junk, .junk, .junk, .junk, .junk, .junk, .junk, .junk, .junk, .junk, .junk, .junk, .junk, .junk, .junk, .junk, .junk, .junk, .junk, .junk, .junk, .junk, .junk, .junk, .junk, .junk, .junk, .junk, .junk, .junk, .junk, .junk, .junk, .junk, .junk, .junk, .junk, .junk, .junk, .junk, .junk, .junk, .junk, .junk, .junk, .junk, .junk, .junk, .junk, .junk, .junk, .junk, .junk, .junk, .junk, .junk, .junk, .junk, .junk, .junk, .junk, .junk, .junk, .junk, .junk, .junk, .junk, .junk], [some (.box 132 (.agg [.imm (.int .u32 x18), .imm (.int .u32 x19), .imm (.int .u32 x20), .imm (.int .u32 x21), .imm (.int .u64 x22)]) false), some (.box 70 (.agg [.imm (.int .u8 (0 : Int)), .imm (.int .u8 (0 : Int)), .imm (.int .u8 (0 : Int)), .imm (.int .u8 (0 : Int)), .imm (.int .u8 (0 : Int)), .imm (.int .u8 (0 : Int)), .imm (.int .u8 (0 : Int)), .imm (.int .u8 (0 : Int)), .imm (.int .u8 (0 : Int)), .imm (.int .u8 (0 : Int)), .imm (.int .u8 (0 : Int)), .imm (.int .u8 (0 : Int)), .imm (.int .u8 (0 : Int)), .imm (.int .u8 (0 : Int)), .imm (.int .u8 (0 : Int)), .imm (.int .u8 (0 : Int))]) false), some (.buf 5 1 (List.map byteT ((((((((x6 ++ [(IntKind.wrap .u8 ((bShr .u64 (IntKind.wrap .u64 ((8 : Int) * (IntKind.wrap .u64 (a0.2 + (IntKind.wrap .u64 ((x3.length : Int))))))) 0)))]) ++ [(IntKind.wrap .u8 ((bShr .u64 (IntKind.wrap .u64 ((8 : Int) * (IntKind.wrap .u64 (a0.2 + (IntKind.wrap .u64 ((x3.length : Int))))))) 8)))]) ++ [(IntKind.wrap .u8 ((bShr .u64 (IntKind.wrap .u64 ((8 : Int) * (IntKind.wrap .u64 (a0.2 + (IntKind.wrap .u64 ((x3.length : Int))))))) 16)))]) ++ [(IntKind.wrap .u8 ((bShr .u64 (IntKind.wrap .u64 ((8 : Int) * (IntKind.wrap .u64 (a0.2 + (IntKind.wrap .u64 ((x3.length : Int))))))) 24)))]) ++ [(IntKind.wrap .u8 ((bShr .u64 (IntKind.wrap .u64 ((8 : Int) * (IntKind.wrap .u64 (a0.2 + (IntKind.wrap .u64 ((x3.length : Int))))))) 32)))]) ++ [(IntKind.wrap .u8 ((bShr .u64 (IntKind.wrap .u64 ((8 : Int) * (IntKind.wrap .u64 (a0.2 + (IntKind.wrap .u64 ((x3.length : Int))))))) 40)))]) ++ [(IntKind.wrap .u8 ((bShr .u64 (IntKind.wrap .u64 ((8 : Int) * (IntKind.wrap .u64 (a0.2 + (IntKind.wrap .u64 ((x3.length : Int))))))) 48)))]) ++ [(IntKind.wrap .u8 ((bShr .u64 (IntKind.wrap .u64 ((8 : Int) * (IntKind.wrap .u64 (a0.2 + (IntKind.wrap .u64 ((x3.length : Int))))))) 56)))])) (x6.length + 8))]⟩
def F102_S2 (a0 : (List (Int)) × (Int)) (x3 : List (Int)) (x6 : List (Int)) : St := ⟨[.junk, .junk, .ref 0 0 0 0, .junk, .ref 1 0 0 0, .imm (.int .u64 (IntKind.wrap .u64 ((8 : Int) * (IntKind.wrap .u64 (a0.2 + (IntKind.wrap .u64 ((x3.length : Int)))))))), .rsl 2 1 0 x6.length, .junk, .junk, .junk, .junk, .junk, .junk, .junk, .junk, .junk, .junk, .junk, .junk, .junk, .junk, .junk, .junk, .junk, .junk, .junk, .junk, .junk, .junk, .junk, .junk, .junk, .junk, .junk, .junk, .junk, .junk, .junk, .junk, .junk, .junk, .junk, .junk, .junk, .junk, .junk, .junk, .junk, .junk, .junk, .junk, .junk, .junk, .junk, .junk, .junk, .junk, .junk, .junk, .junk, .junk, .junk, .junk, .junk, .junk, .junk, .junk, .junk, .junk, .junk, .junk, .junk, .junk, .junk, .junk, .junk, .junk, .junk, .junk, .junk], [some (.box 132 (.agg [.imm (.int .u32 (a0.1.getD 0 default)), .imm (.int .u32 (a0.1.getD 1 default)), .imm (.int .u32 (a0.1.getD 2 default)), .imm (.int .u32 (a0.1.getD 3 default)), .imm (.int .u64 a0.2)]) false), some (.box 70 (.agg [.imm (.int .u8 (0 : Int)), .imm (.int .u8 (0 : Int)), .imm (.int .u8 (0 : Int)), .imm (.int .u8 (0 : Int)), .imm (.int .u8 (0 : Int)), .imm (.int .u8 (0 : Int)), .imm (.int .u8 (0 : Int)), .imm (.int .u8 (0 : Int)), .imm (.int .u8 (0 : Int)), .imm (.int .u8 (0 : Int)), .imm (.int .u8 (0 : Int)), .imm (.int .u8 (0 : Int)), .imm (.int .u8 (0 : Int)), .imm (.int .u8 (0 : Int)), .imm (.int .u8 (0 : Int)), .imm (.int .u8 (0 : Int))]) false), some (.buf 5 1 (List.map byteT x6) 0)]⟩
def F102_S1 (a0 : (List (Int)) × (Int)) (x3 : List (Int)) : St := ⟨[.junk, .sl 1 false (List.map byteT x3), .ref 0 0 0 0, .junk, .ref 1 0 0 0, .junk, .junk, .junk, .junk, .junk, .junk, .junk, .junk, .junk, .junk, .junk, .junk, .junk, .junk, .junk, .junk, .junk, .junk, .junk, .junk, .junk, .junk, .junk, .junk, .junk, .junk, .junk, .junk, .junk, .junk, .junk, .junk, .junk, .junk, .junk, .junk, .junk, .junk, .junk, .junk, .junk, .junk, .junk, .junk, .junk, .junk, .junk, .junk, .junk, .junk, .junk, .junk, .junk, .junk, .junk, .junk, .junk, .junk, .junk, .junk, .junk, .junk, .junk, .junk, .junk, .junk, .junk, .junk, .junk, .junk, .junk, .junk, .junk, .junk, .junk], [some (.box 132 (.agg [.imm (.int .u32 (a0.1.getD 0 default)), .imm (.int .u32 (a0.1.getD 1 default)), .imm (.int .u32 (a0.1.getD 2 default)), .imm (.int .u32 (a0.1.getD 3 default)), .imm (.int .u64 a0.2)]) false), some (.box 70 (.agg [.imm (.int .u8 (0 : Int)), .imm (.int .u8 (0 : Int)), .imm (.int .u8 (0 : Int)), .imm (.int .u8 (0 : Int)), .imm (.int .u8 (0 : Int)), .imm (.int .u8 (0 : Int)), .imm (.int .u8 (0 : Int)), .imm (.int .u8 (0 : Int)), .imm (.int .u8 (0 : Int)), .imm (.int .u8 (0 : Int)), .imm (.int .u8 (0 : Int)), .imm (.int .u8 (0 : Int)), .imm (.int .u8 (0 : Int)), .imm (.int .u8 (0 : Int)), .imm (.int .u8 (0 : Int)), .imm (.int .u8 (0 : Int))]) false)]⟩
mutual
def F102_L3 : Nat → (List (Int)) → ((List (Int)) × (Int)) → (List (Int)) → (Int) → (Int) → (Int) → (Int) → (Int) → (Int) → Option (List (Int))
  | 0, _, _, _, _, _, _, _, _, _ => none
  | m3 + 1, x6, a0, x3, x17, x18, x19, x20, x21, x22 => iteB (decide (x17 < ((x6.length + 8) : Int))) (grd (0 ≤ x17 ∧ x17 ≤ (IntKind.wrap .i64 (x17 + (64 : Int))) ∧ (IntKind.wrap .i64 (x17 + (64 : Int))) ≤ ((x6.length + 8) : Int)) ((F101 m3 ([x18, x19, x20, x21], x22) (((((((((((x6 ++ [(IntKind.wrap .u8 ((bShr .u64 (IntKind.wrap .u64 ((8 : Int) * (IntKind.wrap .u64 (a0.2 + (IntKind.wrap .u64 ((x3.length : Int))))))) 0)))]) ++ [(IntKind.wrap .u8 ((bShr .u64 (IntKind.wrap .u64 ((8 : Int) * (IntKind.wrap .u64 (a0.2 + (IntKind.wrap .u64 ((x3.length : Int))))))) 8)))]) ++ [(IntKind.wrap .u8 ((bShr .u64 (IntKind.wrap .u64 ((8 : Int) * (IntKind.wrap .u64 (a0.2 + (IntKind.wrap .u64 ((x3.length : Int))))))) 16)))]) ++ [(IntKind.wrap .u8 ((bShr .u64 (IntKind.wrap .u64 ((8 : Int) * (IntKind.wrap .u64 (a0.2 + (IntKind.wrap .u64 ((x3.length : Int))))))) 24)))]) ++ [(IntKind.wrap .u8 ((bShr .u64 (IntKind.wrap .u64 ((8 : Int) * (IntKind.wrap .u64 (a0.2 + (IntKind.wrap .u64 ((x3.length : Int))))))) 32)))]) ++ [(IntKind.wrap .u8 ((bShr .u64 (IntKind.wrap .u64 ((8 : Int) * (IntKind.wrap .u64 (a0.2 + (IntKind.wrap .u64 ((x3.length : Int))))))) 40)))]) ++ [(IntKind.wrap .u8 ((bShr .u64 (IntKind.wrap .u64 ((8 : Int) * (IntKind.wrap .u64 (a0.2 + (IntKind.wrap .u64 ((x3.length : Int))))))) 48)))]) ++ [(IntKind.wrap .u8 ((bShr .u64 (IntKind.wrap .u64 ((8 : Int) * (IntKind.wrap .u64 (a0.2 + (IntKind.wrap .u64 ((x3.length : Int))))))) 56)))])).drop x17.toNat).take ((IntKind.wrap .i64 (x17 + (64 : Int))).toNat - x17.toNat))).bind fun v26 => F102_L3 m3 x6 a0 x3 (IntKind.wrap .i64 (x17 + (64 : Int))) (v26.1.getD 0 default) (v26.1.getD 1 default) (v26.1.getD 2 default) (v26.1.getD 3 default) v26.2)) (some [(IntKind.wrap .u8 ((bShr .u32 x18 0))), (IntKind.wrap .u8 ((bShr .u32 x18 8))), (IntKind.wrap .u8 ((bShr .u32 x18 16))), (IntKind.wrap .u8 ((bShr .u32 x18 24))), (IntKind.wrap .u8 ((bShr .u32 x19 0))), (IntKind.wrap .u8 ((bShr .u32 x19 8))), (IntKind.wrap .u8 ((bShr .u32 x19 16))), (IntKind.wrap .u8 ((bShr .u32 x19 24))), (IntKind.wrap .u8 ((bShr .u32 x20 0))), (IntKind.wrap .u8 ((bShr .u32 x20 8))), (IntKind.wrap .u8 ((bShr .u32 x20 16))), (IntKind.wrap .u8 ((bShr .u32 x20 24))), (IntKind.wrap .u8 ((bShr .u32 x21 0))), (IntKind.wrap .u8 ((bShr .u32 x21 8))), (IntKind.wrap .u8 ((bShr .u32 x21 16))), (IntKind.wrap .u8 ((bShr .u32 x21 24)))])
def F102_L2 : Nat → ((List (Int)) × (Int)) → (List (Int)) → (List (Int)) → Option (List (Int))
  | 0, _, _, _ => none
  | m2 + 1, a0, x3, x6 => iteB (((x6.length : Int).tmod (64 : Int)) != (56 : Int)) (grd ((x6.length + 1) ≤ 549755813888) (F102_L2 m2 a0 x3 (x6 ++ [(0 : Int)]))) (grd ((x6.length + 1) ≤ 549755813888) (grd ((x6.length + 2) ≤ 549755813888) (grd ((x6.length + 3) ≤ 549755813888) (grd ((x6.length + 4) ≤ 549755813888) (grd ((x6.length + 5) ≤ 549755813888) (grd ((x6.length + 6) ≤ 549755813888) (grd ((x6.length + 7) ≤ 549755813888) (grd ((x6.length + 8) ≤ 549755813888) (F102_L3 m2 x6 a0 x3 (0 : Int) (a0.1.getD 0 default) (a0.1.getD 1 default) (a0.1.getD 2 default) (a0.1.getD 3 default) a0.2)))))))))
def F102_J1 (n : Nat) (a0 : (List (Int)) × (Int)) (x3 : List (Int)) : Option (List (Int)) := grd (x3.length ≤ 549755813888) (grd ((x3.length + 1) ≤ 549755813888) (F102_L2 n a0 x3 (x3 ++ [(128 : Int)])))
end
def F102 (n : Nat) (a0 : (List (Int)) × (Int)) (a1 : List (Int)) : Option (List (Int)) := iteB (decide ((63 : Int) < (a1.length : Int))) (grd ((63 : Int) ≤ (a1.length : Int)) (F102_J1 n a0 (a1.take 63))) (F102_J1 n a0 a1)
set_option maxHeartbeats 4000000 in
theorem F102_ok : ∀ (n : Nat) (a0 : (List (Int)) × (Int)) (a1 : List (Int)) (r : List (Int)), F102 n a0 a1 = some r → FnC Try.prog 102 [.agg [.imm (.int .u32 (a0.1.getD 0 default)), .imm (.int .u32 (a0.1.getD 1 default)), .imm (.int .u32 (a0.1.getD 2 default)), .imm (.int .u32 (a0.1.getD 3 default)), .imm (.int .u64 a0.2)], .sl 1 false (List.map byteT a1)] (.agg (List.map byteT r))
  | n, a0, a1, r, h => by
    unfold F102 at h
    refine FnC.goX mixed Try.func102 (by kernel_rfl) rfl ?_
    simp only [Try.ntmps102, List.length_cons, List.length_nil, List.replicate, List.cons_append, List.nil_append, Nat.reduceAdd, Nat.reduceSub]
    refine runX_seq ?_
    refine runX_regionC fun C hC => ?_
    try simp -implicitDefEqProofs (maxSteps := 4000000) (disch := first | omega | decide | (simp only [go_sem]; omega)) only [go_sem, ↓reduceIte]
    repeat (with_reducible refine And.intro (by first | assumption | omega | (simp; done) | (simp; omega)) ?_)
    refine toEnd hC ?_
    refine endX_seq ?_
    refine runX_meet [1, 2, 4] (fun S => ∃ (x3 : List (Int)), S = F102_S1 a0 x3 ∧ F102_J1 n a0 x3 = some r) ?_ ?_
    · refine runX_seq ?_
      refine runX_regionC fun C hC => ?_
      try simp -implicitDefEqProofs (maxSteps := 4000000) (disch := first | omega | decide | (simp only [go_sem]; omega)) only [go_sem, ↓reduceIte]
      repeat (with_reducible refine And.intro (by first | assumption | omega | (simp; done) | (simp; omega)) ?_)
      refine toEnd hC ?_
      refine endX_seq ?_
      rcases iteB_some h with ⟨c1, h⟩ | ⟨c1, h⟩
      · refine runX_condT rfl c1 ?_
        refine runX_regionC fun C hC => ?_
        obtain ⟨g2, h⟩ := grd_some h
        try simp -implicitDefEqProofs (maxSteps := 4000000) (disch := first | omega | decide | (simp only [go_sem]; omega)) only [go_sem, ↓reduceIte]
        repeat (with_reducible refine And.intro (by first | assumption | omega | (simp; done) | (simp; omega)) ?_)
        refine toEnd hC ?_
        refine endX_q (meetQ_normal ⟨F102_S1 a0 (a1.take 63), ?_, (a1.take 63), rfl, h⟩)
        simp only [F102_S1]
        (try simp -implicitDefEqProofs (maxSteps := 4000000) (disch := first | omega | decide | (simp only [go_sem]; omega)) only [go_sem, ↓reduceIte])
        first | exact leS_refl _ | (refine leS_le ?_ ?_ <;> first | exact leL_refl _ | exact leOs_refl _ | (simp only [List.append_assoc, List.cons_append, List.nil_append]; exact leOs_refl _) | (repeat (first | exact leL_refl _ | refine leL_cons (by first | exact leT_refl _ | exact leT_virt | exact leT_junk _ | exact leT_sl | exact leT_sln | exact leT_nil | (refine leT_agg (by repeat (first | exact leL_refl _ | refine leL_cons (by first | exact leT_refl _ | exact leT_sl | exact leT_sln | exact leT_nil) ?_)))) ?_)))
      · refine runX_condF rfl c1 ?_
        refine runX_skip ?_
        refine endX_q (meetQ_normal ⟨F102_S1 a0 a1, ?_, a1, rfl, h⟩)
        simp only [F102_S1]
        (try simp -implicitDefEqProofs (maxSteps := 4000000) (disch := first | omega | decide | (simp only [go_sem]; omega)) only [go_sem, ↓reduceIte])
        first | exact leS_refl _ | (refine leS_le ?_ ?_ <;> first | exact leL_refl _ | exact leOs_refl _ | (simp only [List.append_assoc, List.cons_append, List.nil_append]; exact leOs_refl _) | (repeat (first | exact leL_refl _ | refine leL_cons (by first | exact leT_refl _ | exact leT_virt | exact leT_junk _ | exact leT_sl | exact leT_sln | exact leT_nil | (refine leT_agg (by repeat (first | exact leL_refl _ | refine leL_cons (by first | exact leT_refl _ | exact leT_sl | exact leT_sln | exact leT_nil) ?_)))) ?_)))
    · clear h
      rintro S ⟨x3, rfl, h⟩
      rw [F102_J1] at h
      simp only [F102_S1]
      refine runX_seq ?_
      refine runX_regionC fun C hC => ?_
      try simp -implicitDefEqProofs (maxSteps := 4000000) (disch := first | omega | decide | (simp only [go_sem]; omega)) only [go_sem, ↓reduceIte]
      repeat (with_reducible refine And.intro (by first | assumption | omega | (simp; done) | (simp; omega)) ?_)
      refine toEnd hC ?_
      refine endX_seq ?_
      refine runX_seq ?_
      refine runX_regionC fun C hC => ?_
      simp only [runK_region, runK_draw, liteL, liteL2, dstsL, gL, List.getD_cons_zero, List.getD_cons_succ]
      try simp -implicitDefEqProofs (maxSteps := 4000000) (disch := first | omega | decide | (simp only [go_sem]; omega)) only [go_sem, ↓reduceIte]
      repeat (with_reducible refine And.intro (by first | assumption | omega | (simp; done) | (simp; omega)) ?_)
      refine bs_go <| buildX_val ?_
      obtain ⟨g4, h⟩ := grd_some h
      try simp -implicitDefEqProofs (maxSteps := 4000000) (disch := first | omega | decide | (simp only [go_sem]; omega)) only [go_sem, ↓reduceIte]
      repeat (with_reducible refine And.intro (by first | assumption | omega | (simp; done) | (simp; omega)) ?_)
      refine bs_go <| buildX_val ?_
      obtain ⟨g5, h⟩ := grd_some h
      try simp -implicitDefEqProofs (maxSteps := 4000000) (disch := first | omega | decide | (simp only [go_sem]; omega)) only [go_sem, ↓reduceIte]
      repeat (with_reducible refine And.intro (by first | assumption | omega | (simp; done) | (simp; omega)) ?_)
      refine toEnd hC ?_
      refine endX_seq ?_
      refine runX_seq ?_
      refine runX_block ?_
      refine runX_loop [2, 4, 5, 6] (fun m S => ∃ (x6 : List (Int)), S = F102_S2 a0 x3 x6 ∧ m ≤ n ∧ F102_L2 m a0 x3 x6 = some r) n ⟨F102_S2 a0 x3 (x3 ++ [(128 : Int)]), ?_, (x3 ++ [(128 : Int)]), rfl, Nat.le_refl _, h⟩ ?_
      · simp only [F102_S2]
        (try simp -implicitDefEqProofs (maxSteps := 4000000) (disch := first | omega | decide | (simp only [go_sem]; omega)) only [go_sem, ↓reduceIte])
        first | exact leS_refl _ | (refine leS_le ?_ ?_ <;> first | exact leL_refl _ | exact leOs_refl _ | (simp only [List.append_assoc, List.cons_append, List.nil_append]; exact leOs_refl _) | (repeat (first | exact leL_refl _ | refine leL_cons (by first | exact leT_refl _ | exact leT_virt | exact leT_junk _ | exact leT_sl | exact leT_sln | exact leT_nil | (refine leT_agg (by repeat (first | exact leL_refl _ | refine leL_cons (by first | exact leT_refl _ | exact leT_sl | exact leT_sln | exact leT_nil) ?_)))) ?_)))
      · clear h
        rintro m2 S ⟨x6, rfl, hm2, h⟩
        cases m2 with
        | zero => first | cases (show (none : Option _) = some _ from h) | (rw [F102_L2] at h; cases h)
        | succ m2 =>
          rw [F102_L2] at h
          simp only [F102_S2]
          refine runX_seq ?_
          refine runX_seq ?_
          refine runX_regionC fun C hC => ?_
          try simp -implicitDefEqProofs (maxSteps := 4000000) (disch := first | omega | decide | (simp only [go_sem]; omega)) only [go_sem, ↓reduceIte]
          repeat (with_reducible refine And.intro (by first | assumption | omega | (simp; done) | (simp; omega)) ?_)
          refine toEnd hC ?_
          refine endX_seq ?_
          rcases iteB_some h with ⟨c7, h⟩ | ⟨c7, h⟩
          · refine runX_condT rfl c7 ?_
            refine runX_skip ?_
            refine endX_seq ?_
            refine runX_block ?_
            refine runX_regionC fun C hC => ?_
            try simp -implicitDefEqProofs (maxSteps := 4000000) (disch := first | omega | decide | (simp only [go_sem]; omega)) only [go_sem, ↓reduceIte]
            repeat (with_reducible refine And.intro (by first | assumption | omega | (simp; done) | (simp; omega)) ?_)
            refine bs_go <| buildX_val ?_
            obtain ⟨g8, h⟩ := grd_some h
            try simp -implicitDefEqProofs (maxSteps := 4000000) (disch := first | omega | decide | (simp only [go_sem]; omega)) only [go_sem, ↓reduceIte]
            repeat (with_reducible refine And.intro (by first | assumption | omega | (simp; done) | (simp; omega)) ?_)
            refine toEnd hC ?_
            refine endX_blk ?_
            refine endX_q (roundQ_normal ⟨m2, by omega, F102_S2 a0 x3 (x6 ++ [(0 : Int)]), ?_, (x6 ++ [(0 : Int)]), rfl, by omega, h⟩)
            simp only [F102_S2]
            (try simp -implicitDefEqProofs (maxSteps := 4000000) (disch := first | omega | decide | (simp only [go_sem]; omega)) only [go_sem, ↓reduceIte])
            first | exact leS_refl _ | (refine leS_le ?_ ?_ <;> first | exact leL_refl _ | exact leOs_refl _ | (simp only [List.append_assoc, List.cons_append, List.nil_append]; exact leOs_refl _) | (repeat (first | exact leL_refl _ | refine leL_cons (by first | exact leT_refl _ | exact leT_virt | exact leT_junk _ | exact leT_sl | exact leT_sln | exact leT_nil | (refine leT_agg (by repeat (first | exact leL_refl _ | refine leL_cons (by first | exact leT_refl _ | exact leT_sl | exact leT_sln | exact leT_nil) ?_)))) ?_)))
          · refine runX_condF rfl c7 ?_
            refine runX_exit ?_
            refine endX_seqE ?_
            refine endX_q (roundQ_exit ?_)
            refine endX_blkE ?_
            refine endX_seq ?_
            refine runX_seq ?_
            refine runX_seq ?_
            refine runX_regionC fun C hC => ?_
            try simp -implicitDefEqProofs (maxSteps := 4000000) (disch := first | omega | decide | (simp only [go_sem]; omega)) only [go_sem, ↓reduceIte]
            repeat (with_reducible refine And.intro (by first | assumption | omega | (simp; done) | (simp; omega)) ?_)
            refine toEnd hC ?_
            refine endX_seq ?_
            refine runX_block ?_
            refine runX_unroll 8 ?_
            refine runX_seq ?_
            refine runX_seq ?_
            refine runX_regionC fun C hC => ?_
            try simp -implicitDefEqProofs (maxSteps := 4000000) (disch := first | omega | decide | (simp only [go_sem]; omega)) only [go_sem, ↓reduceIte]
            repeat (with_reducible refine And.intro (by first | assumption | omega | (simp; done) | (simp; omega)) ?_)
            refine toEnd hC ?_
            refine endX_seq ?_
            refine runX_condT rfl rfl ?_
            refine runX_skip ?_
            refine endX_seq ?_
            refine runX_seq ?_
            refine runX_block ?_
            refine runX_regionC fun C hC => ?_
            try simp -implicitDefEqProofs (maxSteps := 4000000) (disch := first | omega | decide | (simp only [go_sem]; omega)) only [go_sem, ↓reduceIte]
            repeat (with_reducible refine And.intro (by first | assumption | omega | (simp; done) | (simp; omega)) ?_)
            refine bs_go <| buildX_val ?_
            obtain ⟨g9, h⟩ := grd_some h
            try simp -implicitDefEqProofs (maxSteps := 4000000) (disch := first | omega | decide | (simp only [go_sem]; omega)) only [go_sem, ↓reduceIte]
            repeat (with_reducible refine And.intro (by first | assumption | omega | (simp; done) | (simp; omega)) ?_)
            refine toEnd hC ?_
            refine endX_blk ?_
            refine endX_seq ?_
            refine runX_regionC fun C hC => ?_
            try simp -implicitDefEqProofs (maxSteps := 4000000) (disch := first | omega | decide | (simp only [go_sem]; omega)) only [go_sem, ↓reduceIte]
            repeat (with_reducible refine And.intro (by first | assumption | omega | (simp; done) | (simp; omega)) ?_)
            refine toEnd hC ?_
            refine endX_lp ?_
            refine runX_seq ?_
            refine runX_seq ?_
            refine runX_regionC fun C hC => ?_
            try simp -implicitDefEqProofs (maxSteps := 4000000) (disch := first | omega | decide | (simp only [go_sem]; omega)) only [go_sem, ↓reduceIte]
            repeat (with_reducible refine And.intro (by first | assumption | omega | (simp; done) | (simp; omega)) ?_)
            refine toEnd hC ?_
            refine endX_seq ?_
            refine runX_condT rfl rfl ?_
            refine runX_skip ?_
            refine endX_seq ?_
            refine runX_seq ?_
            refine runX_block ?_
            refine runX_regionC fun C hC => ?_
            try simp -implicitDefEqProofs (maxSteps := 4000000) (disch := first | omega | decide | (simp only [go_sem]; omega)) only [go_sem, ↓reduceIte]
            repeat (with_reducible refine And.intro (by first | assumption | omega | (simp; done) | (simp; omega)) ?_)
            refine bs_go <| buildX_val ?_
            obtain ⟨g10, h⟩ := grd_some h
            try simp -implicitDefEqProofs (maxSteps := 4000000) (disch := first | omega | decide | (simp only [go_sem]; omega)) only [go_sem, ↓reduceIte]
            repeat (with_reducible refine And.intro (by first | assumption | omega | (simp; done) | (simp; omega)) ?_)
            refine toEnd hC ?_
            refine endX_blk ?_
            refine endX_seq ?_
            refine runX_regionC fun C hC => ?_
            try simp -implicitDefEqProofs (maxSteps := 4000000) (disch := first | omega | decide | (simp only [go_sem]; omega)) only [go_sem, ↓reduceIte]
            repeat (with_reducible refine And.intro (by first | assumption | omega | (simp; done) | (simp; omega)) ?_)
            refine toEnd hC ?_
            refine endX_lp ?_
            refine runX_seq ?_
            refine runX_seq ?_
            refine runX_regionC fun C hC => ?_
            try simp -implicitDefEqProofs (maxSteps := 4000000) (disch := first | omega | decide | (simp only [go_sem]; omega)) only [go_sem, ↓reduceIte]
            repeat (with_reducible refine And.intro (by first | assumption | omega | (simp; done) | (simp; omega)) ?_)
            refine toEnd hC ?_
            refine endX_seq ?_
            refine runX_condT rfl rfl ?_
            refine runX_skip ?_
            refine endX_seq ?_
            refine runX_seq ?_
            refine runX_block ?_
            refine runX_regionC fun C hC => ?_
            try simp -implicitDefEqProofs (maxSteps := 4000000) (disch := first | omega | decide | (simp only [go_sem]; omega)) only [go_sem, ↓reduceIte]
            repeat (with_reducible refine And.intro (by first | assumption | omega | (simp; done) | (simp; omega)) ?_)
            refine bs_go <| buildX_val ?_
            obtain ⟨g11, h⟩ := grd_some h
            try simp -implicitDefEqProofs (maxSteps := 4000000) (disch := first | omega | decide | (simp only [go_sem]; omega)) only [go_sem, ↓reduceIte]
            repeat (with_reducible refine And.intro (by first | assumption | omega | (simp; done) | (simp; omega)) ?_)
            refine toEnd hC ?_
            refine endX_blk ?_
            refine endX_seq ?_
            refine runX_regionC fun C hC => ?_
            try simp -implicitDefEqProofs (maxSteps := 4000000) (disch := first | omega | decide | (simp only [go_sem]; omega)) only [go_sem, ↓reduceIte]
            repeat (with_reducible refine And.intro (by first | assumption | omega | (simp; done) | (simp; omega)) ?_)
            refine toEnd hC ?_
            refine endX_lp ?_
            refine runX_seq ?_
            refine runX_seq ?_
            refine runX_regionC fun C hC => ?_
            try simp -implicitDefEqProofs (maxSteps := 4000000) (disch := first | omega | decide | (simp only [go_sem]; omega)) only [go_sem, ↓reduceIte]
            repeat (with_reducible refine And.intro (by first | assumption | omega | (simp; done) | (simp; omega)) ?_)
            refine toEnd hC ?_
            refine endX_seq ?_
            refine runX_condT rfl rfl ?_
            refine runX_skip ?_
            refine endX_seq ?_
            refine runX_seq ?_
            refine runX_block ?_
            refine runX_regionC fun C hC => ?_
            try simp -implicitDefEqProofs (maxSteps := 4000000) (disch := first | omega | decide | (simp only [go_sem]; omega)) only [go_sem, ↓reduceIte]
            repeat (with_reducible refine And.intro (by first | assumption | omega | (simp; done) | (simp; omega)) ?_)
            refine bs_go <| buildX_val ?_
            obtain ⟨g12, h⟩ := grd_some h
            try simp -implicitDefEqProofs (maxSteps := 4000000) (disch := first | omega | decide | (simp only [go_sem]; omega)) only [go_sem, ↓reduceIte]
            repeat (with_reducible refine And.intro (by first | assumption | omega | (simp; done) | (simp; omega)) ?_)
            refine toEnd hC ?_
            refine endX_blk ?_
            refine endX_seq ?_
            refine runX_regionC fun C hC => ?_
            try simp -implicitDefEqProofs (maxSteps := 4000000) (disch := first | omega | decide | (simp only [go_sem]; omega)) only [go_sem, ↓reduceIte]
            repeat (with_reducible refine And.intro (by first | assumption | omega | (simp; done) | (simp; omega)) ?_)
            refine toEnd hC ?_
            refine endX_lp ?_
            refine runX_seq ?_
            refine runX_seq ?_
            refine runX_regionC fun C hC => ?_
            try simp -implicitDefEqProofs (maxSteps := 4000000) (disch := first | omega | decide | (simp only [go_sem]; omega)) only [go_sem, ↓reduceIte]
            repeat (with_reducible refine And.intro (by first | assumption | omega | (simp; done) | (simp; omega)) ?_)
            refine toEnd hC ?_
            refine endX_seq ?_
            refine runX_condT rfl rfl ?_
            refine runX_skip ?_
            refine endX_seq ?_
            refine runX_seq ?_
            refine runX_block ?_
            refine runX_regionC fun C hC => ?_
            try simp -implicitDefEqProofs (maxSteps := 4000000) (disch := first | omega | decide | (simp only [go_sem]; omega)) only [go_sem, ↓reduceIte]
            repeat (with_reducible refine And.intro (by first | assumption | omega | (simp; done) | (simp; omega)) ?_)
            refine bs_go <| buildX_val ?_
            obtain ⟨g13, h⟩ := grd_some h
            try simp -implicitDefEqProofs (maxSteps := 4000000) (disch := first | omega | decide | (simp only [go_sem]; omega)) only [go_sem, ↓reduceIte]
            repeat (with_reducible refine And.intro (by first | assumption | omega | (simp; done) | (simp; omega)) ?_)
            refine toEnd hC ?_
            refine endX_blk ?_
            refine endX_seq ?_
            refine runX_regionC fun C hC => ?_
            try simp -implicitDefEqProofs (maxSteps := 4000000) (disch := first | omega | decide | (simp only [go_sem]; omega)) only [go_sem, ↓reduceIte]
            repeat (with_reducible refine And.intro (by first | assumption | omega | (simp; done) | (simp; omega)) ?_)
            refine toEnd hC ?_
            refine endX_lp ?_
            refine runX_seq ?_
            refine runX_seq ?_
            refine runX_regionC fun C hC => ?_
            try simp -implicitDefEqProofs (maxSteps := 4000000) (disch := first | omega | decide | (simp only [go_sem]; omega)) only [go_sem, ↓reduceIte]
            repeat (with_reducible refine And.intro (by first | assumption | omega | (simp; done) | (simp; omega)) ?_)
            refine toEnd hC ?_
            refine endX_seq ?_
            refine runX_condT rfl rfl ?_
            refine runX_skip ?_
            refine endX_seq ?_
            refine runX_seq ?_
            refine runX_block ?_
            refine runX_regionC fun C hC => ?_
            try simp -implicitDefEqProofs (maxSteps := 4000000) (disch := first | omega | decide | (simp only [go_sem]; omega)) only [go_sem, ↓reduceIte]
            repeat (with_reducible refine And.intro (by first | assumption | omega | (simp; done) | (simp; omega)) ?_)
            refine bs_go <| buildX_val ?_
            obtain ⟨g14, h⟩ := grd_some h
            try simp -implicitDefEqProofs (maxSteps := 4000000) (disch := first | omega | decide | (simp only [go_sem]; omega)) only [go_sem, ↓reduceIte]
            repeat (with_reducible refine And.intro (by first | assumption | omega | (simp; done) | (simp; omega)) ?_)
            refine toEnd hC ?_
            refine endX_blk ?_
            refine endX_seq ?_
            refine runX_regionC fun C hC => ?_
            try simp -implicitDefEqProofs (maxSteps := 4000000) (disch := first | omega | decide | (simp only [go_sem]; omega)) only [go_sem, ↓reduceIte]
            repeat (with_reducible refine And.intro (by first | assumption | omega | (simp; done) | (simp; omega)) ?_)
            refine toEnd hC ?_
            refine endX_lp ?_
            refine runX_seq ?_
            refine runX_seq ?_
            refine runX_regionC fun C hC => ?_
            try simp -implicitDefEqProofs (maxSteps := 4000000) (disch := first | omega | decide | (simp only [go_sem]; omega)) only [go_sem, ↓reduceIte]
            repeat (with_reducible refine And.intro (by first | assumption | omega | (simp; done) | (simp; omega)) ?_)
            refine toEnd hC ?_
            refine endX_seq ?_
            refine runX_condT rfl rfl ?_
            refine runX_skip ?_
            refine endX_seq ?_
            refine runX_seq ?_
            refine runX_block ?_
            refine runX_regionC fun C hC => ?_
            try simp -implicitDefEqProofs (maxSteps := 4000000) (disch := first | omega | decide | (simp only [go_sem]; omega)) only [go_sem, ↓reduceIte]
            repeat (with_reducible refine And.intro (by first | assumption | omega | (simp; done) | (simp; omega)) ?_)
            refine bs_go <| buildX_val ?_
            obtain ⟨g15, h⟩ := grd_some h
            try simp -implicitDefEqProofs (maxSteps := 4000000) (disch := first | omega | decide | (simp only [go_sem]; omega)) only [go_sem, ↓reduceIte]
            repeat (with_reducible refine And.intro (by first | assumption | omega | (simp; done) | (simp; omega)) ?_)
            refine toEnd hC ?_
            refine endX_blk ?_
            refine endX_seq ?_
            refine runX_regionC fun C hC => ?_
            try simp -implicitDefEqProofs (maxSteps := 4000000) (disch := first | omega | decide | (simp only [go_sem]; omega)) only [go_sem, ↓reduceIte]
            repeat (with_reducible refine And.intro (by first | assumption | omega | (simp; done) | (simp; omega)) ?_)
            refine toEnd hC ?_
            refine endX_lp ?_
            refine runX_seq ?_
            refine runX_seq ?_
            refine runX_regionC fun C hC => ?_
            try simp -implicitDefEqProofs (maxSteps := 4000000) (disch := first | omega | decide | (simp only [go_sem]; omega)) only [go_sem, ↓reduceIte]
            repeat (with_reducible refine And.intro (by first | assumption | omega | (simp; done) | (simp; omega)) ?_)
            refine toEnd hC ?_
            refine endX_seq ?_
            refine runX_condT rfl rfl ?_
            refine runX_skip ?_
            refine endX_seq ?_
            refine runX_seq ?_
            refine runX_block ?_
            refine runX_regionC fun C hC => ?_
            try simp -implicitDefEqProofs (maxSteps := 4000000) (disch := first | omega | decide | (simp only [go_sem]; omega)) only [go_sem, ↓reduceIte]
            repeat (with_reducible refine And.intro (by first | assumption | omega | (simp; done) | (simp; omega)) ?_)
            refine bs_go <| buildX_val ?_
            obtain ⟨g16, h⟩ := grd_some h
            try simp -implicitDefEqProofs (maxSteps := 4000000) (disch := first | omega | decide | (simp only [go_sem]; omega)) only [go_sem, ↓reduceIte]
            repeat (with_reducible refine And.intro (by first | assumption | omega | (simp; done) | (simp; omega)) ?_)
            refine toEnd hC ?_
            refine endX_blk ?_
            refine endX_seq ?_
            refine runX_regionC fun C hC => ?_
            try simp -implicitDefEqProofs (maxSteps := 4000000) (disch := first | omega | decide | (simp only [go_sem]; omega)) only [go_sem, ↓reduceIte]
            repeat (with_reducible refine And.intro (by first | assumption | omega | (simp; done) | (simp; omega)) ?_)
            refine toEnd hC ?_
            refine endX_lp ?_
            refine runX_seq ?_
            refine runX_seq ?_
            refine runX_regionC fun C hC => ?_
            try simp -implicitDefEqProofs (maxSteps := 4000000) (disch := first | omega | decide | (simp only [go_sem]; omega)) only [go_sem, ↓reduceIte]
            repeat (with_reducible refine And.intro (by first | assumption | omega | (simp; done) | (simp; omega)) ?_)
            refine toEnd hC ?_
            refine endX_seq ?_
            refine runX_condF rfl rfl ?_
            refine runX_exit ?_
            refine endX_seqE ?_
            refine endX_lpE ?_
            refine endX_blkE ?_
            refine endX_seq ?_
            refine runX_seq ?_
            refine runX_seq ?_
            refine runX_regionC fun C hC => ?_
            try simp -implicitDefEqProofs (maxSteps := 4000000) (disch := first | omega | decide | (simp only [go_sem]; omega)) only [go_sem, ↓reduceIte]
            repeat (with_reducible refine And.intro (by first | assumption | omega | (simp; done) | (simp; omega)) ?_)
            refine toEnd hC ?_
            refine endX_seq ?_
            refine runX_block ?_
            refine runX_loop [2, 4, 6, 8] (fun m S => ∃ (x17 : Int) (x18 : Int) (x19 : Int) (x20 : Int) (x21 : Int) (x22 : Int), S = F102_S3 x6 a0 x3 x17 x18 x19 x20 x21 x22 ∧ m ≤ m2 ∧ F102_L3 m x6 a0 x3 x17 x18 x19 x20 x21 x22 = some r) m2 ⟨F102_S3 x6 a0 x3 (0 : Int) (a0.1.getD 0 default) (a0.1.getD 1 default) (a0.1.getD 2 default) (a0.1.getD 3 default) a0.2, ?_, (0 : Int), (a0.1.getD 0 default), (a0.1.getD 1 default), (a0.1.getD 2 default), (a0.1.getD 3 default), a0.2, rfl, Nat.le_refl _, h⟩ ?_
            · (try simp -implicitDefEqProofs (maxSteps := 4000000) (disch := first | omega | decide | (simp only [go_sem]; omega)) only [go_sem, ↓reduceIte])
              refine leS_trans (leS_lock 2 (x6.length + 8) 5 1 (List.map byteT ((((((((x6 ++ [(IntKind.wrap .u8 ((bShr .u64 (IntKind.wrap .u64 ((8 : Int) * (IntKind.wrap .u64 (a0.2 + (IntKind.wrap .u64 ((x3.length : Int))))))) 0)))]) ++ [(IntKind.wrap .u8 ((bShr .u64 (IntKind.wrap .u64 ((8 : Int) * (IntKind.wrap .u64 (a0.2 + (IntKind.wrap .u64 ((x3.length : Int))))))) 8)))]) ++ [(IntKind.wrap .u8 ((bShr .u64 (IntKind.wrap .u64 ((8 : Int) * (IntKind.wrap .u64 (a0.2 + (IntKind.wrap .u64 ((x3.length : Int))))))) 16)))]) ++ [(IntKind.wrap .u8 ((bShr .u64 (IntKind.wrap .u64 ((8 : Int) * (IntKind.wrap .u64 (a0.2 + (IntKind.wrap .u64 ((x3.length : Int))))))) 24)))]) ++ [(IntKind.wrap .u8 ((bShr .u64 (IntKind.wrap .u64 ((8 : Int) * (IntKind.wrap .u64 (a0.2 + (IntKind.wrap .u64 ((x3.length : Int))))))) 32)))]) ++ [(IntKind.wrap .u8 ((bShr .u64 (IntKind.wrap .u64 ((8 : Int) * (IntKind.wrap .u64 (a0.2 + (IntKind.wrap .u64 ((x3.length : Int))))))) 40)))]) ++ [(IntKind.wrap .u8 ((bShr .u64 (IntKind.wrap .u64 ((8 : Int) * (IntKind.wrap .u64 (a0.2 + (IntKind.wrap .u64 ((x3.length : Int))))))) 48)))]) ++ [(IntKind.wrap .u8 ((bShr .u64 (IntKind.wrap .u64 ((8 : Int) * (IntKind.wrap .u64 (a0.2 + (IntKind.wrap .u64 ((x3.length : Int))))))) 56)))])) 0 (by simp) (by omega) (by simp)) (show leS ⟨[.junk, .junk, .ref 0 0 0 0, .junk, .ref 1 0 0 0, .junk, .rsl 2 1 0 (x6.length + 8), .junk, .imm (.int .i64 (0 : Int)), .junk, .junk, .junk, .junk, .junk, .junk, .junk, .junk, .junk, .junk, .junk, .junk, .junk, .junk, .junk, .junk, .junk, .junk, .junk, .junk, .junk, .junk, .junk, .junk, .junk, .junk, .junk, .junk, .junk, .junk, .junk, .junk, .junk, .junk, .junk, .junk, .junk, .junk, .junk, .junk, .junk, .junk, .junk, .junk, .junk, .junk, .junk, .junk, .junk, .junk, .junk, .junk, .junk, .junk, .junk, .junk, .junk, .junk, .junk, .junk, .junk, .junk, .junk, .junk, .junk, .junk, .junk, .junk, .junk, .junk, .junk], [some (.box 132 (.agg [.imm (.int .u32 (a0.1.getD 0 default)), .imm (.int .u32 (a0.1.getD 1 default)), .imm (.int .u32 (a0.1.getD 2 default)), .imm (.int .u32 (a0.1.getD 3 default)), .imm (.int .u64 a0.2)]) false), some (.box 70 (.agg [.imm (.int .u8 (0 : Int)), .imm (.int .u8 (0 : Int)), .imm (.int .u8 (0 : Int)), .imm (.int .u8 (0 : Int)), .imm (.int .u8 (0 : Int)), .imm (.int .u8 (0 : Int)), .imm (.int .u8 (0 : Int)), .imm (.int .u8 (0 : Int)), .imm (.int .u8 (0 : Int)), .imm (.int .u8 (0 : Int)), .imm (.int .u8 (0 : Int)), .imm (.int .u8 (0 : Int)), .imm (.int .u8 (0 : Int)), .imm (.int .u8 (0 : Int)), .imm (.int .u8 (0 : Int)), .imm (.int .u8 (0 : Int))]) false), some (.buf 5 1 (List.map byteT ((((((((x6 ++ [(IntKind.wrap .u8 ((bShr .u64 (IntKind.wrap .u64 ((8 : Int) * (IntKind.wrap .u64 (a0.2 + (IntKind.wrap .u64 ((x3.length : Int))))))) 0)))]) ++ [(IntKind.wrap .u8 ((bShr .u64 (IntKind.wrap .u64 ((8 : Int) * (IntKind.wrap .u64 (a0.2 + (IntKind.wrap .u64 ((x3.length : Int))))))) 8)))]) ++ [(IntKind.wrap .u8 ((bShr .u64 (IntKind.wrap .u64 ((8 : Int) * (IntKind.wrap .u64 (a0.2 + (IntKind.wrap .u64 ((x3.length : Int))))))) 16)))]) ++ [(IntKind.wrap .u8 ((bShr .u64 (IntKind.wrap .u64 ((8 : Int) * (IntKind.wrap .u64 (a0.2 + (IntKind.wrap .u64 ((x3.length : Int))))))) 24)))]) ++ [(IntKind.wrap .u8 ((bShr .u64 (IntKind.wrap .u64 ((8 : Int) * (IntKind.wrap .u64 (a0.2 + (IntKind.wrap .u64 ((x3.length : Int))))))) 32)))]) ++ [(IntKind.wrap .u8 ((bShr .u64 (IntKind.wrap .u64 ((8 : Int) * (IntKind.wrap .u64 (a0.2 + (IntKind.wrap .u64 ((x3.length : Int))))))) 40)))]) ++ [(IntKind.wrap .u8 ((bShr .u64 (IntKind.wrap .u64 ((8 : Int) * (IntKind.wrap .u64 (a0.2 + (IntKind.wrap .u64 ((x3.length : Int))))))) 48)))]) ++ [(IntKind.wrap .u8 ((bShr .u64 (IntKind.wrap .u64 ((8 : Int) * (IntKind.wrap .u64 (a0.2 + (IntKind.wrap .u64 ((x3.length : Int))))))) 56)))])) (x6.length + 8))]⟩ _ from ?_)
              simp only [F102_S3]
              (try simp -implicitDefEqProofs (maxSteps := 4000000) (disch := first | omega | decide | (simp only [go_sem]; omega)) only [go_sem, ↓reduceIte])
              first | exact leS_refl _ | (refine leS_le ?_ ?_ <;> first | exact leL_refl _ | exact leOs_refl _ | (simp only [List.append_assoc, List.cons_append, List.nil_append]; exact leOs_refl _) | (repeat (first | exact leL_refl _ | refine leL_cons (by first | exact leT_refl _ | exact leT_virt | exact leT_junk _ | exact leT_sl | exact leT_sln | exact leT_nil | (refine leT_agg (by repeat (first | exact leL_refl _ | refine leL_cons (by first | exact leT_refl _ | exact leT_sl | exact leT_sln | exact leT_nil) ?_)))) ?_)))
            · clear h
              rintro m3 S ⟨x17, x18, x19, x20, x21, x22, rfl, hm3, h⟩
              cases m3 with
              | zero => first | cases (show (none : Option _) = some _ from h) | (rw [F102_L3] at h; cases h)
              | succ m3 =>
                rw [F102_L3] at h
                simp only [F102_S3]
                refine runX_seq ?_
                refine runX_seq ?_
                refine runX_regionC fun C hC => ?_
                try simp -implicitDefEqProofs (maxSteps := 4000000) (disch := first | omega | decide | (simp only [go_sem]; omega)) only [go_sem, ↓reduceIte]
                repeat (with_reducible refine And.intro (by first | assumption | omega | (simp; done) | (simp; omega)) ?_)
                refine toEnd hC ?_
                refine endX_seq ?_
                rcases iteB_some h with ⟨c23, h⟩ | ⟨c23, h⟩
                · refine runX_condT rfl c23 ?_
                  refine runX_skip ?_
                  refine endX_seq ?_
                  refine runX_seq ?_
                  refine runX_block ?_
                  refine runX_drawC mixed (by kernel_rfl) fun C hC => ?_
                  obtain ⟨g24, h⟩ := grd_some h
                  have e25 : (x17.toNat + ((IntKind.wrap .i64 (x17 + (64 : Int))).toNat - x17.toNat) ≤ (x6.length + 8)) = True := eq_true (by omega)
                  obtain ⟨v26, h26, h⟩ := bnd_some h
                  try simp -implicitDefEqProofs (maxSteps := 4000000) (disch := first | omega | decide | (simp only [go_sem]; omega)) only [go_sem, ↓reduceIte, e25]
                  repeat (with_reducible refine And.intro (by first | assumption | omega | (simp; done) | (simp; omega)) ?_)
                  refine callD_X (F101_ok m3 ([x18, x19, x20, x21], x22) (((((((((((x6 ++ [(IntKind.wrap .u8 ((bShr .u64 (IntKind.wrap .u64 ((8 : Int) * (IntKind.wrap .u64 (a0.2 + (IntKind.wrap .u64 ((x3.length : Int))))))) 0)))]) ++ [(IntKind.wrap .u8 ((bShr .u64 (IntKind.wrap .u64 ((8 : Int) * (IntKind.wrap .u64 (a0.2 + (IntKind.wrap .u64 ((x3.length : Int))))))) 8)))]) ++ [(IntKind.wrap .u8 ((bShr .u64 (IntKind.wrap .u64 ((8 : Int) * (IntKind.wrap .u64 (a0.2 + (IntKind.wrap .u64 ((x3.length : Int))))))) 16)))]) ++ [(IntKind.wrap .u8 ((bShr .u64 (IntKind.wrap .u64 ((8 : Int) * (IntKind.wrap .u64 (a0.2 + (IntKind.wrap .u64 ((x3.length : Int))))))) 24)))]) ++ [(IntKind.wrap .u8 ((bShr .u64 (IntKind.wrap .u64 ((8 : Int) * (IntKind.wrap .u64 (a0.2 + (IntKind.wrap .u64 ((x3.length : Int))))))) 32)))]) ++ [(IntKind.wrap .u8 ((bShr .u64 (IntKind.wrap .u64 ((8 : Int) * (IntKind.wrap .u64 (a0.2 + (IntKind.wrap .u64 ((x3.length : Int))))))) 40)))]) ++ [(IntKind.wrap .u8 ((bShr .u64 (IntKind.wrap .u64 ((8 : Int) * (IntKind.wrap .u64 (a0.2 + (IntKind.wrap .u64 ((x3.length : Int))))))) 48)))]) ++ [(IntKind.wrap .u8 ((bShr .u64 (IntKind.wrap .u64 ((8 : Int) * (IntKind.wrap .u64 (a0.2 + (IntKind.wrap .u64 ((x3.length : Int))))))) 56)))])).drop x17.toNat).take ((IntKind.wrap .i64 (x17 + (64 : Int))).toNat - x17.toNat)) _ h26) (by repeat (first | exact leL_refl _ | refine leL_cons (by first | exact leT_refl _ | exact leT_virt | exact leT_junk _ | exact leT_sl | exact leT_sln | exact leT_nil | (refine leT_agg (by repeat (first | exact leL_refl _ | refine leL_cons (by first | exact leT_refl _ | exact leT_sl | exact leT_sln | exact leT_nil) ?_)))) ?_)) ?_
                  try simp -implicitDefEqProofs (maxSteps := 4000000) (disch := first | omega | decide | (simp only [go_sem]; omega)) only [go_sem, ↓reduceIte, e25]
                  repeat (with_reducible refine And.intro (by first | assumption | omega | (simp; done) | (simp; omega)) ?_)
                  refine toEnd hC ?_
                  refine endX_blk ?_
                  refine endX_seq ?_
                  refine runX_regionC fun C hC => ?_
                  try simp -implicitDefEqProofs (maxSteps := 4000000) (disch := first | omega | decide | (simp only [go_sem]; omega)) only [go_sem, ↓reduceIte]
                  repeat (with_reducible refine And.intro (by first | assumption | omega | (simp; done) | (simp; omega)) ?_)
                  refine toEnd hC ?_
                  refine endX_q (roundQ_normal ⟨m3, by omega, F102_S3 x6 a0 x3 (IntKind.wrap .i64 (x17 + (64 : Int))) (v26.1.getD 0 default) (v26.1.getD 1 default) (v26.1.getD 2 default) (v26.1.getD 3 default) v26.2, ?_, (IntKind.wrap .i64 (x17 + (64 : Int))), (v26.1.getD 0 default), (v26.1.getD 1 default), (v26.1.getD 2 default), (v26.1.getD 3 default), v26.2, rfl, by omega, h⟩)
                  simp only [F102_S3]
                  (try simp -implicitDefEqProofs (maxSteps := 4000000) (disch := first | omega | decide | (simp only [go_sem]; omega)) only [go_sem, ↓reduceIte])
                  first | exact leS_refl _ | (refine leS_le ?_ ?_ <;> first | exact leL_refl _ | exact leOs_refl _ | (simp only [List.append_assoc, List.cons_append, List.nil_append]; exact leOs_refl _) | (repeat (first | exact leL_refl _ | refine leL_cons (by first | exact leT_refl _ | exact leT_virt | exact leT_junk _ | exact leT_sl | exact leT_sln | exact leT_nil | (refine leT_agg (by repeat (first | exact leL_refl _ | refine leL_cons (by first | exact leT_refl _ | exact leT_sl | exact leT_sln | exact leT_nil) ?_)))) ?_)))
                · refine runX_condF rfl c23 ?_
                  refine runX_exit ?_
                  refine endX_seqE ?_
                  refine endX_q (roundQ_exit ?_)
                  refine endX_blkE ?_
                  refine endX_seq ?_
                  refine runX_seq ?_
                  refine runX_regionC fun C hC => ?_
                  simp only [runK_region, runK_draw, liteL, liteL2, dstsL, gL, List.getD_cons_zero, List.getD_cons_succ]
                  try simp -implicitDefEqProofs (maxSteps := 4000000) (disch := first | omega | decide | (simp only [go_sem]; omega)) only [go_sem, ↓reduceIte]
                  repeat (with_reducible refine And.intro (by first | assumption | omega | (simp; done) | (simp; omega)) ?_)
                  refine bldG_of [.imm (.int .u8 (0 : Int)), .imm (.int .u8 (0 : Int)), .imm (.int .u8 (0 : Int)), .imm (.int .u8 (0 : Int)), .imm (.int .u8 (0 : Int)), .imm (.int .u8 (0 : Int)), .imm (.int .u8 (0 : Int)), .imm (.int .u8 (0 : Int)), .imm (.int .u8 (0 : Int)), .imm (.int .u8 (0 : Int)), .imm (.int .u8 (0 : Int)), .imm (.int .u8 (0 : Int)), .imm (.int .u8 (0 : Int)), .imm (.int .u8 (0 : Int)), .imm (.int .u8 (0 : Int)), .imm (.int .u8 (0 : Int))] (by kernel_rfl) ?_
                  try simp -implicitDefEqProofs (maxSteps := 4000000) (disch := first | omega | decide | (simp only [go_sem]; omega)) only [go_sem, ↓reduceIte]
                  repeat (with_reducible refine And.intro (by first | assumption | omega | (simp; done) | (simp; omega)) ?_)
                  refine toEnd hC ?_
                  refine endX_seq ?_
                  refine runX_seq ?_
                  refine runX_seq ?_
                  refine runX_regionC fun C hC => ?_
                  try simp -implicitDefEqProofs (maxSteps := 4000000) (disch := first | omega | decide | (simp only [go_sem]; omega)) only [go_sem, ↓reduceIte]
                  repeat (with_reducible refine And.intro (by first | assumption | omega | (simp; done) | (simp; omega)) ?_)
                  refine toEnd hC ?_
                  refine endX_seq ?_
                  refine runX_block ?_
                  refine runX_unroll 16 ?_
                  refine runX_seq ?_
                  refine runX_seq ?_
                  refine runX_regionC fun C hC => ?_
                  try simp -implicitDefEqProofs (maxSteps := 4000000) (disch := first | omega | decide | (simp only [go_sem]; omega)) only [go_sem, ↓reduceIte]
                  repeat (with_reducible refine And.intro (by first | assumption | omega | (simp; done) | (simp; omega)) ?_)
                  refine toEnd hC ?_
                  refine endX_seq ?_
                  refine runX_condT rfl rfl ?_
                  refine runX_skip ?_
                  refine endX_seq ?_
                  refine runX_seq ?_
                  refine runX_block ?_
                  refine runX_regionC fun C hC => ?_
                  try simp -implicitDefEqProofs (maxSteps := 4000000) (disch := first | omega | decide | (simp only [go_sem]; omega)) only [go_sem, ↓reduceIte]
                  repeat (with_reducible refine And.intro (by first | assumption | omega | (simp; done) | (simp; omega)) ?_)
                  refine toEnd hC ?_
                  refine endX_blk ?_
                  refine endX_seq ?_
                  refine runX_regionC fun C hC => ?_
                  try simp -implicitDefEqProofs (maxSteps := 4000000) (disch := first | omega | decide | (simp only [go_sem]; omega)) only [go_sem, ↓reduceIte]
                  repeat (with_reducible refine And.intro (by first | assumption | omega | (simp; done) | (simp; omega)) ?_)
                  refine toEnd hC ?_
                  refine endX_lp ?_
                  refine runX_seq ?_
                  refine runX_seq ?_
                  refine runX_regionC fun C hC => ?_
                  try simp -implicitDefEqProofs (maxSteps := 4000000) (disch := first | omega | decide | (simp only [go_sem]; omega)) only [go_sem, ↓reduceIte]
                  repeat (with_reducible refine And.intro (by first | assumption | omega | (simp; done) | (simp; omega)) ?_)
                  refine toEnd hC ?_
                  refine endX_seq ?_
                  refine runX_condT rfl rfl ?_
                  refine runX_skip ?_
                  refine endX_seq ?_
                  refine runX_seq ?_
                  refine runX_block ?_
                  refine runX_regionC fun C hC => ?_
                  try simp -implicitDefEqProofs (maxSteps := 4000000) (disch := first | omega | decide | (simp only [go_sem]; omega)) only [go_sem, ↓reduceIte]
                  repeat (with_reducible refine And.intro (by first | assumption | omega | (simp; done) | (simp; omega)) ?_)
                  refine toEnd hC ?_
                  refine endX_blk ?_
                  refine endX_seq ?_
                  refine runX_regionC fun C hC => ?_
                  try simp -implicitDefEqProofs (maxSteps := 4000000) (disch := first | omega | decide | (simp only [go_sem]; omega)) only [go_sem, ↓reduceIte]
                  repeat (with_reducible refine And.intro (by first | assumption | omega | (simp; done) | (simp; omega)) ?_)
                  refine toEnd hC ?_
                  refine endX_lp ?_
                  refine runX_seq ?_
                  refine runX_seq ?_
                  refine runX_regionC fun C hC => ?_
                  try simp -implicitDefEqProofs (maxSteps := 4000000) (disch := first | omega | decide | (simp only [go_sem]; omega)) only [go_sem, ↓reduceIte]
                  repeat (with_reducible refine And.intro (by first | assumption | omega | (simp; done) | (simp; omega)) ?_)
                  refine toEnd hC ?_
                  refine endX_seq ?_
                  refine runX_condT rfl rfl ?_
                  refine runX_skip ?_
                  refine endX_seq ?_
                  refine runX_seq ?_
                  refine runX_block ?_
                  refine runX_regionC fun C hC => ?_
                  try simp -implicitDefEqProofs (maxSteps := 4000000) (disch := first | omega | decide | (simp only [go_sem]; omega)) only [go_sem, ↓reduceIte]
                  repeat (with_reducible refine And.intro (by first | assumption | omega | (simp; done) | (simp; omega)) ?_)
                  refine toEnd hC ?_
                  refine endX_blk ?_
                  refine endX_seq ?_
                  refine runX_regionC fun C hC => ?_
                  try simp -implicitDefEqProofs (maxSteps := 4000000) (disch := first | omega | decide | (simp only [go_sem]; omega)) only [go_sem, ↓reduceIte]
                  repeat (with_reducible refine And.intro (by first | assumption | omega | (simp; done) | (simp; omega)) ?_)
                  refine toEnd hC ?_
                  refine endX_lp ?_
                  refine runX_seq ?_
                  refine runX_seq ?_
                  refine runX_regionC fun C hC => ?_
                  try simp -implicitDefEqProofs (maxSteps := 4000000) (disch := first | omega | decide | (simp only [go_sem]; omega)) only [go_sem, ↓reduceIte]
                  repeat (with_reducible refine And.intro (by first | assumption | omega | (simp; done) | (simp; omega)) ?_)
                  refine toEnd hC ?_
                  refine endX_seq ?_
                  refine runX_condT rfl rfl ?_
                  refine runX_skip ?_
                  refine endX_seq ?_
                  refine runX_seq ?_
                  refine runX_block ?_
                  refine runX_regionC fun C hC => ?_
                  try simp -implicitDefEqProofs (maxSteps := 4000000) (disch := first | omega | decide | (simp only [go_sem]; omega)) only [go_sem, ↓reduceIte]
                  repeat (with_reducible refine And.intro (by first | assumption | omega | (simp; done) | (simp; omega)) ?_)
                  refine toEnd hC ?_
                  refine endX_blk ?_
                  refine endX_seq ?_
                  refine runX_regionC fun C hC => ?_
                  try simp -implicitDefEqProofs (maxSteps := 4000000) (disch := first | omega | decide | (simp only [go_sem]; omega)) only [go_sem, ↓reduceIte]
                  repeat (with_reducible refine And.intro (by first | assumption | omega | (simp; done) | (simp; omega)) ?_)
                  refine toEnd hC ?_
                  refine endX_lp ?_
                  refine runX_seq ?_
                  refine runX_seq ?_
                  refine runX_regionC fun C hC => ?_
                  try simp -implicitDefEqProofs (maxSteps := 4000000) (disch := first | omega | decide | (simp only [go_sem]; omega)) only [go_sem, ↓reduceIte]
                  repeat (with_reducible refine And.intro (by first | assumption | omega | (simp; done) | (simp; omega)) ?_)
                  refine toEnd hC ?_
                  refine endX_seq ?_
                  refine runX_condT rfl rfl ?_
                  refine runX_skip ?_
                  refine endX_seq ?_
                  refine runX_seq ?_
                  refine runX_block ?_
                  refine runX_regionC fun C hC => ?_
                  try simp -implicitDefEqProofs (maxSteps := 4000000) (disch := first | omega | decide | (simp only [go_sem]; omega)) only [go_sem, ↓reduceIte]
                  repeat (with_reducible refine And.intro (by first | assumption | omega | (simp; done) | (simp; omega)) ?_)
                  refine toEnd hC ?_
                  refine endX_blk ?_
                  refine endX_seq ?_
                  refine runX_regionC fun C hC => ?_
                  try simp -implicitDefEqProofs (maxSteps := 4000000) (disch := first | omega | decide | (simp only [go_sem]; omega)) only [go_sem, ↓reduceIte]
                  repeat (with_reducible refine And.intro (by first | assumption | omega | (simp; done) | (simp; omega)) ?_)
                  refine toEnd hC ?_
                  refine endX_lp ?_
                  refine runX_seq ?_
                  refine runX_seq ?_
                  refine runX_regionC fun C hC => ?_
                  try simp -implicitDefEqProofs (maxSteps := 4000000) (disch := first | omega | decide | (simp only [go_sem]; omega)) only [go_sem, ↓reduceIte]
                  repeat (with_reducible refine And.intro (by first | assumption | omega | (simp; done) | (simp; omega)) ?_)
                  refine toEnd hC ?_
                  refine endX_seq ?_
                  refine runX_condT rfl rfl ?_
                  refine runX_skip ?_
                  refine endX_seq ?_
                  refine runX_seq ?_
                  refine runX_block ?_
                  refine runX_regionC fun C hC => ?_
                  try simp -implicitDefEqProofs (maxSteps := 4000000) (disch := first | omega | decide | (simp only [go_sem]; omega)) only [go_sem, ↓reduceIte]
                  repeat (with_reducible refine And.intro (by first | assumption | omega | (simp; done) | (simp; omega)) ?_)
                  refine toEnd hC ?_
                  refine endX_blk ?_
                  refine endX_seq ?_
                  refine runX_regionC fun C hC => ?_
                  try simp -implicitDefEqProofs (maxSteps := 4000000) (disch := first | omega | decide | (simp only [go_sem]; omega)) only [go_sem, ↓reduceIte]
                  repeat (with_reducible refine And.intro (by first | assumption | omega | (simp; done) | (simp; omega)) ?_)
                  refine toEnd hC ?_
                  refine endX_lp ?_
                  refine runX_seq ?_
                  refine runX_seq ?_
                  refine runX_regionC fun C hC => ?_
                  try simp -implicitDefEqProofs (maxSteps := 4000000) (disch := first | omega | decide | (simp only [go_sem]; omega)) only [go_sem, ↓reduceIte]
                  repeat (with_reducible refine And.intro (by first | assumption | omega | (simp; done) | (simp; omega)) ?_)
                  refine toEnd hC ?_
                  refine endX_seq ?_
                  refine runX_condT rfl rfl ?_
                  refine runX_skip ?_
                  refine endX_seq ?_
                  refine runX_seq ?_
                  refine runX_block ?_
                  refine runX_regionC fun C hC => ?_
                  try simp -implicitDefEqProofs (maxSteps := 4000000) (disch := first | omega | decide | (simp only [go_sem]; omega)) only [go_sem, ↓reduceIte]
                  repeat (with_reducible refine And.intro (by first | assumption | omega | (simp; done) | (simp; omega)) ?_)
                  refine toEnd hC ?_
                  refine endX_blk ?_
                  refine endX_seq ?_
                  refine runX_regionC fun C hC => ?_
                  try simp -implicitDefEqProofs (maxSteps := 4000000) (disch := first | omega | decide | (simp only [go_sem]; omega)) only [go_sem, ↓reduceIte]
                  repeat (with_reducible refine And.intro (by first | assumption | omega | (simp; done) | (simp; omega)) ?_)
                  refine toEnd hC ?_
                  refine endX_lp ?_
                  refine runX_seq ?_
                  refine runX_seq ?_
                  refine runX_regionC fun C hC => ?_
                  try simp -implicitDefEqProofs (maxSteps := 4000000) (disch := first | omega | decide | (simp only [go_sem]; omega)) only [go_sem, ↓reduceIte]
                  repeat (with_reducible refine And.intro (by first | assumption | omega | (simp; done) | (simp; omega)) ?_)
                  refine toEnd hC ?_
                  refine endX_seq ?_
                  refine runX_condT rfl rfl ?_
                  refine runX_skip ?_
                  refine endX_seq ?_
                  refine runX_seq ?_
                  refine runX_block ?_
                  refine runX_regionC fun C hC => ?_
                  try simp -implicitDefEqProofs (maxSteps := 4000000) (disch := first | omega | decide | (simp only [go_sem]; omega)) only [go_sem, ↓reduceIte]
                  repeat (with_reducible refine And.intro (by first | assumption | omega | (simp; done) | (simp; omega)) ?_)
                  refine toEnd hC ?_
                  refine endX_blk ?_
                  refine endX_seq ?_
                  refine runX_regionC fun C hC => ?_
                  try simp -implicitDefEqProofs (maxSteps := 4000000) (disch := first | omega | decide | (simp only [go_sem]; omega)) only [go_sem, ↓reduceIte]
                  repeat (with_reducible refine And.intro (by first | assumption | omega | (simp; done) | (simp; omega)) ?_)
                  refine toEnd hC ?_
                  refine endX_lp ?_
                  refine runX_seq ?_
                  refine runX_seq ?_
                  refine runX_regionC fun C hC => ?_
                  try simp -implicitDefEqProofs (maxSteps := 4000000) (disch := first | omega | decide | (simp only [go_sem]; omega)) only [go_sem, ↓reduceIte]
                  repeat (with_reducible refine And.intro (by first | assumption | omega | (simp; done) | (simp; omega)) ?_)
                  refine toEnd hC ?_
                  refine endX_seq ?_
                  refine runX_condT rfl rfl ?_
                  refine runX_skip ?_
                  refine endX_seq ?_
                  refine runX_seq ?_
                  refine runX_block ?_
                  refine runX_regionC fun C hC => ?_
                  try simp -implicitDefEqProofs (maxSteps := 4000000) (disch := first | omega | decide | (simp only [go_sem]; omega)) only [go_sem, ↓reduceIte]
                  repeat (with_reducible refine And.intro (by first | assumption | omega | (simp; done) | (simp; omega)) ?_)
                  refine toEnd hC ?_
                  refine endX_blk ?_
                  refine endX_seq ?_
                  refine runX_regionC fun C hC => ?_
                  try simp -implicitDefEqProofs (maxSteps := 4000000) (disch := first | omega | decide | (simp only [go_sem]; omega)) only [go_sem, ↓reduceIte]
                  repeat (with_reducible refine And.intro (by first | assumption | omega | (simp; done) | (simp; omega)) ?_)
                  refine toEnd hC ?_
                  refine endX_lp ?_
                  refine runX_seq ?_
                  refine runX_seq ?_
                  refine runX_regionC fun C hC => ?_
                  try simp -implicitDefEqProofs (maxSteps := 4000000) (disch := first | omega | decide | (simp only [go_sem]; omega)) only [go_sem, ↓reduceIte]
                  repeat (with_reducible refine And.intro (by first | assumption | omega | (simp; done) | (simp; omega)) ?_)
                  refine toEnd hC ?_
                  refine endX_seq ?_
                  refine runX_condT rfl rfl ?_
                  refine runX_skip ?_
                  refine endX_seq ?_
                  refine runX_seq ?_
                  refine runX_block ?_
                  refine runX_regionC fun C hC => ?_
                  try simp -implicitDefEqProofs (maxSteps := 4000000) (disch := first | omega | decide | (simp only [go_sem]; omega)) only [go_sem, ↓reduceIte]
                  repeat (with_reducible refine And.intro (by first | assumption | omega | (simp; done) | (simp; omega)) ?_)
                  refine toEnd hC ?_
                  refine endX_blk ?_
                  refine endX_seq ?_
                  refine runX_regionC fun C hC => ?_
                  try simp -implicitDefEqProofs (maxSteps := 4000000) (disch := first | omega | decide | (simp only [go_sem]; omega)) only [go_sem, ↓reduceIte]
                  repeat (with_reducible refine And.intro (by first | assumption | omega | (simp; done) | (simp; omega)) ?_)
                  refine toEnd hC ?_
                  refine endX_lp ?_
                  refine runX_seq ?_
                  refine runX_seq ?_
                  refine runX_regionC fun C hC => ?_
                  try simp -implicitDefEqProofs (maxSteps := 4000000) (disch := first | omega | decide | (simp only [go_sem]; omega)) only [go_sem, ↓reduceIte]
                  repeat (with_reducible refine And.intro (by first | assumption | omega | (simp; done) | (simp; omega)) ?_)
                  refine toEnd hC ?_
                  refine endX_seq ?_
                  refine runX_condT rfl rfl ?_
                  refine runX_skip ?_
                  refine endX_seq ?_
                  refine runX_seq ?_
                  refine runX_block ?_
                  refine runX_regionC fun C hC => ?_
                  try simp -implicitDefEqProofs (maxSteps := 4000000) (disch := first | omega | decide | (simp only [go_sem]; omega)) only [go_sem, ↓reduceIte]
                  repeat (with_reducible refine And.intro (by first | assumption | omega | (simp; done) | (simp; omega)) ?_)
                  refine toEnd hC ?_
                  refine endX_blk ?_
                  refine endX_seq ?_
                  refine runX_regionC fun C hC => ?_
                  try simp -implicitDefEqProofs (maxSteps := 4000000) (disch := first | omega | decide | (simp only [go_sem]; omega)) only [go_sem, ↓reduceIte]
                  repeat (with_reducible refine And.intro (by first | assumption | omega | (simp; done) | (simp; omega)) ?_)
                  refine toEnd hC ?_
                  refine endX_lp ?_
                  refine runX_seq ?_
                  refine runX_seq ?_
                  refine runX_regionC fun C hC => ?_
                  try simp -implicitDefEqProofs (maxSteps := 4000000) (disch := first | omega | decide | (simp only [go_sem]; omega)) only [go_sem, ↓reduceIte]
                  repeat (with_reducible refine And.intro (by first | assumption | omega | (simp; done) | (simp; omega)) ?_)
                  refine toEnd hC ?_
                  refine endX_seq ?_
                  refine runX_condT rfl rfl ?_
                  refine runX_skip ?_
                  refine endX_seq ?_
                  refine runX_seq ?_
                  refine runX_block ?_
                  refine runX_regionC fun C hC => ?_
                  try simp -implicitDefEqProofs (maxSteps := 4000000) (disch := first | omega | decide | (simp only [go_sem]; omega)) only [go_sem, ↓reduceIte]
                  repeat (with_reducible refine And.intro (by first | assumption | omega | (simp; done) | (simp; omega)) ?_)
                  refine toEnd hC ?_
                  refine endX_blk ?_
                  refine endX_seq ?_
                  refine runX_regionC fun C hC => ?_
                  try simp -implicitDefEqProofs (maxSteps := 4000000) (disch := first | omega | decide | (simp only [go_sem]; omega)) only [go_sem, ↓reduceIte]
                  repeat (with_reducible refine And.intro (by first | assumption | omega | (simp; done) | (simp; omega)) ?_)
                  refine toEnd hC ?_
                  refine endX_lp ?_
                  refine runX_seq ?_
                  refine runX_seq ?_
                  refine runX_regionC fun C hC => ?_
                  try simp -implicitDefEqProofs (maxSteps := 4000000) (disch := first | omega | decide | (simp only [go_sem]; omega)) only [go_sem, ↓reduceIte]
                  repeat (with_reducible refine And.intro (by first | assumption | omega | (simp; done) | (simp; omega)) ?_)
                  refine toEnd hC ?_
                  refine endX_seq ?_
                  refine runX_condT rfl rfl ?_
                  refine runX_skip ?_
                  refine endX_seq ?_
                  refine runX_seq ?_
                  refine runX_block ?_
                  refine runX_regionC fun C hC => ?_
                  try simp -implicitDefEqProofs (maxSteps := 4000000) (disch := first | omega | decide | (simp only [go_sem]; omega)) only [go_sem, ↓reduceIte]
                  repeat (with_reducible refine And.intro (by first | assumption | omega | (simp; done) | (simp; omega)) ?_)
                  refine toEnd hC ?_
                  refine endX_blk ?_
                  refine endX_seq ?_
                  refine runX_regionC fun C hC => ?_
                  try simp -implicitDefEqProofs (maxSteps := 4000000) (disch := first | omega | decide | (simp only [go_sem]; omega)) only [go_sem, ↓reduceIte]
                  repeat (with_reducible refine And.intro (by first | assumption | omega | (simp; done) | (simp; omega)) ?_)
                  refine toEnd hC ?_
                  refine endX_lp ?_
                  refine runX_seq ?_
                  refine runX_seq ?_
                  refine runX_regionC fun C hC => ?_
                  try simp -implicitDefEqProofs (maxSteps := 4000000) (disch := first | omega | decide | (simp only [go_sem]; omega)) only [go_sem, ↓reduceIte]
                  repeat (with_reducible refine And.intro (by first | assumption | omega | (simp; done) | (simp; omega)) ?_)
                  refine toEnd hC ?_
                  refine endX_seq ?_
                  refine runX_condT rfl rfl ?_
                  refine runX_skip ?_
                  refine endX_seq ?_
                  refine runX_seq ?_
                  refine runX_block ?_
                  refine runX_regionC fun C hC => ?_
                  try simp -implicitDefEqProofs (maxSteps := 4000000) (disch := first | omega | decide | (simp only [go_sem]; omega)) only [go_sem, ↓reduceIte]
                  repeat (with_reducible refine And.intro (by first | assumption | omega | (simp; done) | (simp; omega)) ?_)
                  refine toEnd hC ?_
                  refine endX_blk ?_
                  refine endX_seq ?_
                  refine runX_regionC fun C hC => ?_
                  try simp -implicitDefEqProofs (maxSteps := 4000000) (disch := first | omega | decide | (simp only [go_sem]; omega)) only [go_sem, ↓reduceIte]
                  repeat (with_reducible refine And.intro (by first | assumption | omega | (simp; done) | (simp; omega)) ?_)
                  refine toEnd hC ?_
                  refine endX_lp ?_
                  refine runX_seq ?_
                  refine runX_seq ?_
                  refine runX_regionC fun C hC => ?_
                  try simp -implicitDefEqProofs (maxSteps := 4000000) (disch := first | omega | decide | (simp only [go_sem]; omega)) only [go_sem, ↓reduceIte]
                  repeat (with_reducible refine And.intro (by first | assumption | omega | (simp; done) | (simp; omega)) ?_)
                  refine toEnd hC ?_
                  refine endX_seq ?_
                  refine runX_condT rfl rfl ?_
                  refine runX_skip ?_
                  refine endX_seq ?_
                  refine runX_seq ?_
                  refine runX_block ?_
                  refine runX_regionC fun C hC => ?_
                  try simp -implicitDefEqProofs (maxSteps := 4000000) (disch := first | omega | decide | (simp only [go_sem]; omega)) only [go_sem, ↓reduceIte]
                  repeat (with_reducible refine And.intro (by first | assumption | omega | (simp; done) | (simp; omega)) ?_)
                  refine toEnd hC ?_
                  refine endX_blk ?_
                  refine endX_seq ?_
                  refine runX_regionC fun C hC => ?_
                  try simp -implicitDefEqProofs (maxSteps := 4000000) (disch := first | omega | decide | (simp only [go_sem]; omega)) only [go_sem, ↓reduceIte]
                  repeat (with_reducible refine And.intro (by first | assumption | omega | (simp; done) | (simp; omega)) ?_)
                  refine toEnd hC ?_
                  refine endX_lp ?_
                  refine runX_seq ?_
                  refine runX_seq ?_
                  refine runX_regionC fun C hC => ?_
                  try simp -implicitDefEqProofs (maxSteps := 4000000) (disch := first | omega | decide | (simp only [go_sem]; omega)) only [go_sem, ↓reduceIte]
                  repeat (with_reducible refine And.intro (by first | assumption | omega | (simp; done) | (simp; omega)) ?_)
                  refine toEnd hC ?_
                  refine endX_seq ?_
                  refine runX_condT rfl rfl ?_
                  refine runX_skip ?_
                  refine endX_seq ?_
                  refine runX_seq ?_
                  refine runX_block ?_
                  refine runX_regionC fun C hC => ?_
                  try simp -implicitDefEqProofs (maxSteps := 4000000) (disch := first | omega | decide | (simp only [go_sem]; omega)) only [go_sem, ↓reduceIte]
                  repeat (with_reducible refine And.intro (by first | assumption | omega | (simp; done) | (simp; omega)) ?_)
                  refine toEnd hC ?_
                  refine endX_blk ?_
                  refine endX_seq ?_
                  refine runX_regionC fun C hC => ?_
                  try simp -implicitDefEqProofs (maxSteps := 4000000) (disch := first | omega | decide | (simp only [go_sem]; omega)) only [go_sem, ↓reduceIte]
                  repeat (with_reducible refine And.intro (by first | assumption | omega | (simp; done) | (simp; omega)) ?_)
                  refine toEnd hC ?_
                  refine endX_lp ?_
                  refine runX_seq ?_
                  refine runX_seq ?_
                  refine runX_regionC fun C hC => ?_
                  try simp -implicitDefEqProofs (maxSteps := 4000000) (disch := first | omega | decide | (simp only [go_sem]; omega)) only [go_sem, ↓reduceIte]
                  repeat (with_reducible refine And.intro (by first | assumption | omega | (simp; done) | (simp; omega)) ?_)
                  refine toEnd hC ?_
                  refine endX_seq ?_
                  refine runX_condF rfl rfl ?_
                  refine runX_exit ?_
                  refine endX_seqE ?_
                  refine endX_lpE ?_
                  refine endX_blkE ?_
                  refine endX_seq ?_
                  refine runX_seq ?_
                  refine runX_regionC fun C hC => ?_
                  try simp -implicitDefEqProofs (maxSteps := 4000000) (disch := first | omega | decide | (simp only [go_sem]; omega)) only [go_sem, ↓reduceIte]
                  repeat (with_reducible refine And.intro (by first | assumption | omega | (simp; done) | (simp; omega)) ?_)
                  refine toEnd hC ?_
                  refine endX_seq ?_
                  refine runX_ret ?_
                  refine endX_q ?_
                  obtain rfl := Option.some.inj h
                  show RetW _ _ _ _ _
                  simp only [RetW]
                  (try simp -implicitDefEqProofs (maxSteps := 4000000) (disch := first | omega | decide | (simp only [go_sem]; omega)) only [go_sem, ↓reduceIte])
                  (try simp (disch := omega) only [if_pos, Nat.sub_zero])
                  exact leT_refl _
end Go.Proofs.YtaiapalhdejngaaX

set_option linter.unusedVariables false
set_option linter.unusedSimpArgs false
namespace Go.Proofs.YtaiapalhdejngaaX
open Go Go.RowKit Go.Proofs
set_option maxRecDepth 100000
attribute [local go_sem ↓] stepsK_build stepsK_build0 stepsK_bs stepsK_bs0 appendS
attribute [local go_sem] String.reduceEq String.reduceNe reduceCtorEq Int.reduceEq Nat.reduceAdd Nat.reduceSub Nat.reduceMul Nat.reduceLT Nat.reduceLeDiff Nat.reduceEqDiff Nat.reduceBEq Int.reduceToNat Int.reduceLT Int.reduceLE Int.reduceGT Int.reduceGE Int.reduceAdd Int.reduceSub Int.reduceMul Int.reduceNeg Int.reduceBEq Int.reduceBNe Int.reducePow Int.reduceDiv Int.reduceMod Int.reduceTDiv Int.reduceTMod Int.reduceNatCast
/-! ### shadowboxref11.Sum -/
def F77_S1 (x2 : List (Int)) (x3 : Int) (x4 : Int) (x5 : Int) (x6 : Int) (x7 : Int) : St := ⟨[.sl 1 false (List.map byteT x2), .junk, .ref 0 0 0 0, .ref 1 0 0 0, .junk, .junk, .junk, .junk, .junk, .junk, .junk, .junk, .junk, .junk, .junk, .junk, .junk], [some (.box 70 (.agg [.imm (.int .u8 (0 : Int)), .imm (.int .u8 (0 : Int)), .imm (.int .u8 (0 : Int)), .imm (.int .u8 (0 : Int)), .imm (.int .u8 (0 : Int)), .imm (.int .u8 (0 : Int)), .imm (.int .u8 (0 : Int)), .imm (.int .u8 (0 : Int)), .imm (.int .u8 (0 : Int)), .imm (.int .u8 (0 : Int)), .imm (.int .u8 (0 : Int)), .imm (.int .u8 (0 : Int)), .imm (.int .u8 (0 : Int)), .imm (.int .u8 (0 : Int)), .imm (.int .u8 (0 : Int)), .imm (.int .u8 (0 : Int))]) false), some (.box 132 (.agg [.imm (.int .u32 x3), .imm (.int .u32 x4), .imm (.int .u32 x5), .imm (.int .u32 x6), .imm (.int .u64 x7)]) false)]⟩
def F77_L1 : Nat → (List (Int)) → (Int) → (Int) → (Int) → (Int) → (Int) → Option (List (Int))
  | 0, _, _, _, _, _, _ => none
  | m1 + 1, x2, x3, x4, x5, x6, x7 => iteB (decide ((64 : Int) ≤ (x2.length : Int))) (grd ((64 : Int) ≤ (x2.length : Int)) ((F101 m1 ([x3, x4, x5, x6], x7) (x2.take 64)).bind fun v10 => grd ((64 : Int) ≤ (x2.length : Int)) (F77_L1 m1 (x2.drop 64) (v10.1.getD 0 default) (v10.1.getD 1 default) (v10.1.getD 2 default) (v10.1.getD 3 default) v10.2))) ((F102 m1 ([x3, x4, x5, x6], x7) x2).bind fun v12 => grd (v12.length = 16) (grd (16 ≤ v12.length) (some (v12.take 16))))
def F77 (n : Nat) (a0 : List (Int)) : Option (List (Int)) := (F100 n ).bind fun v1 => F77_L1 n a0 (v1.1.getD 0 default) (v1.1.getD 1 default) (v1.1.getD 2 default) (v1.1.getD 3 default) v1.2
set_option maxHeartbeats 4000000 in
theorem F77_ok : ∀ (n : Nat) (a0 : List (Int)) (r : List (Int)), F77 n a0 = some r → FnC Try.prog 77 [.sl 1 false (List.map byteT a0)] (.agg (List.map byteT r))
  | n, a0, r, h => by
    unfold F77 at h
    refine FnC.goX mixed Try.func77 (by kernel_rfl) rfl ?_
    simp only [Try.ntmps77, List.length_cons, List.length_nil, List.replicate, List.cons_append, List.nil_append, Nat.reduceAdd, Nat.reduceSub]
    refine runX_seq ?_
    refine runX_regionC fun C hC => ?_
    try simp -implicitDefEqProofs (maxSteps := 4000000) (disch := first | omega | decide | (simp only [go_sem]; omega)) only [go_sem, ↓reduceIte]
    repeat (with_reducible refine And.intro (by first | assumption | omega | (simp; done) | (simp; omega)) ?_)
    refine toEnd hC ?_
    refine endX_seq ?_
    refine runX_seq ?_
    refine runX_regionC fun C hC => ?_
    simp only [runK_region, runK_draw, liteL, liteL2, dstsL, gL, List.getD_cons_zero, List.getD_cons_succ]
    obtain ⟨v1, h1, h⟩ := bnd_some h
    try simp -implicitDefEqProofs (maxSteps := 4000000) (disch := first | omega | decide | (simp only [go_sem]; omega)) only [go_sem, ↓reduceIte]
    repeat (with_reducible refine And.intro (by first | assumption | omega | (simp; done) | (simp; omega)) ?_)
    refine callG_X (by first | rfl | (simp only [go_sem]; done) | (simp only [closedL, closedT, Bool.and_true]; exact closedL_map _ (fun _ => by first | rfl | (simp only [go_sem]; done)) _)) (F100_ok n  _ h1) (by repeat (first | exact leL_refl _ | refine leL_cons (by first | exact leT_refl _ | exact leT_virt | exact leT_junk _ | exact leT_sl | exact leT_sln | exact leT_nil | (refine leT_agg (by repeat (first | exact leL_refl _ | refine leL_cons (by first | exact leT_refl _ | exact leT_sl | exact leT_sln | exact leT_nil) ?_)))) ?_)) ?_
    try simp -implicitDefEqProofs (maxSteps := 4000000) (disch := first | omega | decide | (simp only [go_sem]; omega)) only [go_sem, ↓reduceIte]
    repeat (with_reducible refine And.intro (by first | assumption | omega | (simp; done) | (simp; omega)) ?_)
    refine toEnd hC ?_
    refine endX_seq ?_
    refine runX_seq ?_
    refine runX_block ?_
    refine runX_loop [0, 2, 3] (fun m S => ∃ (x2 : List (Int)) (x3 : Int) (x4 : Int) (x5 : Int) (x6 : Int) (x7 : Int), S = F77_S1 x2 x3 x4 x5 x6 x7 ∧ m ≤ n ∧ F77_L1 m x2 x3 x4 x5 x6 x7 = some r) n ⟨F77_S1 a0 (v1.1.getD 0 default) (v1.1.getD 1 default) (v1.1.getD 2 default) (v1.1.getD 3 default) v1.2, ?_, a0, (v1.1.getD 0 default), (v1.1.getD 1 default), (v1.1.getD 2 default), (v1.1.getD 3 default), v1.2, rfl, Nat.le_refl _, h⟩ ?_
    · simp only [F77_S1]
      (try simp -implicitDefEqProofs (maxSteps := 4000000) (disch := first | omega | decide | (simp only [go_sem]; omega)) only [go_sem, ↓reduceIte])
      first | exact leS_refl _ | (refine leS_le ?_ ?_ <;> first | exact leL_refl _ | exact leOs_refl _ | (simp only [List.append_assoc, List.cons_append, List.nil_append]; exact leOs_refl _) | (repeat (first | exact leL_refl _ | refine leL_cons (by first | exact leT_refl _ | exact leT_virt | exact leT_junk _ | exact leT_sl | exact leT_sln | exact leT_nil | (refine leT_agg (by repeat (first | exact leL_refl _ | refine leL_cons (by first | exact leT_refl _ | exact leT_sl | exact leT_sln | exact leT_nil) ?_)))) ?_)))
    · clear h
      rintro m1 S ⟨x2, x3, x4, x5, x6, x7, rfl, hm1, h⟩
      cases m1 with
      | zero => first | cases (show (none : Option _) = some _ from h) | (rw [F77_L1] at h; cases h)
      | succ m1 =>
        rw [F77_L1] at h
        simp only [F77_S1]
        refine runX_seq ?_
        refine runX_seq ?_
        refine runX_regionC fun C hC => ?_
        try simp -implicitDefEqProofs (maxSteps := 4000000) (disch := first | omega | decide | (simp only [go_sem]; omega)) only [go_sem, ↓reduceIte]
        repeat (with_reducible refine And.intro (by first | assumption | omega | (simp; done) | (simp; omega)) ?_)
        refine toEnd hC ?_
        refine endX_seq ?_
        rcases iteB_some h with ⟨c8, h⟩ | ⟨c8, h⟩
        · refine runX_condT rfl c8 ?_
          refine runX_skip ?_
          refine endX_seq ?_
          refine runX_block ?_
          refine runX_seq ?_
          refine runX_drawC mixed (by kernel_rfl) fun C hC => ?_
          obtain ⟨g9, h⟩ := grd_some h
          obtain ⟨v10, h10, h⟩ := bnd_some h
          try simp -implicitDefEqProofs (maxSteps := 4000000) (disch := first | omega | decide | (simp only [go_sem]; omega)) only [go_sem, ↓reduceIte]
          repeat (with_reducible refine And.intro (by first | assumption | omega | (simp; done) | (simp; omega)) ?_)
          refine callD_X (F101_ok m1 ([x3, x4, x5, x6], x7) (x2.take 64) _ h10) (by repeat (first | exact leL_refl _ | refine leL_cons (by first | exact leT_refl _ | exact leT_virt | exact leT_junk _ | exact leT_sl | exact leT_sln | exact leT_nil | (refine leT_agg (by repeat (first | exact leL_refl _ | refine leL_cons (by first | exact leT_refl _ | exact leT_sl | exact leT_sln | exact leT_nil) ?_)))) ?_)) ?_
          try simp -implicitDefEqProofs (maxSteps := 4000000) (disch := first | omega | decide | (simp only [go_sem]; omega)) only [go_sem, ↓reduceIte]
          repeat (with_reducible refine And.intro (by first | assumption | omega | (simp; done) | (simp; omega)) ?_)
          refine toEnd hC ?_
          refine endX_seq ?_
          refine runX_regionC fun C hC => ?_
          obtain ⟨g11, h⟩ := grd_some h
          try simp -implicitDefEqProofs (maxSteps := 4000000) (disch := first | omega | decide | (simp only [go_sem]; omega)) only [go_sem, ↓reduceIte]
          repeat (with_reducible refine And.intro (by first | assumption | omega | (simp; done) | (simp; omega)) ?_)
          refine toEnd hC ?_
          refine endX_blk ?_
          refine endX_q (roundQ_normal ⟨m1, by omega, F77_S1 (x2.drop 64) (v10.1.getD 0 default) (v10.1.getD 1 default) (v10.1.getD 2 default) (v10.1.getD 3 default) v10.2, ?_, (x2.drop 64), (v10.1.getD 0 default), (v10.1.getD 1 default), (v10.1.getD 2 default), (v10.1.getD 3 default), v10.2, rfl, by omega, h⟩)
          simp only [F77_S1]
          (try simp -implicitDefEqProofs (maxSteps := 4000000) (disch := first | omega | decide | (simp only [go_sem]; omega)) only [go_sem, ↓reduceIte])
          first | exact leS_refl _ | (refine leS_le ?_ ?_ <;> first | exact leL_refl _ | exact leOs_refl _ | (simp only [List.append_assoc, List.cons_append, List.nil_append]; exact leOs_refl _) | (repeat (first | exact leL_refl _ | refine leL_cons (by first | exact leT_refl _ | exact leT_virt | exact leT_junk _ | exact leT_sl | exact leT_sln | exact leT_nil | (refine leT_agg (by repeat (first | exact leL_refl _ | refine leL_cons (by first | exact leT_refl _ | exact leT_sl | exact leT_sln | exact leT_nil) ?_)))) ?_)))
        · refine runX_condF rfl c8 ?_
          refine runX_exit ?_
          refine endX_seqE ?_
          refine endX_q (roundQ_exit ?_)
          refine endX_blkE ?_
          refine endX_seq ?_
          refine runX_seq ?_
          refine runX_regionC fun C hC => ?_
          obtain ⟨v12, h12, h⟩ := bnd_some h
          try simp -implicitDefEqProofs (maxSteps := 4000000) (disch := first | omega | decide | (simp only [go_sem]; omega)) only [go_sem, ↓reduceIte]
          repeat (with_reducible refine And.intro (by first | assumption | omega | (simp; done) | (simp; omega)) ?_)
          refine callG_X (by first | rfl | (simp only [go_sem]; done) | (simp only [closedL, closedT, Bool.and_true]; exact closedL_map _ (fun _ => by first | rfl | (simp only [go_sem]; done)) _)) (F102_ok m1 ([x3, x4, x5, x6], x7) x2 _ h12) (by repeat (first | exact leL_refl _ | refine leL_cons (by first | exact leT_refl _ | exact leT_virt | exact leT_junk _ | exact leT_sl | exact leT_sln | exact leT_nil | (refine leT_agg (by repeat (first | exact leL_refl _ | refine leL_cons (by first | exact leT_refl _ | exact leT_sl | exact leT_sln | exact leT_nil) ?_)))) ?_)) ?_
          obtain ⟨g13, h⟩ := grd_some h
          have e14 : List.drop v12.length ([.imm (.int .u8 (0 : Int)), .imm (.int .u8 (0 : Int)), .imm (.int .u8 (0 : Int)), .imm (.int .u8 (0 : Int)), .imm (.int .u8 (0 : Int)), .imm (.int .u8 (0 : Int)), .imm (.int .u8 (0 : Int)), .imm (.int .u8 (0 : Int)), .imm (.int .u8 (0 : Int)), .imm (.int .u8 (0 : Int)), .imm (.int .u8 (0 : Int)), .imm (.int .u8 (0 : Int)), .imm (.int .u8 (0 : Int)), .imm (.int .u8 (0 : Int)), .imm (.int .u8 (0 : Int)), .imm (.int .u8 (0 : Int))] : List T) = [] := drop_all (by first | (simp only [List.length_cons, List.length_nil]; omega) | (simp; omega))
          try simp -implicitDefEqProofs (maxSteps := 4000000) (disch := first | omega | decide | (simp only [go_sem]; omega)) only [go_sem, ↓reduceIte, e14]
          repeat (with_reducible refine And.intro (by first | assumption | omega | (simp; done) | (simp; omega)) ?_)
          refine toEnd hC ?_
          refine endX_seq ?_
          refine runX_ret ?_
          refine endX_q ?_
          obtain ⟨g15, h⟩ := grd_some h
          obtain rfl := Option.some.inj h
          show RetW _ _ _ _ _
          simp only [RetW]
          (try simp -implicitDefEqProofs (maxSteps := 4000000) (disch := first | omega | decide | (simp only [go_sem]; omega)) only [go_sem, ↓reduceIte])
          repeat (with_reducible refine And.intro (by first | assumption | omega | (simp; done) | (simp; omega)) ?_)
          (try simp (disch := omega) only [if_pos, Nat.sub_zero])
          exact leT_refl _
end Go.Proofs.YtaiapalhdejngaaX

set_option linter.unusedVariables false
set_option linter.unusedSimpArgs false
namespace Go.Proofs.YtaiapalhdejngaaX
open Go Go.RowKit Go.Proofs
set_option maxRecDepth 100000
attribute [local go_sem ↓] stepsK_build stepsK_build0 stepsK_bs stepsK_bs0 appendS
attribute [local go_sem] String.reduceEq String.reduceNe reduceCtorEq Int.reduceEq Nat.reduceAdd Nat.reduceSub Nat.reduceMul Nat.reduceLT Nat.reduceLeDiff Nat.reduceEqDiff Nat.reduceBEq Int.reduceToNat Int.reduceLT Int.reduceLE Int.reduceGT Int.reduceGE Int.reduceAdd Int.reduceSub Int.reduceMul Int.reduceNeg Int.reduceBEq Int.reduceBNe Int.reducePow Int.reduceDiv Int.reduceMod Int.reduceTDiv Int.reduceTMod Int.reduceNatCast
/-! ### shadowboxref11.Text -/
def F40_S1 (v1 : List (Int)) (x4 : List UInt8) (x5 : Int) : St := ⟨[.junk, .junk, .junk, .ref 0 0 0 0, .imm (.string (bs x4)), .imm (.int .i64 x5), .junk, .junk, .junk, .junk, .junk, .junk, .junk, .junk, .junk, .junk, .junk, .junk, .junk, .junk, .junk, .junk, .junk, .junk, .junk, .junk, .junk, .junk, .junk, .junk, .junk, .junk, .junk, .junk, .junk, .junk], [some (.box 70 (.agg (List.map byteT v1)) false)]⟩
def F40_L1 : Nat → (List (Int)) → (List UInt8) → (Int) → Option (List UInt8)
  | 0, _, _, _ => none
  | m1 + 1, v1, x4, x5 => iteB (decide (x5 < (16 : Int))) (grd (0 ≤ x5 ∧ x5 < (16 : Int)) (grd (x5.toNat < v1.length) (grd (0 ≤ x5 ∧ x5 < (16 : Int)) (grd (x5.toNat < v1.length) (grd (0 ≤ (IntKind.wrap .u8 ((v1.getD x5.toNat default).tdiv (16 : Int))) ∧ (IntKind.wrap .u8 ((v1.getD x5.toNat default).tdiv (16 : Int))) ≤ (IntKind.wrap .u8 ((IntKind.wrap .u8 ((v1.getD x5.toNat default).tdiv (16 : Int))) + (1 : Int))) ∧ (IntKind.wrap .u8 ((IntKind.wrap .u8 ((v1.getD x5.toNat default).tdiv (16 : Int))) + (1 : Int))) ≤ (16 : Int)) (grd (x4.length + ((([48, 49, 50, 51, 52, 53, 54, 55, 56, 57, 97, 98, 99, 100, 101, 102] : List UInt8).take (IntKind.wrap .u8 ((IntKind.wrap .u8 ((v1.getD x5.toNat default).tdiv (16 : Int))) + (1 : Int))).toNat).drop (IntKind.wrap .u8 ((v1.getD x5.toNat default).tdiv (16 : Int))).toNat).length ≤ 9223372036854775807) (grd (0 ≤ x5 ∧ x5 < (16 : Int)) (grd (x5.toNat < v1.length) (grd (0 ≤ x5 ∧ x5 < (16 : Int)) (grd (x5.toNat < v1.length) (grd (0 ≤ ((v1.getD x5.toNat default).tmod (16 : Int)) ∧ ((v1.getD x5.toNat default).tmod (16 : Int)) ≤ (IntKind.wrap .u8 (((v1.getD x5.toNat default).tmod (16 : Int)) + (1 : Int))) ∧ (IntKind.wrap .u8 (((v1.getD x5.toNat default).tmod (16 : Int)) + (1 : Int))) ≤ (16 : Int)) (grd ((x4.length + ((([48, 49, 50, 51, 52, 53, 54, 55, 56, 57, 97, 98, 99, 100, 101, 102] : List UInt8).take (IntKind.wrap .u8 ((IntKind.wrap .u8 ((v1.getD x5.toNat default).tdiv (16 : Int))) + (1 : Int))).toNat).drop (IntKind.wrap .u8 ((v1.getD x5.toNat default).tdiv (16 : Int))).toNat).length) + ((([48, 49, 50, 51, 52, 53, 54, 55, 56, 57, 97, 98, 99, 100, 101, 102] : List UInt8).take (IntKind.wrap .u8 (((v1.getD x5.toNat default).tmod (16 : Int)) + (1 : Int))).toNat).drop ((v1.getD x5.toNat default).tmod (16 : Int)).toNat).length ≤ 9223372036854775807) (F40_L1 m1 v1 ((x4 ++ ((([48, 49, 50, 51, 52, 53, 54, 55, 56, 57, 97, 98, 99, 100, 101, 102] : List UInt8).take (IntKind.wrap .u8 ((IntKind.wrap .u8 ((v1.getD x5.toNat default).tdiv (16 : Int))) + (1 : Int))).toNat).drop (IntKind.wrap .u8 ((v1.getD x5.toNat default).tdiv (16 : Int))).toNat)) ++ ((([48, 49, 50, 51, 52, 53, 54, 55, 56, 57, 97, 98, 99, 100, 101, 102] : List UInt8).take (IntKind.wrap .u8 (((v1.getD x5.toNat default).tmod (16 : Int)) + (1 : Int))).toNat).drop ((v1.getD x5.toNat default).tmod (16 : Int)).toNat)) (IntKind.wrap .i64 (x5 + (1 : Int)))))))))))))))) (some x4)
def F40 (n : Nat) (a0 : List (Int)) : Option (List UInt8) := (F77 n a0).bind fun v1 => grd (v1.length = 16) (F40_L1 n v1 [] (0 : Int))
set_option maxHeartbeats 4000000 in
theorem F40_ok : ∀ (n : Nat) (a0 : List (Int)) (r : List UInt8), F40 n a0 = some r → FnC Try.prog 40 [.sl 1 false (List.map byteT a0)] (.imm (.string (bs r)))
  | n, a0, r, h => by
    unfold F40 at h
    refine FnC.goX mixed Try.func40 (by kernel_rfl) rfl ?_
    simp only [Try.ntmps40, List.length_cons, List.length_nil, List.replicate, List.cons_append, List.nil_append, Nat.reduceAdd, Nat.reduceSub]
    refine runX_seq ?_
    refine runX_regionC fun C hC => ?_
    try simp -implicitDefEqProofs (maxSteps := 4000000) (disch := first | omega | decide | (simp only [go_sem]; omega)) only [go_sem, ↓reduceIte]
    repeat (with_reducible refine And.intro (by first | assumption | omega | (simp; done) | (simp; omega)) ?_)
    refine toEnd hC ?_
    refine endX_seq ?_
    refine runX_seq ?_
    refine runX_regionC fun C hC => ?_
    obtain ⟨v1, h1, h⟩ := bnd_some h
    try simp -implicitDefEqProofs (maxSteps := 4000000) (disch := first | omega | decide | (simp only [go_sem]; omega)) only [go_sem, ↓reduceIte]
    repeat (with_reducible refine And.intro (by first | assumption | omega | (simp; done) | (simp; omega)) ?_)
    refine callG_X (by first | rfl | (simp only [go_sem]; done) | (simp only [closedL, closedT, Bool.and_true]; exact closedL_map _ (fun _ => by first | rfl | (simp only [go_sem]; done)) _)) (F77_ok n a0 _ h1) (by repeat (first | exact leL_refl _ | refine leL_cons (by first | exact leT_refl _ | exact leT_virt | exact leT_junk _ | exact leT_sl | exact leT_sln | exact leT_nil | (refine leT_agg (by repeat (first | exact leL_refl _ | refine leL_cons (by first | exact leT_refl _ | exact leT_sl | exact leT_sln | exact leT_nil) ?_)))) ?_)) ?_
    obtain ⟨g2, h⟩ := grd_some h
    have e3 : List.drop v1.length ([.imm (.int .u8 (0 : Int)), .imm (.int .u8 (0 : Int)), .imm (.int .u8 (0 : Int)), .imm (.int .u8 (0 : Int)), .imm (.int .u8 (0 : Int)), .imm (.int .u8 (0 : Int)), .imm (.int .u8 (0 : Int)), .imm (.int .u8 (0 : Int)), .imm (.int .u8 (0 : Int)), .imm (.int .u8 (0 : Int)), .imm (.int .u8 (0 : Int)), .imm (.int .u8 (0 : Int)), .imm (.int .u8 (0 : Int)), .imm (.int .u8 (0 : Int)), .imm (.int .u8 (0 : Int)), .imm (.int .u8 (0 : Int))] : List T) = [] := drop_all (by first | (simp only [List.length_cons, List.length_nil]; omega) | (simp; omega))
    try simp -implicitDefEqProofs (maxSteps := 4000000) (disch := first | omega | decide | (simp only [go_sem]; omega)) only [go_sem, ↓reduceIte, e3]
    repeat (with_reducible refine And.intro (by first | assumption | omega | (simp; done) | (simp; omega)) ?_)
    refine toEnd hC ?_
    refine endX_seq ?_
    refine runX_seq ?_
    refine runX_regionC fun C hC => ?_
    try simp -implicitDefEqProofs (maxSteps := 4000000) (disch := first | omega | decide | (simp only [go_sem]; omega)) only [go_sem, ↓reduceIte]
    repeat (with_reducible refine And.intro (by first | assumption | omega | (simp; done) | (simp; omega)) ?_)
    refine toEnd hC ?_
    refine endX_seq ?_
    refine runX_seq ?_
    refine runX_seq ?_
    refine runX_regionC fun C hC => ?_
    try simp -implicitDefEqProofs (maxSteps := 4000000) (disch := first | omega | decide | (simp only [go_sem]; omega)) only [go_sem, ↓reduceIte]
    repeat (with_reducible refine And.intro (by first | assumption | omega | (simp; done) | (simp; omega)) ?_)
    refine toEnd hC ?_
    refine endX_seq ?_
    refine runX_block ?_
    refine runX_loop [3, 4, 5] (fun m S => ∃ (x4 : List UInt8) (x5 : Int), S = F40_S1 v1 x4 x5 ∧ m ≤ n ∧ F40_L1 m v1 x4 x5 = some r) n ⟨F40_S1 v1 [] (0 : Int), ?_, [], (0 : Int), rfl, Nat.le_refl _, h⟩ ?_
    · simp only [F40_S1]
      (try simp -implicitDefEqProofs (maxSteps := 4000000) (disch := first | omega | decide | (simp only [go_sem]; omega)) only [go_sem, ↓reduceIte])
      first | exact leS_refl _ | (refine leS_le ?_ ?_ <;> first | exact leL_refl _ | exact leOs_refl _ | (simp only [List.append_assoc, List.cons_append, List.nil_append]; exact leOs_refl _) | (repeat (first | exact leL_refl _ | refine leL_cons (by first | exact leT_refl _ | exact leT_virt | exact leT_junk _ | exact leT_sl | exact leT_sln | exact leT_nil | (refine leT_agg (by repeat (first | exact leL_refl _ | refine leL_cons (by first | exact leT_refl _ | exact leT_sl | exact leT_sln | exact leT_nil) ?_)))) ?_)))
    · clear h
      rintro m1 S ⟨x4, x5, rfl, hm1, h⟩
      cases m1 with
      | zero => first | cases (show (none : Option _) = some _ from h) | (rw [F40_L1] at h; cases h)
      | succ m1 =>
        rw [F40_L1] at h
        simp only [F40_S1]
        refine runX_seq ?_
        refine runX_seq ?_
        refine runX_regionC fun C hC => ?_
        try simp -implicitDefEqProofs (maxSteps := 4000000) (disch := first | omega | decide | (simp only [go_sem]; omega)) only [go_sem, ↓reduceIte]
        repeat (with_reducible refine And.intro (by first | assumption | omega | (simp; done) | (simp; omega)) ?_)
        refine toEnd hC ?_
        refine endX_seq ?_
        rcases iteB_some h with ⟨c6, h⟩ | ⟨c6, h⟩
        · refine runX_condT rfl c6 ?_
          refine runX_skip ?_
          refine endX_seq ?_
          refine runX_seq ?_
          refine runX_block ?_
          refine runX_drawC mixed (by kernel_rfl) fun C hC => ?_
          obtain ⟨g7, h⟩ := grd_some h
          obtain ⟨g8, h⟩ := grd_some h
          obtain ⟨g9, h⟩ := grd_some h
          obtain ⟨g10, h⟩ := grd_some h
          obtain ⟨g11, h⟩ := grd_some h
          obtain ⟨g12, h⟩ := grd_some h
          obtain ⟨g13, h⟩ := grd_some h
          obtain ⟨g14, h⟩ := grd_some h
          obtain ⟨g15, h⟩ := grd_some h
          obtain ⟨g16, h⟩ := grd_some h
          obtain ⟨g17, h⟩ := grd_some h
          obtain ⟨g18, h⟩ := grd_some h
          try simp -implicitDefEqProofs (maxSteps := 4000000) (disch := first | omega | decide | (simp only [go_sem]; omega)) only [go_sem, ↓reduceIte]
          repeat (with_reducible refine And.intro (by first | assumption | omega | (simp; done) | (simp; omega)) ?_)
          refine toEnd hC ?_
          refine endX_blk ?_
          refine endX_seq ?_
          refine runX_regionC fun C hC => ?_
          try simp -implicitDefEqProofs (maxSteps := 4000000) (disch := first | omega | decide | (simp only [go_sem]; omega)) only [go_sem, ↓reduceIte]
          repeat (with_reducible refine And.intro (by first | assumption | omega | (simp; done) | (simp; omega)) ?_)
          refine toEnd hC ?_
          refine endX_q (roundQ_normal ⟨m1, by omega, F40_S1 v1 ((x4 ++ ((([48, 49, 50, 51, 52, 53, 54, 55, 56, 57, 97, 98, 99, 100, 101, 102] : List UInt8).take (IntKind.wrap .u8 ((IntKind.wrap .u8 ((v1.getD x5.toNat default).tdiv (16 : Int))) + (1 : Int))).toNat).drop (IntKind.wrap .u8 ((v1.getD x5.toNat default).tdiv (16 : Int))).toNat)) ++ ((([48, 49, 50, 51, 52, 53, 54, 55, 56, 57, 97, 98, 99, 100, 101, 102] : List UInt8).take (IntKind.wrap .u8 (((v1.getD x5.toNat default).tmod (16 : Int)) + (1 : Int))).toNat).drop ((v1.getD x5.toNat default).tmod (16 : Int)).toNat)) (IntKind.wrap .i64 (x5 + (1 : Int))), ?_, ((x4 ++ ((([48, 49, 50, 51, 52, 53, 54, 55, 56, 57, 97, 98, 99, 100, 101, 102] : List UInt8).take (IntKind.wrap .u8 ((IntKind.wrap .u8 ((v1.getD x5.toNat default).tdiv (16 : Int))) + (1 : Int))).toNat).drop (IntKind.wrap .u8 ((v1.getD x5.toNat default).tdiv (16 : Int))).toNat)) ++ ((([48, 49, 50, 51, 52, 53, 54, 55, 56, 57, 97, 98, 99, 100, 101, 102] : List UInt8).take (IntKind.wrap .u8 (((v1.getD x5.toNat default).tmod (16 : Int)) + (1 : Int))).toNat).drop ((v1.getD x5.toNat default).tmod (16 : Int)).toNat)), (IntKind.wrap .i64 (x5 + (1 : Int))), rfl, by omega, h⟩)
          simp only [F40_S1]
          (try simp -implicitDefEqProofs (maxSteps := 4000000) (disch := first | omega | decide | (simp only [go_sem]; omega)) only [go_sem, ↓reduceIte])
          first | exact leS_refl _ | (refine leS_le ?_ ?_ <;> first | exact leL_refl _ | exact leOs_refl _ | (simp only [List.append_assoc, List.cons_append, List.nil_append]; exact leOs_refl _) | (repeat (first | exact leL_refl _ | refine leL_cons (by first | exact leT_refl _ | exact leT_virt | exact leT_junk _ | exact leT_sl | exact leT_sln | exact leT_nil | (refine leT_agg (by repeat (first | exact leL_refl _ | refine leL_cons (by first | exact leT_refl _ | exact leT_sl | exact leT_sln | exact leT_nil) ?_)))) ?_)))
        · refine runX_condF rfl c6 ?_
          refine runX_exit ?_
          refine endX_seqE ?_
          refine endX_q (roundQ_exit ?_)
          refine endX_blkE ?_
          refine endX_seq ?_
          refine runX_seq ?_
          refine runX_regionC fun C hC => ?_
          try simp -implicitDefEqProofs (maxSteps := 4000000) (disch := first | omega | decide | (simp only [go_sem]; omega)) only [go_sem, ↓reduceIte]
          repeat (with_reducible refine And.intro (by first | assumption | omega | (simp; done) | (simp; omega)) ?_)
          refine toEnd hC ?_
          refine endX_seq ?_
          refine runX_ret ?_
          refine endX_q ?_
          obtain rfl := Option.some.inj h
          show RetW _ _ _ _ _
          simp only [RetW]
          (try simp -implicitDefEqProofs (maxSteps := 4000000) (disch := first | omega | decide | (simp only [go_sem]; omega)) only [go_sem, ↓reduceIte])
          (try simp (disch := omega) only [if_pos, Nat.sub_zero])
          exact leT_refl _
end Go.Proofs.YtaiapalhdejngaaX

set_option linter.unusedVariables false
set_option linter.unusedSimpArgs false
namespace Go.Proofs.YtaiapalhdejngaaX
open Go Go.RowKit Go.Proofs
set_option maxRecDepth 100000
attribute [local go_sem ↓] stepsK_build stepsK_build0 stepsK_bs stepsK_bs0 appendS
attribute [local go_sem] String.reduceEq String.reduceNe reduceCtorEq Int.reduceEq Nat.reduceAdd Nat.reduceSub Nat.reduceMul Nat.reduceLT Nat.reduceLeDiff Nat.reduceEqDiff Nat.reduceBEq Int.reduceToNat Int.reduceLT Int.reduceLE Int.reduceGT Int.reduceGE Int.reduceAdd Int.reduceSub Int.reduceMul Int.reduceNeg Int.reduceBEq Int.reduceBNe Int.reducePow Int.reduceDiv Int.reduceMod Int.reduceTDiv Int.reduceTMod Int.reduceNatCast
/-! ### shadowboxref37.Parts -/
def F20_S1 (a0 : List (List UInt8)) (x1 : Int) (x2 : List (Int)) : St := ⟨[.sl 1 false (List.map eS a0), .junk, .junk, .junk, .rsl 0 1 0 x2.length, .imm (.int .i64 x1), .junk, .junk, .junk, .junk, .junk, .junk, .junk, .junk, .junk, .junk, .junk, .junk, .junk, .junk, .junk, .junk, .junk, .junk, .junk, .junk, .junk, .junk, .junk, .junk, .junk, .junk, .junk, .junk, .junk, .junk, .junk, .junk, .junk, .junk, .junk, .junk], [some (.buf 5 1 (List.map byteT x2) 0)]⟩
def F20_L1 : Nat → (List (List UInt8)) → (Int) → (List (Int)) → Option ((List UInt8) × (Bool))
  | 0, _, _, _ => none
  | m1 + 1, a0, x1, x2 => iteB (decide (x1 < (a0.length : Int))) (grd (0 ≤ x1 ∧ x1 < (a0.length : Int)) ((F38 m1 (a0.getD x1.toNat default)).bind fun v5 => iteB (!v5.2) (some ([], false)) (grd ((x2.length + v5.1.length) ≤ 549755813888) (F20_L1 m1 a0 (IntKind.wrap .i64 (x1 + (1 : Int))) (x2 ++ v5.1))))) (iteB (decide ((a0.length : Int) < (1 : Int))) (some ([], false)) (iteB (decide ((10000 : Int) < (a0.length : Int))) (some ([], false)) ((F40 m1 x2).bind fun v10 => grd (v10.length + 1 ≤ 9223372036854775807) ((F22 m1 (a0.length : Int)).bind fun v12 => grd ((v10.length + 1) + v12.length ≤ 9223372036854775807) (some (((v10 ++ ([45] : List UInt8)) ++ v12), true))))))
def F20 (n : Nat) (a0 : List (List UInt8)) : Option ((List UInt8) × (Bool)) := F20_L1 n a0 (0 : Int) []
set_option maxHeartbeats 4000000 in
theorem F20_ok : ∀ (n : Nat) (a0 : List (List UInt8)) (r : (List UInt8) × (Bool)), F20 n a0 = some r → FnC Try.prog 20 [.sl 1 false (List.map eS a0)] (.tup [.imm (.string (bs r.1)), .imm (.bool r.2)])
  | n, a0, r, h => by
    unfold F20 at h
    refine FnC.goX mixed Try.func20 (by kernel_rfl) rfl ?_
    simp only [Try.ntmps20, List.length_cons, List.length_nil, List.replicate, List.cons_append, List.nil_append, Nat.reduceAdd, Nat.reduceSub]
    refine runX_seq ?_
    refine runX_regionC fun C hC => ?_
    try simp -implicitDefEqProofs (maxSteps := 4000000) (disch := first | omega | decide | (simp only [go_sem]; omega)) only [go_sem, ↓reduceIte]
    repeat (with_reducible refine And.intro (by first | assumption | omega | (simp; done) | (simp; omega)) ?_)
    refine toEnd hC ?_
    refine endX_seq ?_
    refine runX_seq ?_
    refine runX_regionC fun C hC => ?_
    try simp -implicitDefEqProofs (maxSteps := 4000000) (disch := first | omega | decide | (simp only [go_sem]; omega)) only [go_sem, ↓reduceIte]
    repeat (with_reducible refine And.intro (by first | assumption | omega | (simp; done) | (simp; omega)) ?_)
    refine toEnd hC ?_
    refine endX_seq ?_
    refine runX_seq ?_
    refine runX_seq ?_
    refine runX_regionC fun C hC => ?_
    try simp -implicitDefEqProofs (maxSteps := 4000000) (disch := first | omega | decide | (simp only [go_sem]; omega)) only [go_sem, ↓reduceIte]
    repeat (with_reducible refine And.intro (by first | assumption | omega | (simp; done) | (simp; omega)) ?_)
    refine toEnd hC ?_
    refine endX_seq ?_
    refine runX_block ?_
    refine runX_loop [0, 4, 5] (fun m S => ∃ (x1 : Int) (x2 : List (Int)), S = F20_S1 a0 x1 x2 ∧ m ≤ n ∧ F20_L1 m a0 x1 x2 = some r) n ⟨F20_S1 a0 (0 : Int) [], ?_, (0 : Int), [], rfl, Nat.le_refl _, h⟩ ?_
    · (try simp -implicitDefEqProofs (maxSteps := 4000000) (disch := first | omega | decide | (simp only [go_sem]; omega)) only [go_sem, ↓reduceIte])
      simp only [F20_S1]
      refine leS_trans (leS_pad _ _ 1) ?_
      simp only [List.replicate, List.cons_append, List.nil_append]
      refine leS_virt 0 5 1 rfl ?_ ?_ rfl
      · repeat (first | exact leL_refl _ | refine leL_cons (by first | exact leT_refl _ | exact leT_virt | exact leT_junk _ | exact leT_sl | exact leT_sln | exact leT_nil | (refine leT_agg (by repeat (first | exact leL_refl _ | refine leL_cons (by first | exact leT_refl _ | exact leT_sl | exact leT_sln | exact leT_nil) ?_)))) ?_)
      · repeat (first | exact leOs_refl _ | refine leOs.cons (by first | exact leO.same _ | (refine leO.box (leT_agg (by repeat (first | exact leL_refl _ | refine leL_cons (by first | exact leT_refl _ | exact leT_virt | exact leT_junk _ | exact leT_sl | exact leT_sln | exact leT_nil | (refine leT_agg (by repeat (first | exact leL_refl _ | refine leL_cons (by first | exact leT_refl _ | exact leT_sl | exact leT_sln | exact leT_nil) ?_)))) ?_))) rfl) | (refine leO.box (by first | exact leT_virt | exact leT_sl | exact leT_sln) rfl)) ?_)
    · clear h
      rintro m1 S ⟨x1, x2, rfl, hm1, h⟩
      cases m1 with
      | zero => first | cases (show (none : Option _) = some _ from h) | (rw [F20_L1] at h; cases h)
      | succ m1 =>
        rw [F20_L1] at h
        simp only [F20_S1]
        refine runX_seq ?_
        refine runX_seq ?_
        refine runX_regionC fun C hC => ?_
        try simp -implicitDefEqProofs (maxSteps := 4000000) (disch := first | omega | decide | (simp only [go_sem]; omega)) only [go_sem, ↓reduceIte]
        repeat (with_reducible refine And.intro (by first | assumption | omega | (simp; done) | (simp; omega)) ?_)
        refine toEnd hC ?_
        refine endX_seq ?_
        rcases iteB_some h with ⟨c3, h⟩ | ⟨c3, h⟩
        · refine runX_condT rfl c3 ?_
          refine runX_skip ?_
          refine endX_seq ?_
          refine runX_seq ?_
          refine runX_block ?_
          refine runX_seq ?_
          refine runX_regionC fun C hC => ?_
          obtain ⟨g4, h⟩ := grd_some h
          obtain ⟨v5, h5, h⟩ := bnd_some h
          try simp -implicitDefEqProofs (maxSteps := 4000000) (disch := first | omega | decide | (simp only [go_sem]; omega)) only [go_sem, ↓reduceIte]
          repeat (with_reducible refine And.intro (by first | assumption | omega | (simp; done) | (simp; omega)) ?_)
          refine callG_X (by first | rfl | (simp only [go_sem]; done) | (simp only [closedL, closedT, Bool.and_true]; exact closedL_map _ (fun _ => by first | rfl | (simp only [go_sem]; done)) _)) (F38_ok m1 (a0.getD x1.toNat default) _ h5) (by repeat (first | exact leL_refl _ | refine leL_cons (by first | exact leT_refl _ | exact leT_virt | exact leT_junk _ | exact leT_sl | exact leT_sln | exact leT_nil | (refine leT_agg (by repeat (first | exact leL_refl _ | refine leL_cons (by first | exact leT_refl _ | exact leT_sl | exact leT_sln | exact leT_nil) ?_)))) ?_)) ?_
          try simp -implicitDefEqProofs (maxSteps := 4000000) (disch := first | omega | decide | (simp only [go_sem]; omega)) only [go_sem, ↓reduceIte]
          repeat (with_reducible refine And.intro (by first | assumption | omega | (simp; done) | (simp; omega)) ?_)
          refine toEnd hC ?_
          refine endX_seq ?_
          refine runX_seq ?_
          refine runX_seq ?_
          refine runX_regionC fun C hC => ?_
          try simp -implicitDefEqProofs (maxSteps := 4000000) (disch := first | omega | decide | (simp only [go_sem]; omega)) only [go_sem, ↓reduceIte]
          repeat (with_reducible refine And.intro (by first | assumption | omega | (simp; done) | (simp; omega)) ?_)
          refine toEnd hC ?_
          refine endX_seq ?_
          rcases iteB_some h with ⟨c6, h⟩ | ⟨c6, h⟩
          · refine runX_condT rfl c6 ?_
            refine runX_seq ?_
            refine runX_regionC fun C hC => ?_
            try simp -implicitDefEqProofs (maxSteps := 4000000) (disch := first | omega | decide | (simp only [go_sem]; omega)) only [go_sem, ↓reduceIte]
            repeat (with_reducible refine And.intro (by first | assumption | omega | (simp; done) | (simp; omega)) ?_)
            refine toEnd hC ?_
            refine endX_seq ?_
            refine runX_ret ?_
            refine endX_seqR ?_
            refine endX_blkR ?_
            refine endX_seqR ?_
            refine endX_q (roundQ_ret ?_)
            refine endX_blkR ?_
            refine endX_seqR ?_
            refine endX_q ?_
            obtain rfl := Option.some.inj h
            show RetW _ _ _ _ _
            simp only [RetW]
            (try simp -implicitDefEqProofs (maxSteps := 4000000) (disch := first | omega | decide | (simp only [go_sem]; omega)) only [go_sem, ↓reduceIte])
            (try simp (disch := omega) only [if_pos, Nat.sub_zero])
            exact leT_refl _
          · refine runX_condF rfl c6 ?_
            refine runX_skip ?_
            refine endX_seq ?_
            refine runX_regionC fun C hC => ?_
            obtain ⟨g7, h⟩ := grd_some h
            try simp -implicitDefEqProofs (maxSteps := 4000000) (disch := first | omega | decide | (simp only [go_sem]; omega)) only [go_sem, ↓reduceIte]
            repeat (with_reducible refine And.intro (by first | assumption | omega | (simp; done) | (simp; omega)) ?_)
            refine toEnd hC ?_
            refine endX_blk ?_
            refine endX_seq ?_
            refine runX_regionC fun C hC => ?_
            try simp -implicitDefEqProofs (maxSteps := 4000000) (disch := first | omega | decide | (simp only [go_sem]; omega)) only [go_sem, ↓reduceIte]
            repeat (with_reducible refine And.intro (by first | assumption | omega | (simp; done) | (simp; omega)) ?_)
            refine toEnd hC ?_
            refine endX_q (roundQ_normal ⟨m1, by omega, F20_S1 a0 (IntKind.wrap .i64 (x1 + (1 : Int))) (x2 ++ v5.1), ?_, (IntKind.wrap .i64 (x1 + (1 : Int))), (x2 ++ v5.1), rfl, by omega, h⟩)
            simp only [F20_S1]
            (try simp -implicitDefEqProofs (maxSteps := 4000000) (disch := first | omega | decide | (simp only [go_sem]; omega)) only [go_sem, ↓reduceIte])
            first | exact leS_refl _ | (refine leS_le ?_ ?_ <;> first | exact leL_refl _ | exact leOs_refl _ | (simp only [List.append_assoc, List.cons_append, List.nil_append]; exact leOs_refl _) | (repeat (first | exact leL_refl _ | refine leL_cons (by first | exact leT_refl _ | exact leT_virt | exact leT_junk _ | exact leT_sl | exact leT_sln | exact leT_nil | (refine leT_agg (by repeat (first | exact leL_refl _ | refine leL_cons (by first | exact leT_refl _ | exact leT_sl | exact leT_sln | exact leT_nil) ?_)))) ?_)))
        · refine runX_condF rfl c3 ?_
          refine runX_exit ?_
          refine endX_seqE ?_
          refine endX_q (roundQ_exit ?_)
          refine endX_blkE ?_
          refine endX_seq ?_
          refine runX_seq ?_
          refine runX_seq ?_
          refine runX_regionC fun C hC => ?_
          try simp -implicitDefEqProofs (maxSteps := 4000000) (disch := first | omega | decide | (simp only [go_sem]; omega)) only [go_sem, ↓reduceIte]
          repeat (with_reducible refine And.intro (by first | assumption | omega | (simp; done) | (simp; omega)) ?_)
          rcases iteB_some h with ⟨c8, h⟩ | ⟨c8, h⟩
          · refine guardK_F c8 ?_
            try simp -implicitDefEqProofs (maxSteps := 4000000) (disch := first | omega | decide | (simp only [go_sem]; omega)) only [go_sem, ↓reduceIte]
            repeat (with_reducible refine And.intro (by first | assumption | omega | (simp; done) | (simp; omega)) ?_)
            refine toEnd hC ?_
            refine endX_seq ?_
            refine runX_condT rfl rfl ?_
            refine runX_seq ?_
            refine runX_regionC fun C hC => ?_
            try simp -implicitDefEqProofs (maxSteps := 4000000) (disch := first | omega | decide | (simp only [go_sem]; omega)) only [go_sem, ↓reduceIte]
            repeat (with_reducible refine And.intro (by first | assumption | omega | (simp; done) | (simp; omega)) ?_)
            refine toEnd hC ?_
            refine endX_seq ?_
            refine runX_ret ?_
            refine endX_seqR ?_
            refine endX_q ?_
            obtain rfl := Option.some.inj h
            show RetW _ _ _ _ _
            simp only [RetW]
            (try simp -implicitDefEqProofs (maxSteps := 4000000) (disch := first | omega | decide | (simp only [go_sem]; omega)) only [go_sem, ↓reduceIte])
            (try simp (disch := omega) only [if_pos, Nat.sub_zero])
            exact leT_refl _
          · refine guardK_T c8 ?_
            try simp -implicitDefEqProofs (maxSteps := 4000000) (disch := first | omega | decide | (simp only [go_sem]; omega)) only [go_sem, ↓reduceIte]
            repeat (with_reducible refine And.intro (by first | assumption | omega | (simp; done) | (simp; omega)) ?_)
            refine toEnd hC ?_
            refine endX_seq ?_
            rcases iteB_some h with ⟨c9, h⟩ | ⟨c9, h⟩
            · refine runX_condT rfl c9 ?_
              refine runX_seq ?_
              refine runX_regionC fun C hC => ?_
              try simp -implicitDefEqProofs (maxSteps := 4000000) (disch := first | omega | decide | (simp only [go_sem]; omega)) only [go_sem, ↓reduceIte]
              repeat (with_reducible refine And.intro (by first | assumption | omega | (simp; done) | (simp; omega)) ?_)
              refine toEnd hC ?_
              refine endX_seq ?_
              refine runX_ret ?_
              refine endX_seqR ?_
              refine endX_q ?_
              obtain rfl := Option.some.inj h
              show RetW _ _ _ _ _
              simp only [RetW]
              (try simp -implicitDefEqProofs (maxSteps := 4000000) (disch := first | omega | decide | (simp only [go_sem]; omega)) only [go_sem, ↓reduceIte])
              (try simp (disch := omega) only [if_pos, Nat.sub_zero])
              exact leT_refl _
            · refine runX_condF rfl c9 ?_
              refine runX_skip ?_
              refine endX_seq ?_
              refine runX_seq ?_
              refine runX_regionC fun C hC => ?_
              obtain ⟨v10, h10, h⟩ := bnd_some h
              try simp -implicitDefEqProofs (maxSteps := 4000000) (disch := first | omega | decide | (simp only [go_sem]; omega)) only [go_sem, ↓reduceIte]
              repeat (with_reducible refine And.intro (by first | assumption | omega | (simp; done) | (simp; omega)) ?_)
              refine callG_X (by first | rfl | (simp only [go_sem]; done) | (simp only [closedL, closedT, Bool.and_true]; exact closedL_map _ (fun _ => by first | rfl | (simp only [go_sem]; done)) _)) (F40_ok m1 x2 _ h10) (by repeat (first | exact leL_refl _ | refine leL_cons (by first | exact leT_refl _ | exact leT_virt | exact leT_junk _ | exact leT_sl | exact leT_sln | exact leT_nil | (refine leT_agg (by repeat (first | exact leL_refl _ | refine leL_cons (by first | exact leT_refl _ | exact leT_sl | exact leT_sln | exact leT_nil) ?_)))) ?_)) ?_
              obtain ⟨g11, h⟩ := grd_some h
              obtain ⟨v12, h12, h⟩ := bnd_some h
              try simp -implicitDefEqProofs (maxSteps := 4000000) (disch := first | omega | decide | (simp only [go_sem]; omega)) only [go_sem, ↓reduceIte]
              repeat (with_reducible refine And.intro (by first | assumption | omega | (simp; done) | (simp; omega)) ?_)
              refine callG_X (by first | rfl | (simp only [go_sem]; done) | (simp only [closedL, closedT, Bool.and_true]; exact closedL_map _ (fun _ => by first | rfl | (simp only [go_sem]; done)) _)) (F22_ok m1 (a0.length : Int) _ h12) (by repeat (first | exact leL_refl _ | refine leL_cons (by first | exact leT_refl _ | exact leT_virt | exact leT_junk _ | exact leT_sl | exact leT_sln | exact leT_nil | (refine leT_agg (by repeat (first | exact leL_refl _ | refine leL_cons (by first | exact leT_refl _ | exact leT_sl | exact leT_sln | exact leT_nil) ?_)))) ?_)) ?_
              obtain ⟨g13, h⟩ := grd_some h
              try simp -implicitDefEqProofs (maxSteps := 4000000) (disch := first | omega | decide | (simp only [go_sem]; omega)) only [go_sem, ↓reduceIte]
              repeat (with_reducible refine And.intro (by first | assumption | omega | (simp; done) | (simp; omega)) ?_)
              refine toEnd hC ?_
              refine endX_seq ?_
              refine runX_ret ?_
              refine endX_q ?_
              obtain rfl := Option.some.inj h
              show RetW _ _ _ _ _
              simp only [RetW]
              (try simp -implicitDefEqProofs (maxSteps := 4000000) (disch := first | omega | decide | (simp only [go_sem]; omega)) only [go_sem, ↓reduceIte])
              (try simp (disch := omega) only [if_pos, Nat.sub_zero])
              exact leT_refl _
end Go.Proofs.YtaiapalhdejngaaX

set_option linter.unusedVariables false
set_option linter.unusedSimpArgs false
namespace Go.Proofs.YtaiapalhdejngaaX
open Go Go.RowKit Go.Proofs
set_option maxRecDepth 100000
attribute [local go_sem ↓] stepsK_build stepsK_build0 stepsK_bs stepsK_bs0 appendS
attribute [local go_sem] String.reduceEq String.reduceNe reduceCtorEq Int.reduceEq Nat.reduceAdd Nat.reduceSub Nat.reduceMul Nat.reduceLT Nat.reduceLeDiff Nat.reduceEqDiff Nat.reduceBEq Int.reduceToNat Int.reduceLT Int.reduceLE Int.reduceGT Int.reduceGE Int.reduceAdd Int.reduceSub Int.reduceMul Int.reduceNeg Int.reduceBEq Int.reduceBNe Int.reducePow Int.reduceDiv Int.reduceMod Int.reduceTDiv Int.reduceTMod Int.reduceNatCast
/-! ### shadowboxlaw37.EtagParts -/
def F5_S1 (a0 : List (List UInt8)) (x2 : Int) : St := ⟨[.sl 1 false (List.map eS a0), .junk, .junk, .imm (.int .i64 x2), .junk, .junk, .junk, .junk, .junk, .junk, .junk, .junk, .junk, .junk, .junk, .junk, .junk, .junk, .junk, .junk, .junk, .junk, .junk, .junk, .junk, .junk, .junk, .junk, .junk, .junk, .junk, .junk, .junk, .junk, .junk, .junk, .junk, .junk, .junk, .junk, .junk, .junk, .junk, .junk, .junk, .junk, .junk, .junk, .junk, .junk, .junk], []⟩
def F5_L1 : Nat → (List (List UInt8)) → (Int) → Option (Bool)
  | 0, _, _ => none
  | m1 + 1, a0, x2 => iteB (decide (x2 < (a0.length : Int))) (grd (0 ≤ x2 ∧ x2 < (a0.length : Int)) (iteB (decide ((100 : Int) < ((a0.getD x2.toNat default).length : Int))) (some true) (F5_L1 m1 a0 (IntKind.wrap .i64 (x2 + (1 : Int)))))) ((F19 m1 a0).bind fun v6 => (F20 m1 a0).bind fun v7 => (F19 m1 ([(57 :: 48 :: 48 :: 49 :: 53 :: 48 :: 57 :: 56 :: 51 :: 99 :: 100 :: 50 :: 52 :: 102 :: 98 :: 48 :: 100 :: 54 :: 57 :: 54 :: 51 :: 102 :: 55 :: 100 :: 50 :: 56 :: 101 :: 49 :: 55 :: 102 :: 55 :: 50 :: ([] : List UInt8))])).bind fun v8 => iteB (v6.1 == v7.1) (iteB (v6.2 == v7.2) (some v8.2) (some false)) (some false))
def F5 (n : Nat) (a0 : List (List UInt8)) : Option (Bool) := iteB (decide ((60 : Int) < (a0.length : Int))) (some true) (F5_L1 n a0 (0 : Int))
set_option maxHeartbeats 4000000 in
theorem F5_ok : ∀ (n : Nat) (a0 : List (List UInt8)) (r : Bool), F5 n a0 = some r → FnC Try.prog 5 [.sl 1 false (List.map eS a0)] (.imm (.bool r))
  | n, a0, r, h => by
    unfold F5 at h
    refine FnC.goX mixed Try.func5 (by kernel_rfl) rfl ?_
    simp only [Try.ntmps5, List.length_cons, List.length_nil, List.replicate, List.cons_append, List.nil_append, Nat.reduceAdd, Nat.reduceSub]
    refine runX_seq ?_
    refine runX_regionC fun C hC => ?_
    try simp -implicitDefEqProofs (maxSteps := 4000000) (disch := first | omega | decide | (simp only [go_sem]; omega)) only [go_sem, ↓reduceIte]
    repeat (with_reducible refine And.intro (by first | assumption | omega | (simp; done) | (simp; omega)) ?_)
    refine toEnd hC ?_
    refine endX_seq ?_
    refine runX_seq ?_
    refine runX_seq ?_
    refine runX_regionC fun C hC => ?_
    try simp -implicitDefEqProofs (maxSteps := 4000000) (disch := first | omega | decide | (simp only [go_sem]; omega)) only [go_sem, ↓reduceIte]
    repeat (with_reducible refine And.intro (by first | assumption | omega | (simp; done) | (simp; omega)) ?_)
    refine toEnd hC ?_
    refine endX_seq ?_
    rcases iteB_some h with ⟨c1, h⟩ | ⟨c1, h⟩
    · refine runX_condT rfl c1 ?_
      refine runX_seq ?_
      refine runX_regionC fun C hC => ?_
      try simp -implicitDefEqProofs (maxSteps := 4000000) (disch := first | omega | decide | (simp only [go_sem]; omega)) only [go_sem, ↓reduceIte]
      repeat (with_reducible refine And.intro (by first | assumption | omega | (simp; done) | (simp; omega)) ?_)
      refine toEnd hC ?_
      refine endX_seq ?_
      refine runX_ret ?_
      refine endX_seqR ?_
      refine endX_q ?_
      obtain rfl := Option.some.inj h
      show RetW _ _ _ _ _
      simp only [RetW]
      (try simp -implicitDefEqProofs (maxSteps := 4000000) (disch := first | omega | decide | (simp only [go_sem]; omega)) only [go_sem, ↓reduceIte])
      (try simp (disch := omega) only [if_pos, Nat.sub_zero])
      exact leT_refl _
    · refine runX_condF rfl c1 ?_
      refine runX_skip ?_
      refine endX_seq ?_
      refine runX_seq ?_
      refine runX_seq ?_
      refine runX_regionC fun C hC => ?_
      try simp -implicitDefEqProofs (maxSteps := 4000000) (disch := first | omega | decide | (simp only [go_sem]; omega)) only [go_sem, ↓reduceIte]
      repeat (with_reducible refine And.intro (by first | assumption | omega | (simp; done) | (simp; omega)) ?_)
      refine toEnd hC ?_
      refine endX_seq ?_
      refine runX_block ?_
      refine runX_loop [0, 3] (fun m S => ∃ (x2 : Int), S = F5_S1 a0 x2 ∧ m ≤ n ∧ F5_L1 m a0 x2 = some r) n ⟨F5_S1 a0 (0 : Int), ?_, (0 : Int), rfl, Nat.le_refl _, h⟩ ?_
      · simp only [F5_S1]
        (try simp -implicitDefEqProofs (maxSteps := 4000000) (disch := first | omega | decide | (simp only [go_sem]; omega)) only [go_sem, ↓reduceIte])
        first | exact leS_refl _ | (refine leS_le ?_ ?_ <;> first | exact leL_refl _ | exact leOs_refl _ | (simp only [List.append_assoc, List.cons_append, List.nil_append]; exact leOs_refl _) | (repeat (first | exact leL_refl _ | refine leL_cons (by first | exact leT_refl _ | exact leT_virt | exact leT_junk _ | exact leT_sl | exact leT_sln | exact leT_nil | (refine leT_agg (by repeat (first | exact leL_refl _ | refine leL_cons (by first | exact leT_refl _ | exact leT_sl | exact leT_sln | exact leT_nil) ?_)))) ?_)))
      · clear h
        rintro m1 S ⟨x2, rfl, hm1, h⟩
        cases m1 with
        | zero => first | cases (show (none : Option _) = some _ from h) | (rw [F5_L1] at h; cases h)
        | succ m1 =>
          rw [F5_L1] at h
          simp only [F5_S1]
          refine runX_seq ?_
          refine runX_seq ?_
          refine runX_regionC fun C hC => ?_
          try simp -implicitDefEqProofs (maxSteps := 4000000) (disch := first | omega | decide | (simp only [go_sem]; omega)) only [go_sem, ↓reduceIte]
          repeat (with_reducible refine And.intro (by first | assumption | omega | (simp; done) | (simp; omega)) ?_)
          refine toEnd hC ?_
          refine endX_seq ?_
          rcases iteB_some h with ⟨c3, h⟩ | ⟨c3, h⟩
          · refine runX_condT rfl c3 ?_
            refine runX_skip ?_
            refine endX_seq ?_
            refine runX_seq ?_
            refine runX_block ?_
            refine runX_seq ?_
            refine runX_regionC fun C hC => ?_
            obtain ⟨g4, h⟩ := grd_some h
            try simp -implicitDefEqProofs (maxSteps := 4000000) (disch := first | omega | decide | (simp only [go_sem]; omega)) only [go_sem, ↓reduceIte]
            repeat (with_reducible refine And.intro (by first | assumption | omega | (simp; done) | (simp; omega)) ?_)
            refine toEnd hC ?_
            refine endX_seq ?_
            rcases iteB_some h with ⟨c5, h⟩ | ⟨c5, h⟩
            · refine runX_condT rfl c5 ?_
              refine runX_seq ?_
              refine runX_regionC fun C hC => ?_
              try simp -implicitDefEqProofs (maxSteps := 4000000) (disch := first | omega | decide | (simp only [go_sem]; omega)) only [go_sem, ↓reduceIte]
              repeat (with_reducible refine And.intro (by first | assumption | omega | (simp; done) | (simp; omega)) ?_)
              refine toEnd hC ?_
              refine endX_seq ?_
              refine runX_ret ?_
              refine endX_blkR ?_
              refine endX_seqR ?_
              refine endX_q (roundQ_ret ?_)
              refine endX_blkR ?_
              refine endX_seqR ?_
              refine endX_q ?_
              obtain rfl := Option.some.inj h
              show RetW _ _ _ _ _
              simp only [RetW]
              (try simp -implicitDefEqProofs (maxSteps := 4000000) (disch := first | omega | decide | (simp only [go_sem]; omega)) only [go_sem, ↓reduceIte])
              (try simp (disch := omega) only [if_pos, Nat.sub_zero])
              exact leT_refl _
            · refine runX_condF rfl c5 ?_
              refine runX_skip ?_
              refine endX_blk ?_
              refine endX_seq ?_
              refine runX_regionC fun C hC => ?_
              try simp -implicitDefEqProofs (maxSteps := 4000000) (disch := first | omega | decide | (simp only [go_sem]; omega)) only [go_sem, ↓reduceIte]
              repeat (with_reducible refine And.intro (by first | assumption | omega | (simp; done) | (simp; omega)) ?_)
              refine toEnd hC ?_
              refine endX_q (roundQ_normal ⟨m1, by omega, F5_S1 a0 (IntKind.wrap .i64 (x2 + (1 : Int))), ?_, (IntKind.wrap .i64 (x2 + (1 : Int))), rfl, by omega, h⟩)
              simp only [F5_S1]
              (try simp -implicitDefEqProofs (maxSteps := 4000000) (disch := first | omega | decide | (simp only [go_sem]; omega)) only [go_sem, ↓reduceIte])
              first | exact leS_refl _ | (refine leS_le ?_ ?_ <;> first | exact leL_refl _ | exact leOs_refl _ | (simp only [List.append_assoc, List.cons_append, List.nil_append]; exact leOs_refl _) | (repeat (first | exact leL_refl _ | refine leL_cons (by first | exact leT_refl _ | exact leT_virt | exact leT_junk _ | exact leT_sl | exact leT_sln | exact leT_nil | (refine leT_agg (by repeat (first | exact leL_refl _ | refine leL_cons (by first | exact leT_refl _ | exact leT_sl | exact leT_sln | exact leT_nil) ?_)))) ?_)))
          · refine runX_condF rfl c3 ?_
            refine runX_exit ?_
            refine endX_seqE ?_
            refine endX_q (roundQ_exit ?_)
            refine endX_blkE ?_
            refine endX_seq ?_
            refine runX_seq ?_
            refine runX_regionC fun C hC => ?_
            obtain ⟨v6, h6, h⟩ := bnd_some h
            try simp -implicitDefEqProofs (maxSteps := 4000000) (disch := first | omega | decide | (simp only [go_sem]; omega)) only [go_sem, ↓reduceIte]
            repeat (with_reducible refine And.intro (by first | assumption | omega | (simp; done) | (simp; omega)) ?_)
            refine callG_X (by first | rfl | (simp only [go_sem]; done) | (simp only [closedL, closedT, Bool.and_true]; exact closedL_map _ (fun _ => by first | rfl | (simp only [go_sem]; done)) _)) (F19_ok m1 a0 _ h6) (by repeat (first | exact leL_refl _ | refine leL_cons (by first | exact leT_refl _ | exact leT_virt | exact leT_junk _ | exact leT_sl | exact leT_sln | exact leT_nil | (refine leT_agg (by repeat (first | exact leL_refl _ | refine leL_cons (by first | exact leT_refl _ | exact leT_sl | exact leT_sln | exact leT_nil) ?_)))) ?_)) ?_
            try simp -implicitDefEqProofs (maxSteps := 4000000) (disch := first | omega | decide | (simp only [go_sem]; omega)) only [go_sem, ↓reduceIte]
            repeat (with_reducible refine And.intro (by first | assumption | omega | (simp; done) | (simp; omega)) ?_)
            refine toEnd hC ?_
            refine endX_seq ?_
            refine runX_seq ?_
            refine runX_regionC fun C hC => ?_
            obtain ⟨v7, h7, h⟩ := bnd_some h
            try simp -implicitDefEqProofs (maxSteps := 4000000) (disch := first | omega | decide | (simp only [go_sem]; omega)) only [go_sem, ↓reduceIte]
            repeat (with_reducible refine And.intro (by first | assumption | omega | (simp; done) | (simp; omega)) ?_)
            refine callG_X (by first | rfl | (simp only [go_sem]; done) | (simp only [closedL, closedT, Bool.and_true]; exact closedL_map _ (fun _ => by first | rfl | (simp only [go_sem]; done)) _)) (F20_ok m1 a0 _ h7) (by repeat (first | exact leL_refl _ | refine leL_cons (by first | exact leT_refl _ | exact leT_virt | exact leT_junk _ | exact leT_sl | exact leT_sln | exact leT_nil | (refine leT_agg (by repeat (first | exact leL_refl _ | refine leL_cons (by first | exact leT_refl _ | exact leT_sl | exact leT_sln | exact leT_nil) ?_)))) ?_)) ?_
            try simp -implicitDefEqProofs (maxSteps := 4000000) (disch := first | omega | decide | (simp only [go_sem]; omega)) only [go_sem, ↓reduceIte]
            repeat (with_reducible refine And.intro (by first | assumption | omega | (simp; done) | (simp; omega)) ?_)
            refine toEnd hC ?_
            refine endX_seq ?_
            refine runX_seq ?_
            refine runX_regionC fun C hC => ?_
            simp only [runK_region, runK_draw, liteL, liteL2, dstsL, gL, List.getD_cons_zero, List.getD_cons_succ]
            try simp -implicitDefEqProofs (maxSteps := 4000000) (disch := first | omega | decide | (simp only [go_sem]; omega)) only [go_sem, ↓reduceIte]
            repeat (with_reducible refine And.intro (by first | assumption | omega | (simp; done) | (simp; omega)) ?_)
            refine bs_go <| buildX_val ?_
            obtain ⟨v8, h8, h⟩ := bnd_some h
            try simp -implicitDefEqProofs (maxSteps := 4000000) (disch := first | omega | decide | (simp only [go_sem]; omega)) only [go_sem, ↓reduceIte]
            repeat (with_reducible refine And.intro (by first | assumption | omega | (simp; done) | (simp; omega)) ?_)
            refine callG_X (by first | rfl | (simp only [go_sem]; done) | (simp only [closedL, closedT, Bool.and_true]; exact closedL_map _ (fun _ => by first | rfl | (simp only [go_sem]; done)) _)) (F19_ok m1 ([(57 :: 48 :: 48 :: 49 :: 53 :: 48 :: 57 :: 56 :: 51 :: 99 :: 100 :: 50 :: 52 :: 102 :: 98 :: 48 :: 100 :: 54 :: 57 :: 54 :: 51 :: 102 :: 55 :: 100 :: 50 :: 56 :: 101 :: 49 :: 55 :: 102 :: 55 :: 50 :: ([] : List UInt8))]) _ h8) (by repeat (first | exact leL_refl _ | refine leL_cons (by first | exact leT_refl _ | exact leT_sl | exact leT_sln | (refine leT_slX (by repeat (first | exact leE_refl _ | refine leE_cons (by first | exact leT_refl _ | exact leT_sl | (refine leT_agg (by repeat (first | exact leL_refl _ | refine leL_cons (by first | exact leT_refl _ | exact leT_sl | exact leT_sln) ?_)))) ?_)) rfl) | (refine leT_agg (by repeat (first | exact leL_refl _ | refine leL_cons (by first | exact leT_refl _ | exact leT_sl | exact leT_sln | (refine leT_slX (by repeat (first | exact leE_refl _ | refine leE_cons (by first | exact leT_refl _ | exact leT_sl | (refine leT_agg (by repeat (first | exact leL_refl _ | refine leL_cons (by first | exact leT_refl _ | exact leT_sl | exact leT_sln) ?_)))) ?_)) rfl)) ?_)))) ?_)) ?_
            try simp -implicitDefEqProofs (maxSteps := 4000000) (disch := first | omega | decide | (simp only [go_sem]; omega)) only [go_sem, ↓reduceIte]
            repeat (with_reducible refine And.intro (by first | assumption | omega | (simp; done) | (simp; omega)) ?_)
            refine toEnd hC ?_
            refine endX_seq ?_
            refine runX_seq ?_
            refine runX_regionC fun C hC => ?_
            try simp -implicitDefEqProofs (maxSteps := 4000000) (disch := first | omega | decide | (simp only [go_sem]; omega)) only [go_sem, ↓reduceIte]
            repeat (with_reducible refine And.intro (by first | assumption | omega | (simp; done) | (simp; omega)) ?_)
            rcases iteB_some h with ⟨c9, h⟩ | ⟨c9, h⟩
            · refine guardK_T c9 ?_
              try simp -implicitDefEqProofs (maxSteps := 4000000) (disch := first | omega | decide | (simp only [go_sem]; omega)) only [go_sem, ↓reduceIte]
              repeat (with_reducible refine And.intro (by first | assumption | omega | (simp; done) | (simp; omega)) ?_)
              rcases iteB_some h with ⟨c10, h⟩ | ⟨c10, h⟩
              · refine guardK_T c10 ?_
                try simp -implicitDefEqProofs (maxSteps := 4000000) (disch := first | omega | decide | (simp only [go_sem]; omega)) only [go_sem, ↓reduceIte]
                repeat (with_reducible refine And.intro (by first | assumption | omega | (simp; done) | (simp; omega)) ?_)
                refine toEnd hC ?_
                refine endX_seq ?_
                refine runX_ret ?_
                refine endX_q ?_
                obtain rfl := Option.some.inj h
                show RetW _ _ _ _ _
                simp only [RetW]
                (try simp -implicitDefEqProofs (maxSteps := 4000000) (disch := first | omega | decide | (simp only [go_sem]; omega)) only [go_sem, ↓reduceIte])
                (try simp (disch := omega) only [if_pos, Nat.sub_zero])
                exact leT_refl _
              · refine guardK_F c10 ?_
                try simp -implicitDefEqProofs (maxSteps := 4000000) (disch := first | omega | decide | (simp only [go_sem]; omega)) only [go_sem, ↓reduceIte]
                repeat (with_reducible refine And.intro (by first | assumption | omega | (simp; done) | (simp; omega)) ?_)
                refine toEnd hC ?_
                refine endX_seq ?_
                refine runX_ret ?_
                refine endX_q ?_
                obtain rfl := Option.some.inj h
                show RetW _ _ _ _ _
                simp only [RetW]
                (try simp -implicitDefEqProofs (maxSteps := 4000000) (disch := first | omega | decide | (simp only [go_sem]; omega)) only [go_sem, ↓reduceIte])
                (try simp (disch := omega) only [if_pos, Nat.sub_zero])
                exact leT_refl _
            · refine guardK_F c9 ?_
              try simp -implicitDefEqProofs (maxSteps := 4000000) (disch := first | omega | decide | (simp only [go_sem]; omega)) only [go_sem, ↓reduceIte]
              repeat (with_reducible refine And.intro (by first | assumption | omega | (simp; done) | (simp; omega)) ?_)
              refine toEnd hC ?_
              refine endX_seq ?_
              refine runX_ret ?_
              refine endX_q ?_
              obtain rfl := Option.some.inj h
              show RetW _ _ _ _ _
              simp only [RetW]
              (try simp -implicitDefEqProofs (maxSteps := 4000000) (disch := first | omega | decide | (simp only [go_sem]; omega)) only [go_sem, ↓reduceIte])
              (try simp (disch := omega) only [if_pos, Nat.sub_zero])
              exact leT_refl _
end Go.Proofs.YtaiapalhdejngaaX

/- Shapes of arguments, as plain values. Of no program. -/
set_option linter.unusedVariables false
namespace Go.Proofs.YtaiapalhdejngaaX
open Go Go.RowKit
theorem RepR.le {E : Env} {sz : Nat} : ∀ {l l' : List T} {c : List Value}, l.length = l'.length → (∀ i, leT anyE (l.getD i .junk) (l'.getD i .junk)) → RepR E sz l c → RepR E sz l' c
  | [], [], c, _, _, h => h
  | x :: l, y :: l', c, hl, hi, h => by
    simp only [RepR] at h ⊢
    obtain ⟨u, c', h1, h2, h3, h4⟩ := h
    exact ⟨u, c', h1, h2, by simpa using hi 0 E true u trivial (by simpa using h3), RepR.le (by simpa using hl) (fun i => by simpa using hi (i + 1)) h4⟩
  | [], _ :: _, c, hl, _, _ => by simp at hl
  | _ :: _, [], c, hl, _, _ => by simp at hl
theorem leT_slE {sz : Nat} {f : Bool} {l l' : List T} (hl : l.length = l'.length) (h : ∀ i, leT anyE (l.getD i .junk) (l'.getD i .junk)) : leT anyE (.sl sz f l) (.sl sz false l') := fun E cl v hp k => by
  simp only [Rep] at k ⊢
  obtain ⟨a, cap, c, h1, h2, h3, h4, h5⟩ := k
  exact ⟨a, cap, c, by rw [h1, hl], by rw [← hl]; exact h2, (fun h => by cases h), RepR.le hl h h4, h5⟩
theorem elems_shape {α : Type} (enc : α → T) (ok : α → Prop) : ∀ (l : List T), (∀ y ∈ l, ∃ v, leT anyE y (enc v) ∧ ok v) → ∃ vs : List α, vs.length = l.length ∧ (∀ i, leT anyE (l.getD i .junk) ((vs.map enc).getD i .junk)) ∧ ∀ v ∈ vs, ok v
  | [], _ => ⟨[], rfl, fun i => by simp [leT_refl], fun v hv => by simp at hv⟩
  | y :: l, h => by
    obtain ⟨v, h1, h2⟩ := h y (by simp)
    obtain ⟨vs, h3, h4, h5⟩ := elems_shape enc ok l fun z hz => h z (by simp [hz])
    refine ⟨v :: vs, by simp [h3], fun i => ?_, fun w hw => ?_⟩
    · cases i with
      | zero => simpa using h1
      | succ i => simpa using h4 i
    · rcases List.mem_cons.1 hw with rfl | hw
      · exact h2
      · exact h5 w hw
theorem sl_shape {α : Type} (enc : α → T) (ok : α → Prop) (l : List T) (h : ∀ y ∈ l, ∃ v, leT anyE y (enc v) ∧ ok v) {sz : Nat} {f : Bool} : ∃ vs : List α, leT anyE (.sl sz f l) (.sl sz false (vs.map enc)) ∧ vs.length = l.length ∧ ∀ v ∈ vs, ok v := by
  obtain ⟨vs, h1, h2, h3⟩ := elems_shape enc ok l h
  exact ⟨vs, leT_slE (by simp [h1]) h2, h1, h3⟩
theorem arr_shape {α : Type} (enc : α → T) (ok : α → Prop) : ∀ (l : List T), (∀ y ∈ l, ∃ v, y = enc v ∧ T.cells y = [y] ∧ ok v) → ∃ vs : List α, l.flatMap T.cells = vs.map enc ∧ vs.length = l.length ∧ ∀ v ∈ vs, ok v
  | [], _ => ⟨[], rfl, rfl, fun v hv => by simp at hv⟩
  | y :: l, h => by
    obtain ⟨v, rfl, hc, h2⟩ := h y (by simp)
    obtain ⟨vs, h3, h4, h5⟩ := arr_shape enc ok l fun z hz => h z (by simp [hz])
    refine ⟨v :: vs, by rw [List.flatMap_cons, hc, h3]; rfl, by simp [h4], fun w hw => ?_⟩
    rcases List.mem_cons.1 hw with rfl | hw
    · exact h2
    · exact h5 w hw
end Go.Proofs.YtaiapalhdejngaaX

set_option linter.unusedVariables false
set_option linter.unusedSimpArgs false
namespace Go.Proofs.YtaiapalhdejngaaX
open Go Go.RowKit Go.Proofs
set_option maxRecDepth 100000
def okT9 (v : List UInt8) : Prop := v.length ≤ 9223372036854775807
def okT38 (v : List (List UInt8)) : Prop := v.length ≤ 9223372036854775807 ∧ ∀ y ∈ v, okT9 y
theorem shp9 : ∀ (n : Nat) (x : T), ShapeW Try.prog n 9 x → ∃ v : List UInt8, x = .imm (.string (bs v)) ∧ okT9 v
  | 0, x, h => h.elim
  | n + 1, x, h => by
    simp only [ShapeW, Try.underlying9] at h
    obtain ⟨s, rfl, hs⟩ := h
    exact ⟨s.data.toList, by rw [← of_bs], hs⟩
theorem shp38 : ∀ (n : Nat) (x : T), ShapeW Try.prog n 38 x → ∃ (f : Bool) (l : List T) (v : List (List UInt8)), x = .sl 1 f l ∧ leT anyE x (.sl 1 false (List.map eS v)) ∧ okT38 v
  | 0, x, h => h.elim
  | n + 1, x, h => by
    simp only [ShapeW, Try.underlying38] at h
    obtain ⟨f, l, rfl, hl, he⟩ := h
    rw [cz9]
    obtain ⟨v, h1, h2, h3⟩ := sl_shape eS okT9 l fun y hy => (by
      obtain ⟨v, hv, hk⟩ := shp9 n y (he y hy)
      exact ⟨v, leT_of hv, hk⟩)
    exact ⟨f, l, v, rfl, h1, by rw [h2]; exact hl, h3⟩
theorem shapedEtagParts (main : ∀ (v0 : List (List UInt8)), okT38 v0 → ∃ n, F5 n v0 = some true) (xs : List T) (h : ShapesW Try.prog [38] xs) : FnC Try.prog 5 xs (tb true) := by
  obtain ⟨x0, xs0, rfl, ⟨n0, h0⟩, rfl⟩ := h
  obtain ⟨_, _, v0, _, e0, k0⟩ := shp38 _ _ h0
  obtain ⟨N, hN⟩ := main v0 k0
  exact (F5_ok N v0 true hN).le (leL_cons (e0) (leL_nil)) (leT_refl _)

end Go.Proofs.YtaiapalhdejngaaX

/- Plain functions with fuel: what they come to. Of no program. -/
set_option linter.unusedVariables false
set_option linter.unusedSimpArgs false
namespace Go.Proofs.YtaiapalhdejngaaX
open Go

/-- With fuel enough the answer is this. -/
def Ev {α : Type} (f : Nat → Option α) (r : α) : Prop := ∃ N, ∀ n, N ≤ n → f n = some r
theorem Ev.pure {α : Type} {r : α} : Ev (fun _ => some r) r := ⟨0, fun _ _ => rfl⟩
theorem Ev.const {α : Type} {x : Option α} {r : α} (h : x = some r) : Ev (fun _ => x) r := ⟨0, fun _ _ => h⟩
theorem Ev.bind {α β : Type} {f : Nat → Option α} {g : Nat → α → Option β} {v : α} {r : β} (h : Ev f v) (h' : Ev (fun n => g n v) r) : Ev (fun n => (f n).bind (g n)) r := by
  obtain ⟨N, h⟩ := h
  obtain ⟨M, h'⟩ := h'
  exact ⟨max N M, fun n hn => by show (f n).bind (g n) = _; rw [h n (by omega)]; exact h' n (by omega)⟩
theorem Ev.step {α : Type} {f : Nat → Option α} {r : α} (h : Ev (fun n => f (n + 1)) r) : Ev f r := by
  obtain ⟨N, h⟩ := h
  refine ⟨N + 1, fun n hn => ?_⟩
  obtain ⟨m, rfl⟩ : ∃ m, n = m + 1 := ⟨n - 1, by omega⟩
  exact h m (by omega)
theorem Ev.congr {α : Type} {f g : Nat → Option α} {r : α} (h : Ev g r) (e : ∀ n, f n = g n) : Ev f r := by
  obtain ⟨N, h⟩ := h
  exact ⟨N, fun n hn => (e n).trans (h n hn)⟩
theorem Ev.grd {α : Type} {p : Prop} [Decidable p] {f : Nat → Option α} {r : α} (hp : p) (h : Ev f r) : Ev (fun n => grd p (f n)) r := h.congr fun n => if_pos hp
theorem Ev.ofT {α : Type} {b : Bool} {f g : Nat → Option α} {r : α} (hb : b = true) (h : Ev f r) : Ev (fun n => iteB b (f n) (g n)) r := h.congr fun n => by rw [hb]; rfl
theorem Ev.ofF {α : Type} {b : Bool} {f g : Nat → Option α} {r : α} (hb : b = false) (h : Ev g r) : Ev (fun n => iteB b (f n) (g n)) r := h.congr fun n => by rw [hb]; rfl
theorem Ev.ite {α : Type} {b : Bool} {f g : Nat → Option α} {r : α} (h1 : b = true → Ev f r) (h2 : b = false → Ev g r) : Ev (fun n => iteB b (f n) (g n)) r := by
  cases hb : b with
  | true => exact (h1 hb).congr fun n => rfl
  | false => exact (h2 hb).congr fun n => rfl
theorem iteB_t {α : Type} (x y : Option α) : iteB true x y = x := rfl
theorem iteB_f {α : Type} (x y : Option α) : iteB false x y = y := rfl
theorem grd_t {α : Type} {p : Prop} [Decidable p] (x : Option α) (h : p) : grd p x = x := if_pos h
theorem grd_True {α : Type} [Decidable True] (x : Option α) : grd True x = x := if_pos trivial
theorem bind_some' {α β : Type} (v : α) (g : α → Option β) : (some v).bind g = g v := rfl
theorem w64 {n : Int} (h : -9223372036854775808 ≤ n ∧ n ≤ 9223372036854775807) : IntKind.wrap .i64 n = n := Go.IntWalk.i64_in _ h
theorem w32 {n : Int} (h : -2147483648 ≤ n ∧ n ≤ 2147483647) : IntKind.wrap .i32 n = n := Go.IntWalk.i32_in _ h
theorem wu8 {n : Int} (h : 0 ≤ n ∧ n ≤ 255) : IntKind.wrap .u8 n = n := Go.IntWalk.u8_in _ h
theorem wu32 {n : Int} (h : 0 ≤ n ∧ n ≤ 4294967295) : IntKind.wrap .u32 n = n := Go.IntWalk.u32_in _ h
theorem wu64 {n : Int} (h : 0 ≤ n ∧ n ≤ 18446744073709551615) : IntKind.wrap .u64 n = n := Go.IntWalk.u64_in _ h
/-- Bytes as numbers. -/
theorem u8_beq (a b : UInt8) : ((a.toNat : Int) == (b.toNat : Int)) = (a == b) := by
  rw [Bool.eq_iff_iff, beq_iff_eq, beq_iff_eq]
  exact ⟨fun h => UInt8.toNat_inj.1 (by omega), fun h => by rw [h]⟩
theorem u8_lit (a : UInt8) (k : Nat) (hk : k < 256) : ((a.toNat : Int) == ((k : Nat) : Int)) = (a == UInt8.ofNat k) := by
  rw [Bool.eq_iff_iff, beq_iff_eq, beq_iff_eq]
  constructor
  · intro h
    apply UInt8.toNat_inj.1
    rw [UInt8.toNat_ofNat']
    omega
  · intro h
    subst h
    rw [UInt8.toNat_ofNat']
    omega
theorem u8_lt (a : UInt8) : (0 : Int) ≤ (a.toNat : Int) ∧ (a.toNat : Int) ≤ 255 := by
  have := a.toNat_lt; omega
theorem drop_cons {α : Type} (l : List α) (i : Nat) (d : α) (h : i < l.length) : l.drop i = l.getD i d :: l.drop (i + 1) := by
  rw [List.drop_eq_getElem_cons h, List.getD_eq_getElem?_getD, List.getElem?_eq_getElem h]; rfl
theorem toNat_nat (n : Nat) : ((n : Int)).toNat = n := rfl
end Go.Proofs.YtaiapalhdejngaaX

/- Bytes as numbers. Of no program. -/
set_option linter.unusedVariables false
set_option linter.unusedSimpArgs false
namespace Go.Proofs.YtaiapalhdejngaaX
open Go

def Bytes (l : List Int) : Prop := ∀ x ∈ l, 0 ≤ x ∧ x ≤ 255
theorem Bytes.nil : Bytes [] := by intro x hx; cases hx
theorem Bytes.cons {a : Int} {r : List Int} (h : 0 ≤ a ∧ a ≤ 255) (hr : Bytes r) : Bytes (a :: r) := by
  intro x hx
  rcases List.mem_cons.1 hx with rfl | hx
  · exact h
  · exact hr x hx
theorem Bytes.head {a : Int} {r : List Int} (h : Bytes (a :: r)) : 0 ≤ a ∧ a ≤ 255 := h a (by simp)
theorem Bytes.tail {a : Int} {r : List Int} (h : Bytes (a :: r)) : Bytes r := fun x hx => h x (by simp [hx])
theorem Bytes.drop {l : List Int} (h : Bytes l) (n : Nat) : Bytes (l.drop n) := fun x hx => h x (List.mem_of_mem_drop hx)
theorem Bytes.append {l r : List Int} (h : Bytes l) (h' : Bytes r) : Bytes (l ++ r) := fun x hx => by
  rcases List.mem_append.1 hx with hx | hx
  · exact h x hx
  · exact h' x hx
def bt (s : List UInt8) (i : Nat) : Int := ((s.getD i 0).toNat : Int)
def ints (s : List UInt8) : List Int := s.map ofB
theorem ints_len (s : List UInt8) : (ints s).length = s.length := by simp [ints]
theorem ints_bytes (s : List UInt8) : Bytes (ints s) := by
  intro x hx
  unfold ints at hx
  obtain ⟨c, _, rfl⟩ := List.mem_map.1 hx
  exact u8_lt c
theorem ints_drop (s : List UInt8) (i : Nat) : ints (s.drop i) = (ints s).drop i := by simp [ints, List.map_drop]
theorem ints_take (s : List UInt8) (i : Nat) : ints (s.take i) = (ints s).take i := by simp [ints, List.map_take]
theorem bt_bd (s : List UInt8) (i : Nat) : 0 ≤ bt s i ∧ bt s i ≤ 255 := u8_lt _
theorem ints_get (s : List UInt8) (i : Nat) : (ints s).getD i 0 = bt s i := by
  unfold ints bt
  rw [List.getD_eq_getElem?_getD, List.getElem?_map, List.getD_eq_getElem?_getD]
  cases s[i]? <;> rfl
theorem drop_bt (s : List UInt8) (i : Nat) (h : i < s.length) : (ints s).drop i = bt s i :: (ints s).drop (i + 1) := by
  rw [drop_cons (ints s) i 0 (by rw [ints_len]; exact h), ints_get]
theorem ofB_toB {x : Int} (h : 0 ≤ x ∧ x ≤ 255) : ofB (toB x) = x := by
  unfold ofB toB
  rw [UInt8.toNat_ofNat']
  omega
theorem map_toB_eq {l : List Int} (hl : Bytes l) (t : List UInt8) : (l.map toB == t) = decide (l = ints t) := by
  rw [Bool.eq_iff_iff, beq_iff_eq, decide_eq_true_eq]
  constructor
  · rintro rfl
    unfold ints
    rw [List.map_map]
    conv => lhs; rw [← List.map_id l]
    exact List.map_congr_left fun x hx => (ofB_toB (hl x hx)).symm
  · rintro rfl
    unfold ints
    rw [List.map_map]
    conv => rhs; rw [← List.map_id t]
    refine List.map_congr_left fun x _ => ?_
    show UInt8.ofNat ((x.toNat : Int)).toNat = x
    rw [toNat_nat]; simp
theorem ints_cons (s : List UInt8) (h : s.length ≠ 0) : ∃ a r, ints s = a :: r := by
  cases hb : ints s with
  | nil => have := ints_len s; rw [hb] at this; simp at this; omega
  | cons a r => exact ⟨a, r, rfl⟩
theorem of_ints {s : List UInt8} {l : List Int} (h : ints s = l) : s = l.map toB := by
  have hb : Bytes l := h ▸ ints_bytes s
  have := map_toB_eq hb s
  rw [h, decide_eq_true rfl] at this
  exact (beq_iff_eq.1 this).symm
theorem ints_toB {l : List Int} (h : Bytes l) : ints (l.map toB) = l := by
  have := map_toB_eq h (l.map toB)
  rw [beq_self_eq_true] at this
  exact (of_decide_eq_true this.symm).symm
theorem toB_inj : ∀ {a b : List Int}, Bytes a → Bytes b → a.map toB = b.map toB → a = b := fun ha hb h => by
  have := congrArg ints h
  rwa [ints_toB ha, ints_toB hb] at this
theorem bq {a b : Int} (h : ¬ a = b) : (a == b) = false := beq_eq_false_iff_ne.2 h
theorem bqt {a b : Int} (h : a = b) : (a == b) = true := by rw [h]; exact beq_self_eq_true b
theorem all_bytes {l : List Int} (h : Bytes l) : (l.all fun x => decide (0 ≤ x) && decide (x < 256)) = true := by
  rw [List.all_eq_true]
  intro x hx
  have := h x hx
  simp only [Bool.and_eq_true, decide_eq_true_eq]
  omega
theorem bs_bool {p : Prop} [Decidable p] {b : Bool} (h : (b = true) ↔ p) : b = decide p := by
  cases b with
  | true => exact (decide_eq_true (h.1 rfl)).symm
  | false => exact (decide_eq_false (fun e => by cases h.2 e)).symm
theorem g64 (i : Nat) (h : i ≤ 1000000000) : IntKind.wrap .i64 ((i : Int) + 1) = ((i + 1 : Nat) : Int) := by rw [w64 (by omega)]; omega
end Go.Proofs.YtaiapalhdejngaaX

/- Bytes of digits: the program's and the reference's. -/
set_option linter.unusedVariables false
set_option linter.unusedSimpArgs false
namespace Go.Proofs.YtaiapalhdejngaaX
open Go

def hvS (c : Int) : Int := if kindOf c = 1 then c - 48 else if kindOf c = 2 then c - 87 else -1
theorem hv_fin : ∀ c : Fin 256, (-1 ≤ hvS (c.val : Int) ∧ hvS (c.val : Int) ≤ 15) ∧ F99 0 (c.val : Int) = some (if hvS (c.val : Int) < 0 then 0 else hvS (c.val : Int), decide (0 ≤ hvS (c.val : Int))) ∧ F94 0 (c.val : Int) = some (hvS (c.val : Int)) := by decide +kernel
theorem hv_bd (c : UInt8) : -1 ≤ hvS (c.toNat : Int) ∧ hvS (c.toNat : Int) ≤ 15 := (hv_fin ⟨c.toNat, c.toNat_lt⟩).1
theorem hv_p (n : Nat) (c : UInt8) : F99 n (c.toNat : Int) = some (if hvS (c.toNat : Int) < 0 then 0 else hvS (c.toNat : Int), decide (0 ≤ hvS (c.toNat : Int))) := (hv_fin ⟨c.toNat, c.toNat_lt⟩).2.1
theorem hv_r (n : Nat) (c : UInt8) : F94 n (c.toNat : Int) = some (hvS (c.toNat : Int)) := (hv_fin ⟨c.toNat, c.toNat_lt⟩).2.2
def hexP : List UInt8 → List Int → List Int × Bool
  | a :: b :: r, acc => if hvS (a.toNat : Int) < 0 ∨ hvS (b.toNat : Int) < 0 then ([], false) else hexP r (acc ++ [16 * hvS (a.toNat : Int) + hvS (b.toNat : Int)])
  | _, acc => (acc, true)
def hexS (l : List UInt8) : List Int × Bool := if l.length % 2 ≠ 0 then ([], false) else hexP l []
theorem or16 {a b : Int} (ha : 0 ≤ a ∧ a ≤ 15) (hb : 0 ≤ b ∧ b ≤ 15) : IntKind.wrap .u8 (bOr .u8 (IntKind.wrap .u8 (bShl .u8 a 4)) b) = 16 * a + b := by
  have hs : bShl .u8 a 4 = a * 16 := by unfold bShl; rw [show (2 : Int) ^ min 4 IntKind.u8.bits = 16 by decide]
  rw [hs, wu8 (n := a * 16) (by omega), bOr_add .u8 4 (a * 16) b (by omega) (by show a * 16 < 256; omega) (by show a * 16 % 16 = 0; omega) hb.1 (by show b < 16; omega) (by decide), wu8 (by omega)]
  omega
theorem ev_hexP (l : List UInt8) (hl : l.length ≤ 1000000) : ∀ (k i : Nat) (acc : List Int), i + 2 * k = l.length → acc.length ≤ i → Ev (fun n => F75_L1 n l (i : Int) acc) (hexP (l.drop i) acc)
  | 0, i, acc, hi, ha => by
    rw [List.drop_of_length_le (by omega)]
    refine Ev.step ((Ev.const (x := some (acc, true)) rfl).congr fun n => ?_)
    rw [F75_L1, decide_eq_false (by omega), iteB_f]
  | k + 1, i, acc, hi, ha => by
    have w1 : IntKind.wrap .i64 ((i : Int) + 1) = ((i + 1 : Nat) : Int) := by rw [w64 (by omega)]; omega
    have w2 : IntKind.wrap .i64 ((i : Int) + 2) = ((i + 2 : Nat) : Int) := by rw [w64 (by omega)]; omega
    have b1 := hv_bd (l.getD i 0)
    have b2 := hv_bd (l.getD (i + 1) 0)
    rw [drop_cons l i 0 (by omega), drop_cons l (i + 1) 0 (by omega), hexP]
    by_cases h1 : hvS ((l.getD i 0).toNat : Int) < 0
    · rw [if_pos (.inl h1)]
      refine Ev.step ((Ev.const (x := some ([], false)) rfl).congr fun n => ?_)
      rw [F75_L1, decide_eq_true (by omega), iteB_t, grd_t _ (by omega), toNat_nat, hv_p, bind_some', w1, grd_t _ (by omega), toNat_nat, hv_p, bind_some', decide_eq_false (by omega)]
      rfl
    by_cases h2 : hvS ((l.getD (i + 1) 0).toNat : Int) < 0
    · rw [if_pos (.inr h2)]
      refine Ev.step ((Ev.const (x := some ([], false)) rfl).congr fun n => ?_)
      rw [F75_L1, decide_eq_true (by omega), iteB_t, grd_t _ (by omega), toNat_nat, hv_p, bind_some', w1, grd_t _ (by omega), toNat_nat, hv_p, bind_some', decide_eq_true (by omega), decide_eq_false (by omega)]
      rfl
    rw [if_neg (fun h => h.elim h1 h2)]
    refine Ev.step ((ev_hexP l hl k (i + 2) (acc ++ [16 * hvS ((l.getD i 0).toNat : Int) + hvS ((l.getD (i + 1) 0).toNat : Int)]) (by omega) (by simp; omega)).congr fun n => ?_)
    rw [F75_L1, decide_eq_true (by omega), iteB_t, grd_t _ (by omega), toNat_nat, hv_p, bind_some', w1, grd_t _ (by omega), toNat_nat, hv_p, bind_some', decide_eq_true (by omega), decide_eq_true (by omega), if_neg h1, if_neg h2]
    show iteB false _ (iteB false _ _) = _
    rw [iteB_f, iteB_f, grd_t _ (by omega), w2, or16 ⟨by omega, by omega⟩ ⟨by omega, by omega⟩]
theorem ev_ReadHex (l : List UInt8) (hl : l.length ≤ 1000000) : Ev (fun n => F75 n l) (hexS l) := by
  unfold hexS
  have hm : (l.length : Int).tmod 2 = ((l.length % 2 : Nat) : Int) := (Int.ofNat_tmod l.length 2).symm
  by_cases h : l.length % 2 ≠ 0
  · rw [if_pos h]
    refine (Ev.const (x := some ([], false)) rfl).congr fun n => ?_
    rw [F75, hm, show (((l.length % 2 : Nat) : Int) != 0) = true by rw [bne_iff_ne]; omega, iteB_t]
  · rw [if_neg h]
    refine (ev_hexP l hl (l.length / 2) 0 [] (by omega) (by simp)).congr fun n => ?_
    rw [F75, hm, show l.length % 2 = 0 by omega]
    rfl
theorem ev_rhexP (l : List UInt8) (hl : l.length ≤ 1000000) : ∀ (k i : Nat) (acc : List Int), i + 2 * k = l.length → acc.length ≤ i → Ev (fun n => F76_L1 n l (i : Int) acc) (hexP (l.drop i) acc)
  | 0, i, acc, hi, ha => by
    have w1 : IntKind.wrap .i64 ((i : Int) + 1) = ((i + 1 : Nat) : Int) := by rw [w64 (by omega)]; omega
    rw [List.drop_of_length_le (by omega)]
    refine Ev.step ((Ev.const (x := some (acc, true)) rfl).congr fun n => ?_)
    rw [F76_L1, w1, decide_eq_false (by omega), iteB_f]
  | k + 1, i, acc, hi, ha => by
    have w1 : IntKind.wrap .i64 ((i : Int) + 1) = ((i + 1 : Nat) : Int) := by rw [w64 (by omega)]; omega
    have w2 : IntKind.wrap .i64 ((i : Int) + 2) = ((i + 2 : Nat) : Int) := by rw [w64 (by omega)]; omega
    have b1 := hv_bd (l.getD i 0)
    have b2 := hv_bd (l.getD (i + 1) 0)
    rw [drop_cons l i 0 (by omega), drop_cons l (i + 1) 0 (by omega), hexP]
    by_cases h1 : hvS ((l.getD i 0).toNat : Int) < 0
    · rw [if_pos (.inl h1)]
      refine Ev.step ((Ev.const (x := some ([], false)) rfl).congr fun n => ?_)
      rw [F76_L1, w1, decide_eq_true (by omega), iteB_t, grd_t _ (by omega), toNat_nat, hv_r, bind_some', grd_t _ (by omega), toNat_nat, hv_r, bind_some', decide_eq_true h1]
      rfl
    by_cases h2 : hvS ((l.getD (i + 1) 0).toNat : Int) < 0
    · rw [if_pos (.inr h2)]
      refine Ev.step ((Ev.const (x := some ([], false)) rfl).congr fun n => ?_)
      rw [F76_L1, w1, decide_eq_true (by omega), iteB_t, grd_t _ (by omega), toNat_nat, hv_r, bind_some', grd_t _ (by omega), toNat_nat, hv_r, bind_some', decide_eq_false h1, decide_eq_true h2]
      rfl
    rw [if_neg (fun h => h.elim h1 h2)]
    refine Ev.step ((ev_rhexP l hl k (i + 2) (acc ++ [16 * hvS ((l.getD i 0).toNat : Int) + hvS ((l.getD (i + 1) 0).toNat : Int)]) (by omega) (by simp; omega)).congr fun n => ?_)
    rw [F76_L1, w1, decide_eq_true (by omega), iteB_t, grd_t _ (by omega), toNat_nat, hv_r, bind_some', grd_t _ (by omega), toNat_nat, hv_r, bind_some', decide_eq_false h1, decide_eq_false h2, iteB_f, iteB_f, grd_t _ (by omega), w2, w64 (n := 16 * _) (by omega), w64 (n := 16 * _ + _) (by omega), wu8 (by omega)]
theorem ev_rReadHex (l : List UInt8) (hl : l.length ≤ 1000000) : Ev (fun n => F76 n l) (hexS l) := by
  unfold hexS
  have hm : (l.length : Int).tmod 2 = ((l.length % 2 : Nat) : Int) := (Int.ofNat_tmod l.length 2).symm
  by_cases h : l.length % 2 ≠ 0
  · rw [if_pos h]
    refine (Ev.const (x := some ([], false)) rfl).congr fun n => ?_
    rw [F76, hm, show (((l.length % 2 : Nat) : Int) != 0) = true by rw [bne_iff_ne]; omega, iteB_t]
  · rw [if_neg h]
    refine (ev_rhexP l hl (l.length / 2) 0 [] (by omega) (by simp)).congr fun n => ?_
    rw [F76, hm, show l.length % 2 = 0 by omega]
    rfl
theorem hexP_bytes : ∀ (n : Nat) (l : List UInt8) (acc : List Int), l.length ≤ n → Bytes acc → Bytes (hexP l acc).1
  | n, [], acc, hn, h => h
  | n, [a], acc, hn, h => h
  | 0, a :: b :: r, acc, hn, h => by simp at hn
  | n + 1, a :: b :: r, acc, hn, h => by
    have b1 := hv_bd a
    have b2 := hv_bd b
    rw [hexP]
    split
    · exact Bytes.nil
    · rename_i hne
      have h1 : ¬ hvS (a.toNat : Int) < 0 := fun h => hne (.inl h)
      have h2 : ¬ hvS (b.toNat : Int) < 0 := fun h => hne (.inr h)
      exact hexP_bytes n r _ (by simp at hn; omega) (h.append (Bytes.cons (by omega) Bytes.nil))
theorem hexS_bytes (l : List UInt8) : Bytes (hexS l).1 := by
  unfold hexS
  split
  · exact Bytes.nil
  · exact hexP_bytes l.length l [] (Nat.le_refl _) Bytes.nil
end Go.Proofs.YtaiapalhdejngaaX

/- MD5: one step, plainly, of the program and of the reference. -/
set_option linter.unusedVariables false
set_option linter.unusedSimpArgs false
namespace Go.Proofs.YtaiapalhdejngaaX
open Go

def U32 (x : Int) : Prop := 0 ≤ x ∧ x ≤ 4294967295
theorem u32_wrap (x : Int) : U32 (IntKind.wrap .u32 x) := by
  show 0 ≤ x % 4294967296 ∧ x % 4294967296 ≤ 4294967295
  omega
theorem Bytes.getD {l : List Int} (h : Bytes l) (i : Nat) : 0 ≤ l.getD i 0 ∧ l.getD i 0 ≤ 255 := by
  rw [List.getD_eq_getElem?_getD]
  cases e : l[i]? with
  | none => exact ⟨by decide, by decide⟩
  | some x => exact h x (List.mem_of_getElem? e)
theorem Bytes.take {l : List Int} (h : Bytes l) (n : Nat) : Bytes (l.take n) := fun x hx => h x (List.mem_of_mem_take hx)
/-- What is not so. -/
theorem nt_eq {x : Int} (h : U32 x) : IntKind.wrap .u32 (bNot .u32 x) = IntKind.wrap .u32 (4294967295 - x) := by
  obtain ⟨h0, h1⟩ := h
  obtain ⟨a, rfl⟩ := Int.eq_ofNat_of_zero_le h0
  congr 1
  show ((BitVec.ofInt 32 4294967295 ^^^ BitVec.ofInt 32 (a : Int)).toNat : Int) = _
  rw [show BitVec.ofInt 32 4294967295 = BitVec.allOnes 32 by decide, BitVec.allOnes_xor, BitVec.toNat_not, ofInt_nat 32 a (by omega)]
  omega
/-- Turned. -/
def rotS (x : Int) (n : Nat) : Int := IntKind.wrap .u32 (bOr .u32 (IntKind.wrap .u32 (bShl .u32 x n)) (bShr .u32 x (32 - n)))
theorem rot_p (m : Nat) (x : Int) (n : Nat) (hn : n ≤ 31) : F109 m x (n : Int) = some (rotS x n) := by
  have h1 : IntKind.wrap .u64 (bAnd .u64 (IntKind.wrap .u64 (n : Int)) (31 : Int)) = (n : Int) := by
    rw [wu64 (n := (n : Int)) (by omega), bAnd_low .u64 5 (n : Int) (by omega) (by show (n : Int) < 18446744073709551616; omega) (by decide) 31 (by decide), wu64 (by omega)]
    omega
  have h2 : IntKind.wrap .u64 ((32 : Int) - (n : Int)) = ((32 - n : Nat) : Int) := by rw [wu64 (by omega)]; omega
  rw [F109, h1, h2, grd_t _ (by omega), grd_t _ (by omega), toNat_nat, toNat_nat]
  rfl
theorem rot_r (m : Nat) (x : Int) (n : Nat) (hn : n ≤ 31) : F117 m x (n : Int) = some (rotS x n) := by
  have h2 : IntKind.wrap .u64 ((32 : Int) - (n : Int)) = ((32 - n : Nat) : Int) := by rw [wu64 (by omega)]; omega
  rw [F117, h2, grd_t _ (by omega), grd_t _ (by omega), toNat_nat, toNat_nat]
  rfl
def ntS (x : Int) : Int := IntKind.wrap .u32 (4294967295 - x)
def fS (i : Nat) (b c d : Int) : Int :=
  if i / 16 = 0 then IntKind.wrap .u32 (bOr .u32 (IntKind.wrap .u32 (bAnd .u32 b c)) (IntKind.wrap .u32 (bAnd .u32 (ntS b) d)))
  else if i / 16 = 1 then IntKind.wrap .u32 (bOr .u32 (IntKind.wrap .u32 (bAnd .u32 d b)) (IntKind.wrap .u32 (bAnd .u32 (ntS d) c)))
  else if i / 16 = 2 then IntKind.wrap .u32 (bXor .u32 (IntKind.wrap .u32 (bXor .u32 b c)) d)
  else IntKind.wrap .u32 (bXor .u32 c (IntKind.wrap .u32 (bOr .u32 b (ntS d))))
def kS (i : Nat) : Nat := if i / 16 = 0 then i else if i / 16 = 1 then 5 * i + 1 else if i / 16 = 2 then 3 * i + 5 else 7 * i
theorem kS_le (i : Nat) (h : i < 64) : kS i ≤ 500 := by unfold kS; split; omega; split; omega; split <;> omega
theorem div16 (i : Nat) (h : i < 64) : IntKind.wrap .i64 ((i : Int).tdiv 16) = ((i / 16 : Nat) : Int) := by
  rw [show (i : Int).tdiv 16 = ((i / 16 : Nat) : Int) from (Int.ofNat_tdiv i 16).symm, w64 (by omega)]
theorem modN (i n : Nat) : (i : Int).tmod (n : Int) = ((i % n : Nat) : Int) := (Int.ofNat_tmod i n).symm
theorem natq (a b : Nat) : (((a : Nat) : Int) == ((b : Nat) : Int)) = decide (a = b) := by
  rw [Bool.eq_iff_iff, beq_iff_eq, decide_eq_true_eq]; omega
theorem q16 (i k : Nat) (h : i < 64) : (IntKind.wrap .i64 ((i : Int).tdiv 16) == (k : Int)) = decide (i / 16 = k) := by rw [div16 i h, natq]
theorem mix_p (m i : Nat) (h : i < 64) {b c d : Int} (hb : U32 b) (hd : U32 d) : F108 m (i : Int) b c d = some (fS i b c d, (kS i : Int)) := by
  rw [F108, show (0 : Int) = ((0 : Nat) : Int) from rfl, show ((IntKind.wrap .i64 ((i : Int).tdiv 16)) == (1 : Int)) = decide (i / 16 = 1) from q16 i 1 h, show ((IntKind.wrap .i64 ((i : Int).tdiv 16)) == (2 : Int)) = decide (i / 16 = 2) from q16 i 2 h, q16 i 0 h, nt_eq hb, nt_eq hd, w64 (n := 5 * (i : Int)) (by omega), w64 (n := 5 * (i : Int) + 1) (by omega), w64 (n := 3 * (i : Int)) (by omega), w64 (n := 3 * (i : Int) + 5) (by omega), w64 (n := 7 * (i : Int)) (by omega)]
  unfold fS kS
  by_cases h0 : i / 16 = 0
  · rw [if_pos h0, if_pos h0, decide_eq_true h0]; rfl
  by_cases h1 : i / 16 = 1
  · rw [if_neg h0, if_neg h0, if_pos h1, if_pos h1, decide_eq_false h0, decide_eq_true h1]
    show some (_, _) = some (_, _)
    congr 2
  by_cases h2 : i / 16 = 2
  · rw [if_neg h0, if_neg h0, if_neg h1, if_neg h1, if_pos h2, if_pos h2, decide_eq_false h0, decide_eq_false h1, decide_eq_true h2]
    show some (_, _) = some (_, _)
    congr 2
  · rw [if_neg h0, if_neg h0, if_neg h1, if_neg h1, if_neg h2, if_neg h2, decide_eq_false h0, decide_eq_false h1, decide_eq_false h2]
    show some (_, _) = some (_, _)
    congr 2
/-- A block's word. -/
def wordS (b : List Int) (k : Nat) : Int := b.getD (4 * k) 0 + b.getD (4 * k + 1) 0 * 256 + b.getD (4 * k + 2) 0 * 65536 + b.getD (4 * k + 3) 0 * 16777216
def sinesS : List Int := (F106 0).getD []
def turnsS : List Nat := [7, 12, 17, 22, 5, 9, 14, 20, 4, 11, 16, 23, 6, 10, 15, 21]
theorem turns_le : ∀ i : Fin 64, turnsS.getD (i.val / 16 * 4 + i.val % 4) 0 ≤ 31 := by decide
def Q4 := Int × Int × Int × Int
def stepS (b : List Int) (i : Nat) (s : Q4) : Q4 :=
  (s.2.2.2, IntKind.wrap .u32 (s.2.1 + rotS (IntKind.wrap .u32 (IntKind.wrap .u32 (IntKind.wrap .u32 (s.1 + fS i s.2.1 s.2.2.1 s.2.2.2) + wordS b (kS i % 16)) + sinesS.getD i 0)) (turnsS.getD (i / 16 * 4 + i % 4) 0)), s.2.1, s.2.2.1)
def runS (b : List Int) : Nat → Nat → Q4 → Q4
  | 0, _, s => s
  | r + 1, i, s => runS b r (i + 1) (stepS b i s)
def addS (s : Q4) (v : Q4) : Q4 := (IntKind.wrap .u32 (s.1 + v.1), IntKind.wrap .u32 (s.2.1 + v.2.1), IntKind.wrap .u32 (s.2.2.1 + v.2.2.1), IntKind.wrap .u32 (s.2.2.2 + v.2.2.2))
/-- A block's end: four words more. -/
def blkS (b : List Int) (s : Q4) : Q4 := addS s (runS b 64 0 s)
def R4 (s : Q4) : Prop := U32 s.1 ∧ U32 s.2.1 ∧ U32 s.2.2.1 ∧ U32 s.2.2.2
theorem R4.step {b : List Int} {i : Nat} {s : Q4} (h : R4 s) : R4 (stepS b i s) := ⟨h.2.2.2, u32_wrap _, h.2.1, h.2.2.1⟩
theorem R4.blk (b : List Int) (s : Q4) : R4 (blkS b s) := ⟨u32_wrap _, u32_wrap _, u32_wrap _, u32_wrap _⟩
def l4 (s : Q4) : List Int := [s.1, s.2.1, s.2.2.1, s.2.2.2]
end Go.Proofs.YtaiapalhdejngaaX

/- MD5: a block, plainly, of the program and of the reference. -/
set_option linter.unusedVariables false
set_option linter.unusedSimpArgs false
namespace Go.Proofs.YtaiapalhdejngaaX
open Go

theorem int_default : (default : Int) = 0 := rfl
theorem bOr_comm (k : IntKind) (x y : Int) : bOr k x y = bOr k y x := by unfold bOr; rw [BitVec.or_comm]
def p256 : Nat → Int
  | 0 => 1
  | 1 => 256
  | 2 => 65536
  | _ => 16777216
theorem shl_byte (t : Nat) (ht : t < 4) (c : Int) : bShl .u32 c (8 * t) = c * p256 t := by
  unfold bShl
  match t, ht with
  | 0, _ => rw [show (2 : Int) ^ min (8 * 0) IntKind.u32.bits = 1 by decide]; rfl
  | 1, _ => rw [show (2 : Int) ^ min (8 * 1) IntKind.u32.bits = 256 by decide]; rfl
  | 2, _ => rw [show (2 : Int) ^ min (8 * 2) IntKind.u32.bits = 65536 by decide]; rfl
  | 3, _ => rw [show (2 : Int) ^ min (8 * 3) IntKind.u32.bits = 16777216 by decide]; rfl
theorem or_at (i : Nat) (m : Int) (hm : (2 : Int) ^ i = m) (hi : i ≤ 24) {p c : Int} (hp : 0 ≤ p) (hp1 : p < m) (hc : 0 ≤ c) (hcm : c * m + m ≤ 4294967296) (hc' : 0 ≤ c * m) : IntKind.wrap .u32 (bOr .u32 p (IntKind.wrap .u32 (c * m))) = p + c * m := by
  rw [bOr_comm, wu32 (n := c * m) (by omega), bOr_add .u32 i (c * m) p hc' (by show c * m < 4294967296; omega) (by rw [hm]; exact Int.mul_emod_left c m) hp (by rw [hm]; exact hp1) (by show i ≤ 32; omega), wu32 (by omega)]
  omega
theorem or_byte (t : Nat) (ht : t < 4) {p c : Int} (hp : 0 ≤ p) (hp1 : p < p256 t) (hc : 0 ≤ c ∧ c ≤ 255) : IntKind.wrap .u32 (bOr .u32 p (IntKind.wrap .u32 (bShl .u32 (IntKind.wrap .u32 c) (8 * t)))) = p + c * p256 t := by
  rw [wu32 (n := c) (by omega), shl_byte t ht]
  match t, ht, hp1 with
  | 0, _, hp1 => exact or_at 0 1 (by decide) (by omega) hp hp1 hc.1 (by omega) (by omega)
  | 1, _, hp1 => exact or_at 8 256 (by decide) (by omega) hp hp1 hc.1 (by omega) (by omega)
  | 2, _, hp1 => exact or_at 16 65536 (by decide) (by omega) hp hp1 hc.1 (by omega) (by omega)
  | 3, _, hp1 => exact or_at 24 16777216 (by decide) (by omega) hp hp1 hc.1 (by omega) (by omega)
/-- A word of which so many bytes are laid. -/
def pwS (b : List Int) (j : Nat) : Nat → Int
  | 0 => 0
  | 1 => b.getD (4 * j) 0
  | 2 => b.getD (4 * j) 0 + b.getD (4 * j + 1) 0 * 256
  | 3 => b.getD (4 * j) 0 + b.getD (4 * j + 1) 0 * 256 + b.getD (4 * j + 2) 0 * 65536
  | _ => wordS b j
theorem pw_ge (b : List Int) (j t : Nat) (h : 4 ≤ t) : pwS b j t = wordS b j := by
  match t, h with
  | t + 4, _ => rfl
theorem pw_step {b : List Int} (hb : Bytes b) (j t : Nat) (ht : t < 4) : (0 ≤ pwS b j t ∧ pwS b j t < p256 t) ∧ pwS b j t + b.getD (4 * j + t) 0 * p256 t = pwS b j (t + 1) := by
  have h0 := hb.getD (4 * j)
  have h1 := hb.getD (4 * j + 1)
  have h2 := hb.getD (4 * j + 2)
  match t, ht with
  | 0, _ => exact ⟨⟨Int.le_refl 0, by show (0 : Int) < 1; decide⟩, by show (0 : Int) + b.getD (4 * j) 0 * 1 = b.getD (4 * j) 0; omega⟩
  | 1, _ => exact ⟨⟨h0.1, by show b.getD (4 * j) 0 < 256; omega⟩, rfl⟩
  | 2, _ => exact ⟨⟨by show 0 ≤ b.getD (4 * j) 0 + b.getD (4 * j + 1) 0 * 256; omega, by show b.getD (4 * j) 0 + b.getD (4 * j + 1) 0 * 256 < 65536; omega⟩, rfl⟩
  | 3, _ => exact ⟨⟨by show 0 ≤ b.getD (4 * j) 0 + b.getD (4 * j + 1) 0 * 256 + b.getD (4 * j + 2) 0 * 65536; omega, by show b.getD (4 * j) 0 + b.getD (4 * j + 1) 0 * 256 + b.getD (4 * j + 2) 0 * 65536 < 16777216; omega⟩, rfl⟩
def sprS (b : List Int) : List Int := (List.range 16).map (wordS b)
theorem spr_len (b : List Int) : (sprS b).length = 16 := by simp [sprS]
theorem spr_get (b : List Int) (j : Nat) (h : j < 16) : (sprS b).getD j 0 = wordS b j := by
  unfold sprS
  rw [List.getD_eq_getElem?_getD, List.getElem?_map, List.getElem?_range h]; rfl
theorem getD_ext {l l' : List Int} (hl : l.length = l'.length) (h : ∀ j, j < l.length → l.getD j 0 = l'.getD j 0) : l = l' := by
  apply List.ext_getElem hl
  intro i h1 h2
  have := h i h1
  rwa [List.getD_eq_getElem?_getD, List.getElem?_eq_getElem h1, List.getD_eq_getElem?_getD, List.getElem?_eq_getElem h2] at this
theorem spr_loop {b : List Int} (hb : Bytes b) (hl : b.length = 64) : ∀ (r i : Nat) (x : List Int), i + r = 64 → x.length = 16 → (∀ j, j < 16 → x.getD j 0 = pwS b j (i - 4 * j)) → Ev (fun n => F105_L1 n b (i : Int) x) (sprS b)
  | 0, i, x, hi, hx, hj => by
    have e : x = sprS b := getD_ext (by rw [hx, spr_len]) fun j h => by
      rw [hx] at h
      rw [hj j h, spr_get b j h, pw_ge b j _ (by omega)]
    refine Ev.step ((Ev.const (x := some (sprS b)) rfl).congr fun n => ?_)
    · have h16 : x.take 16 = x := List.take_of_length_le (by omega)
      rw [F105_L1, decide_eq_false (by omega), iteB_f, h16, h16, grd_t _ (by omega), grd_t _ (by omega), grd_t _ (by omega), e]
  | r + 1, i, x, hi, hx, hj => by
    have hd4 : IntKind.wrap .i64 ((i : Int).tdiv 4) = ((i / 4 : Nat) : Int) := by
      rw [show (i : Int).tdiv 4 = ((i / 4 : Nat) : Int) from (Int.ofNat_tdiv i 4).symm, w64 (by omega)]
    have hm4 : (i : Int).tmod 4 = ((i % 4 : Nat) : Int) := modN i 4
    have h8 : IntKind.wrap .i64 ((8 : Int) * ((i % 4 : Nat) : Int)) = ((8 * (i % 4) : Nat) : Int) := by rw [w64 (by omega)]; omega
    have ht : b.take 64 = b := List.take_of_length_le (by omega)
    have hst := pw_step hb (i / 4) (i % 4) (by omega)
    have e4 : 4 * (i / 4) + i % 4 = i := by omega
    rw [e4] at hst
    have hget : x.getD (i / 4) 0 = pwS b (i / 4) (i % 4) := by rw [hj (i / 4) (by omega)]; congr 1; omega
    refine Ev.step ((spr_loop hb hl r (i + 1) (x.set (i / 4) (pwS b (i / 4) (i % 4 + 1))) (by omega) (by simp [hx]) fun j h => ?_).congr fun n => ?_)
    · rw [List.getD_eq_getElem?_getD, List.getElem?_set]
      by_cases e : i / 4 = j
      · subst e
        rw [if_pos rfl, if_pos (by omega)]
        show pwS b (i / 4) (i % 4 + 1) = _
        congr 1; omega
      · rw [if_neg e, ← List.getD_eq_getElem?_getD, hj j h]
        by_cases hlt : j < i / 4
        · rw [pw_ge b j _ (by omega), pw_ge b j _ (by omega)]
        · rw [show i - 4 * j = 0 by omega, show i + 1 - 4 * j = 0 by omega]
    · rw [F105_L1, decide_eq_true (by omega), iteB_t, hd4, hm4, h8, ht, int_default, toNat_nat, toNat_nat, toNat_nat, hget, or_byte _ (by omega) hst.1.1 hst.1.2 (hb.getD i), hst.2, g64 i (by omega)]
      rw [grd_t _ (by omega), grd_t _ (by omega), grd_t _ (by omega), grd_t _ (by omega), grd_t _ (by omega), grd_t _ (by omega)]
theorem ev_spread {b : List Int} (hb : Bytes b) (hl : b.length = 64) : Ev (fun n => F105 n b) (sprS b) := by
  refine (spr_loop hb hl 64 0 (List.replicate 16 0) rfl rfl fun j h => ?_).congr fun n => ?_
  · rw [List.getD_eq_getElem?_getD, List.getElem?_replicate, if_pos h, Nat.zero_sub]; rfl
  · rw [F105, grd_t _ (by omega)]; rfl
theorem sines_p (n : Nat) : F106 n = some sinesS := rfl
theorem sines_r (n : Nat) : F115 n = some sinesS := rfl
theorem sines_len : sinesS.length = 64 := rfl
def turnsI : List Int := [7, 12, 17, 22, 5, 9, 14, 20, 4, 11, 16, 23, 6, 10, 15, 21]
theorem turns_p (n : Nat) : F107 n = some turnsI := rfl
theorem turns_get (j : Nat) (h : j < 16) : turnsI.getD j 0 = ((turnsS.getD j 0 : Nat) : Int) := by
  have : ∀ j : Fin 16, turnsI.getD j.val 0 = ((turnsS.getD j.val 0 : Nat) : Int) := by decide
  exact this ⟨j, h⟩
theorem turn31 (i : Nat) (h : i < 64) : turnsS.getD (i / 16 * 4 + i % 4) 0 ≤ 31 := turns_le ⟨i, h⟩
/-- The program's rounds. -/
theorem p_loop {b : List Int} (a0 : List Int × Int) : ∀ (r i : Nat) (s : Q4), i + r = 64 → R4 s → Ev (fun n => F82_L1 n a0 (sprS b) sinesS turnsI (i : Int) s.1 s.2.1 s.2.2.1 s.2.2.2) (l4 (addS (a0.1.getD 0 0, a0.1.getD 1 0, a0.1.getD 2 0, a0.1.getD 3 0) (runS b r i s)), IntKind.wrap .u64 (a0.2 + 64))
  | 0, i, s, hi, hs => by
    refine Ev.step ((Ev.const (x := some _) rfl).congr fun n => ?_)
    rw [F82_L1, decide_eq_false (by omega), iteB_f, int_default]
    rfl
  | r + 1, i, s, hi, hs => by
    have hk := kS_le i (by omega)
    have hm : ((kS i : Nat) : Int).tmod 16 = ((kS i % 16 : Nat) : Int) := modN (kS i) 16
    have hm4 : (i : Int).tmod 4 = ((i % 4 : Nat) : Int) := modN i 4
    have hd := div16 i (by omega)
    refine Ev.step ((p_loop a0 r (i + 1) (stepS b i s) (by omega) hs.step).congr fun n => ?_)
    rw [F82_L1, decide_eq_true (by omega), iteB_t, mix_p n i (by omega) hs.2.1 hs.2.2.2, bind_some']
    show grd (0 ≤ ((kS i : Nat) : Int).tmod 16 ∧ ((kS i : Nat) : Int).tmod 16 < 16) (grd ((((kS i : Nat) : Int).tmod 16).toNat < (sprS b).length) _) = _
    rw [hm, toNat_nat, spr_len, grd_t _ (by omega), grd_t _ (by omega), grd_t _ (by omega), toNat_nat, sines_len, grd_t _ (by omega), hd, hm4, grd_t _ (by omega), grd_t _ (by omega), toNat_nat, toNat_nat, grd_t _ (by show _ < 16; omega), int_default, turns_get _ (by omega), rot_p n _ _ (turn31 i (by omega)), bind_some', g64 i (by omega), spr_get b _ (by omega)]
    rfl
theorem ev_Block {b : List Int} (hb : Bytes b) (hl : b.length = 64) (s : Q4) (hs : R4 s) (m : Int) : Ev (fun n => F82 n (l4 s, m) b) (l4 (blkS b s), IntKind.wrap .u64 (m + 64)) := by
  have ht : b.take 64 = b := List.take_of_length_le (by omega)
  refine (Ev.bind (g := fun n v => F82_L1 n (l4 s, m) v sinesS turnsI ((0 : Nat) : Int) s.1 s.2.1 s.2.2.1 s.2.2.2 |> fun x => grd (v.length = 16) x) (ev_spread hb hl) ((p_loop (b := b) (l4 s, m) 64 0 s rfl hs).congr fun n => grd_t _ (spr_len b))).congr fun n => ?_
  rw [F82, grd_t _ (by omega), ht]
  rfl
/-- The reference's. -/
theorem addu_at {x y : Int} (hx : 0 ≤ x) (hy : 0 ≤ y) (h : x + y ≤ 4294967295) : IntKind.wrap .u32 (x + y) = x + y := wu32 (by omega)
theorem shl_at (t : Nat) (ht : t < 4) {c : Int} (hc : 0 ≤ c ∧ c ≤ 255) (m : Int) (hm : p256 t = m) (hc0 : 0 ≤ c * m) (hc1 : c * m ≤ 4294967295) : IntKind.wrap .u32 (bShl .u32 (IntKind.wrap .u32 c) (8 * t)) = c * m := by
  rw [wu32 (n := c) (by omega), shl_byte t ht, hm, wu32 (by omega)]
theorem word_r {b : List Int} (hb : Bytes b) (k : Nat) :
    IntKind.wrap .u32 (IntKind.wrap .u32 (IntKind.wrap .u32 (IntKind.wrap .u32 (b.getD (4 * k) 0) + IntKind.wrap .u32 (bShl .u32 (IntKind.wrap .u32 (b.getD (4 * k + 1) 0)) 8)) + IntKind.wrap .u32 (bShl .u32 (IntKind.wrap .u32 (b.getD (4 * k + 2) 0)) 16)) + IntKind.wrap .u32 (bShl .u32 (IntKind.wrap .u32 (b.getD (4 * k + 3) 0)) 24)) = wordS b k := by
  have h0 := hb.getD (4 * k)
  have h1 := hb.getD (4 * k + 1)
  have h2 := hb.getD (4 * k + 2)
  have h3 := hb.getD (4 * k + 3)
  rw [show (8 : Nat) = 8 * 1 from rfl, show (16 : Nat) = 8 * 2 from rfl, show (24 : Nat) = 8 * 3 from rfl, shl_at 1 (by omega) h1 256 rfl (by omega) (by omega), shl_at 2 (by omega) h2 65536 rfl (by omega) (by omega), shl_at 3 (by omega) h3 16777216 rfl (by omega) (by omega), wu32 (n := b.getD (4 * k) 0) (by omega), wu32 (n := b.getD (4 * k) 0 + b.getD (4 * k + 1) 0 * 256) (by omega), wu32 (n := b.getD (4 * k) 0 + b.getD (4 * k + 1) 0 * 256 + b.getD (4 * k + 2) 0 * 65536) (by omega), wu32 (n := b.getD (4 * k) 0 + b.getD (4 * k + 1) 0 * 256 + b.getD (4 * k + 2) 0 * 65536 + b.getD (4 * k + 3) 0 * 16777216) (by omega)]
  rfl
theorem J2_r {b : List Int} (hb : Bytes b) (hl : b.length = 64) (n i k : Nat) (hi : i < 64) (hk : k ≤ 500) (a0 : List Int × Int) (a c d e f : Int) :
    F101_J2 n b (i : Int) a0 sinesS a c d e f (k : Int) = F101_L1 n b a0 sinesS ((i + 1 : Nat) : Int) e (IntKind.wrap .u32 (c + rotS (IntKind.wrap .u32 (IntKind.wrap .u32 (IntKind.wrap .u32 (a + f) + wordS b (k % 16)) + sinesS.getD i 0)) (turnsS.getD (i / 16 * 4 + i % 4) 0))) c d := by
  have hm : (k : Int).tmod 16 = ((k % 16 : Nat) : Int) := modN k 16
  have hm4 : (i : Int).tmod 4 = ((i % 4 : Nat) : Int) := modN i 4
  have hd := div16 i hi
  have e0 : IntKind.wrap .i64 ((4 : Int) * ((k % 16 : Nat) : Int)) = ((4 * (k % 16) : Nat) : Int) := by rw [w64 (by omega)]; omega
  have e1 : IntKind.wrap .i64 (((4 * (k % 16) : Nat) : Int) + 1) = ((4 * (k % 16) + 1 : Nat) : Int) := by rw [w64 (by omega)]; omega
  have e2 : IntKind.wrap .i64 (((4 * (k % 16) : Nat) : Int) + 2) = ((4 * (k % 16) + 2 : Nat) : Int) := by rw [w64 (by omega)]; omega
  have e3 : IntKind.wrap .i64 (((4 * (k % 16) : Nat) : Int) + 3) = ((4 * (k % 16) + 3 : Nat) : Int) := by rw [w64 (by omega)]; omega
  have e4 : IntKind.wrap .i64 (((i / 16 : Nat) : Int) * 4) = ((i / 16 * 4 : Nat) : Int) := by rw [w64 (by omega)]; omega
  have e5 : IntKind.wrap .i64 (((i / 16 * 4 : Nat) : Int) + ((i % 4 : Nat) : Int)) = ((i / 16 * 4 + i % 4 : Nat) : Int) := by rw [w64 (by omega)]; omega
  rw [F101_J2, hm, e0, e1, e2, e3, hd, e4, hm4, e5]
  simp only [toNat_nat, int_default]
  rw [word_r hb, grd_t _ (by omega), grd_t _ (by omega), grd_t _ (by omega), grd_t _ (by omega), grd_t _ (by omega), sines_len, grd_t _ (by omega), grd_t _ (by omega), show ([7, 12, 17, 22, 5, 9, 14, 20, 4, 11, 16, 23, 6, 10, 15, 21] : List Int) = turnsI from rfl, turns_get _ (by omega), rot_r n _ _ (turn31 i hi), bind_some', g64 i (by omega)]
theorem r_loop {b : List Int} (hb : Bytes b) (hl : b.length = 64) (a0 : List Int × Int) : ∀ (r i : Nat) (s : Q4), i + r = 64 → R4 s → Ev (fun n => F101_L1 n b a0 sinesS (i : Int) s.1 s.2.1 s.2.2.1 s.2.2.2) (l4 (addS (a0.1.getD 0 0, a0.1.getD 1 0, a0.1.getD 2 0, a0.1.getD 3 0) (runS b r i s)), IntKind.wrap .u64 (a0.2 + 64))
  | 0, i, s, hi, hs => by
    refine Ev.step ((Ev.const (x := some _) rfl).congr fun n => ?_)
    rw [F101_L1, decide_eq_false (by omega), iteB_f, int_default]
    rfl
  | r + 1, i, s, hi, hs => by
    refine Ev.step ((r_loop hb hl a0 r (i + 1) (stepS b i s) (by omega) hs.step).congr fun n => ?_)
    have hfin := J2_r hb hl n i (kS i) (by omega) (kS_le i (by omega)) a0 s.1 s.2.1 s.2.2.1 s.2.2.2 (fS i s.2.1 s.2.2.1 s.2.2.2)
    refine Eq.trans ?_ hfin
    rw [F101_L1, decide_eq_true (by omega), iteB_t, show (0 : Int) = ((0 : Nat) : Int) from rfl, show ((IntKind.wrap .i64 ((i : Int).tdiv 16)) == (1 : Int)) = decide (i / 16 = 1) from q16 i 1 (by omega), show ((IntKind.wrap .i64 ((i : Int).tdiv 16)) == (2 : Int)) = decide (i / 16 = 2) from q16 i 2 (by omega), q16 i 0 (by omega), w64 (n := 5 * (i : Int)) (by omega), w64 (n := 5 * (i : Int) + 1) (by omega), w64 (n := 3 * (i : Int)) (by omega), w64 (n := 3 * (i : Int) + 5) (by omega), w64 (n := 7 * (i : Int)) (by omega)]
    unfold fS kS
    by_cases h0 : i / 16 = 0
    · rw [if_pos h0, if_pos h0, decide_eq_true h0]; rfl
    by_cases h1 : i / 16 = 1
    · rw [if_neg h0, if_neg h0, if_pos h1, if_pos h1, decide_eq_false h0, decide_eq_true h1]
      show F101_J2 _ _ _ _ _ _ _ _ _ _ _ = _
      congr 1
    by_cases h2 : i / 16 = 2
    · rw [if_neg h0, if_neg h0, if_neg h1, if_neg h1, if_pos h2, if_pos h2, decide_eq_false h0, decide_eq_false h1, decide_eq_true h2]
      show F101_J2 _ _ _ _ _ _ _ _ _ _ _ = _
      congr 1
    · rw [if_neg h0, if_neg h0, if_neg h1, if_neg h1, if_neg h2, if_neg h2, decide_eq_false h0, decide_eq_false h1, decide_eq_false h2]
      show F101_J2 _ _ _ _ _ _ _ _ _ _ _ = _
      congr 1
theorem ev_rBlock {b : List Int} (hb : Bytes b) (hl : b.length = 64) (s : Q4) (hs : R4 s) (m : Int) : Ev (fun n => F101 n (l4 s, m) b) (l4 (blkS b s), IntKind.wrap .u64 (m + 64)) := by
  refine (r_loop hb hl (l4 s, m) 64 0 s rfl hs).congr fun n => ?_
  rw [F101, sines_r, bind_some', grd_t _ sines_len]
  rfl
end Go.Proofs.YtaiapalhdejngaaX
