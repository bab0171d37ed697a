/- Part of the proof of PolicyDenies: walks and plain words, merged. -/
import Derived.Test.YtjkfobmfddfjhaaDoorBPolicyDeniesc
import Derived.Test.YtjkfobmfddfjhaaDoorBPolicyDeniesb
import Derived.Handed
import Derived.Test.YtjkfobmfddfjhaaDoorRows
import Derived.Test.YtjkfobmfddfjhaaDoorCards
import Derived.Test.YtjkfobmfddfjhaaDoorTie
import Derived.Test.YtjkfobmfddfjhaaDoorChecked
import Derived.WalkKit
import Derived.ProofKit
import Derived.OpenShut
import Derived.Lay
import Derived.LaidMore
import Derived.LaidOnce
import Derived.SevenTiedAt
set_option linter.unusedVariables false
set_option linter.unusedSimpArgs false

set_option linter.unusedVariables false
set_option linter.unusedSimpArgs false
namespace Go.Proofs.YtjkfobmfddfjhaaDoorX
open Go Go.RowKit Go.Proofs
set_option maxRecDepth 100000
attribute [local go_sem ↓] stepsK_build stepsK_build0 stepsK_bs stepsK_bs0 appendS
attribute [local go_sem] String.reduceEq String.reduceNe reduceCtorEq Int.reduceEq Nat.reduceAdd Nat.reduceSub Nat.reduceMul Nat.reduceLT Nat.reduceLeDiff Nat.reduceEqDiff Nat.reduceBEq Int.reduceToNat Int.reduceLT Int.reduceLE Int.reduceGT Int.reduceGE Int.reduceAdd Int.reduceSub Int.reduceMul Int.reduceNeg Int.reduceBEq Int.reduceBNe Int.reducePow Int.reduceDiv Int.reduceMod Int.reduceTDiv Int.reduceTMod Int.reduceNatCast
/-! ### shadowboxlaw42.PolicyDenies -/
def F5 (n : Nat) (a0 : List ((Bool) × (List (List UInt8)) × (List (List UInt8)) × (List (List UInt8)))) (a1 : (Bool) × (List (List UInt8)) × (List (List UInt8)) × (List (List UInt8))) (a2 : List (List UInt8)) : Option (Bool) := (F11 n a0).bind fun v1 => iteB (decide ((3000 : Int) ≤ v1)) (some true) ((F11 n [(a1.1, a1.2.1, a1.2.2.1, a1.2.2.2)]).bind fun v3 => iteB (decide ((3000 : Int) ≤ v3)) (some true) (grd (0 < a2.length) (grd (1 < a2.length) (grd (2 < a2.length) (iteB (decide ((300 : Int) < (IntKind.wrap .i64 ((IntKind.wrap .i64 (((a2.getD 0 default).length : Int) + ((a2.getD 1 default).length : Int))) + ((a2.getD 2 default).length : Int))))) (some true) (grd (0 < a2.length) (grd (1 < a2.length) (grd (2 < a2.length) ((F12 n a0 (a2.getD 0 default) (a2.getD 1 default) (a2.getD 2 default)).bind fun v12 => grd (a0.length ≤ 549755813888) (grd ((a0.length + 1) ≤ 549755813888) (grd (0 < a2.length) (grd (1 < a2.length) (grd (2 < a2.length) ((F12 n (a0 ++ [(a1.1, a1.2.1, a1.2.2.1, a1.2.2.2)]) (a2.getD 0 default) (a2.getD 1 default) (a2.getD 2 default)).bind fun v18 => grd (0 < a2.length) (grd (1 < a2.length) (grd (2 < a2.length) ((F12 n ([(true, [([42] : List UInt8)], [([42] : List UInt8)], [([42] : List UInt8)])]) (a2.getD 0 default) (a2.getD 1 default) (a2.getD 2 default)).bind fun v22 => iteB a1.1 (iteB (v22 == (1 : Int)) (iteB (v18 == v12) (some true) (iteB (v12 == (0 : Int)) (some (v18 == (1 : Int))) (some false))) (some false)) (iteB (v22 == (1 : Int)) (iteB (v18 == v12) (some true) (some (v18 == (2 : Int)))) (some false)))))))))))))))))))
set_option maxHeartbeats 4000000 in
theorem F5_ok : ∀ (n : Nat) (a0 : List ((Bool) × (List (List UInt8)) × (List (List UInt8)) × (List (List UInt8)))) (a1 : (Bool) × (List (List UInt8)) × (List (List UInt8)) × (List (List UInt8))) (a2 : List (List UInt8)) (r : Bool), F5 n a0 a1 a2 = some r → FnC Tryd.prog 5 [.sl 4 false (List.map eT33 a0), .agg [.imm (.bool a1.1), .sl 1 false (List.map eS a1.2.1), .sl 1 false (List.map eS a1.2.2.1), .sl 1 false (List.map eS a1.2.2.2)], .agg (List.map eS a2)] (.imm (.bool r))
  | n, a0, a1, a2, r, h => by
    unfold F5 at h
    refine FnC.goX mixed Tryd.func5 (by kernel_rfl) rfl ?_
    simp only [Tryd.ntmps5, List.length_cons, List.length_nil, List.replicate, List.cons_append, List.nil_append, Nat.reduceAdd, Nat.reduceSub]
    refine runX_seq ?_
    refine runX_regionC fun C hC => ?_
    try simp -implicitDefEqProofs (maxSteps := 4000000) (disch := first | omega | decide | (simp only [go_sem]; omega)) only [go_sem, ↓reduceIte]
    repeat (with_reducible refine And.intro (by first | assumption | omega | (simp; done) | (simp; omega)) ?_)
    refine toEnd hC ?_
    refine endX_seq ?_
    refine runX_seq ?_
    refine runX_seq ?_
    refine runX_regionC fun C hC => ?_
    obtain ⟨v1, h1, h⟩ := bnd_some h
    try simp -implicitDefEqProofs (maxSteps := 4000000) (disch := first | omega | decide | (simp only [go_sem]; omega)) only [go_sem, ↓reduceIte]
    repeat (with_reducible refine And.intro (by first | assumption | omega | (simp; done) | (simp; omega)) ?_)
    refine callG_X (F11_ok n a0 _ h1) (by repeat (first | exact leL_refl _ | refine leL_cons (by first | exact leT_refl _ | exact leT_virt | exact leT_junk _ | exact leT_sl | exact leT_sln | exact leT_nil) ?_)) ?_
    try simp -implicitDefEqProofs (maxSteps := 4000000) (disch := first | omega | decide | (simp only [go_sem]; omega)) only [go_sem, ↓reduceIte]
    repeat (with_reducible refine And.intro (by first | assumption | omega | (simp; done) | (simp; omega)) ?_)
    rcases iteB_some h with ⟨c2, h⟩ | ⟨c2, h⟩
    · refine guardK_F c2 ?_
      try simp -implicitDefEqProofs (maxSteps := 4000000) (disch := first | omega | decide | (simp only [go_sem]; omega)) only [go_sem, ↓reduceIte]
      repeat (with_reducible refine And.intro (by first | assumption | omega | (simp; done) | (simp; omega)) ?_)
      refine toEnd hC ?_
      refine endX_seq ?_
      refine runX_condT rfl rfl ?_
      refine runX_seq ?_
      refine runX_regionC fun C hC => ?_
      try simp -implicitDefEqProofs (maxSteps := 4000000) (disch := first | omega | decide | (simp only [go_sem]; omega)) only [go_sem, ↓reduceIte]
      repeat (with_reducible refine And.intro (by first | assumption | omega | (simp; done) | (simp; omega)) ?_)
      refine toEnd hC ?_
      refine endX_seq ?_
      refine runX_ret ?_
      refine endX_seqR ?_
      refine endX_q ?_
      obtain rfl := Option.some.inj h
      show RetW _ _ _ _ _
      simp only [RetW]
      (try simp -implicitDefEqProofs (maxSteps := 4000000) (disch := first | omega | decide | (simp only [go_sem]; omega)) only [go_sem, ↓reduceIte])
      (try simp (disch := omega) only [if_pos, Nat.sub_zero])
      exact leT_refl _
    · refine guardK_T c2 ?_
      try simp -implicitDefEqProofs (maxSteps := 4000000) (disch := first | omega | decide | (simp only [go_sem]; omega)) only [go_sem, ↓reduceIte]
      repeat (with_reducible refine And.intro (by first | assumption | omega | (simp; done) | (simp; omega)) ?_)
      refine bs_go <| buildX_val ?_
      obtain ⟨v3, h3, h⟩ := bnd_some h
      try simp -implicitDefEqProofs (maxSteps := 4000000) (disch := first | omega | decide | (simp only [go_sem]; omega)) only [go_sem, ↓reduceIte]
      repeat (with_reducible refine And.intro (by first | assumption | omega | (simp; done) | (simp; omega)) ?_)
      refine callG_X (F11_ok n [(a1.1, a1.2.1, a1.2.2.1, a1.2.2.2)] _ h3) (by repeat (first | exact leL_refl _ | refine leL_cons (by first | exact leT_refl _ | exact leT_sl | exact leT_sln | (refine leT_slX (by repeat (first | exact leE_refl _ | refine leE_cons (by first | exact leT_refl _ | exact leT_sl | (refine leT_agg (by repeat (first | exact leL_refl _ | refine leL_cons (by first | exact leT_refl _ | exact leT_sl | exact leT_sln) ?_)))) ?_)) rfl)) ?_)) ?_
      try simp -implicitDefEqProofs (maxSteps := 4000000) (disch := first | omega | decide | (simp only [go_sem]; omega)) only [go_sem, ↓reduceIte]
      repeat (with_reducible refine And.intro (by first | assumption | omega | (simp; done) | (simp; omega)) ?_)
      rcases iteB_some h with ⟨c4, h⟩ | ⟨c4, h⟩
      · refine guardK_F c4 ?_
        try simp -implicitDefEqProofs (maxSteps := 4000000) (disch := first | omega | decide | (simp only [go_sem]; omega)) only [go_sem, ↓reduceIte]
        repeat (with_reducible refine And.intro (by first | assumption | omega | (simp; done) | (simp; omega)) ?_)
        refine toEnd hC ?_
        refine endX_seq ?_
        refine runX_condT rfl rfl ?_
        refine runX_seq ?_
        refine runX_regionC fun C hC => ?_
        try simp -implicitDefEqProofs (maxSteps := 4000000) (disch := first | omega | decide | (simp only [go_sem]; omega)) only [go_sem, ↓reduceIte]
        repeat (with_reducible refine And.intro (by first | assumption | omega | (simp; done) | (simp; omega)) ?_)
        refine toEnd hC ?_
        refine endX_seq ?_
        refine runX_ret ?_
        refine endX_seqR ?_
        refine endX_q ?_
        obtain rfl := Option.some.inj h
        show RetW _ _ _ _ _
        simp only [RetW]
        (try simp -implicitDefEqProofs (maxSteps := 4000000) (disch := first | omega | decide | (simp only [go_sem]; omega)) only [go_sem, ↓reduceIte])
        (try simp (disch := omega) only [if_pos, Nat.sub_zero])
        exact leT_refl _
      · refine guardK_T c4 ?_
        obtain ⟨g5, h⟩ := grd_some h
        obtain ⟨g6, h⟩ := grd_some h
        obtain ⟨g7, h⟩ := grd_some h
        try simp -implicitDefEqProofs (maxSteps := 4000000) (disch := first | omega | decide | (simp only [go_sem]; omega)) only [go_sem, ↓reduceIte]
        repeat (with_reducible refine And.intro (by first | assumption | omega | (simp; done) | (simp; omega)) ?_)
        refine toEnd hC ?_
        refine endX_seq ?_
        rcases iteB_some h with ⟨c8, h⟩ | ⟨c8, h⟩
        · refine runX_condT rfl c8 ?_
          refine runX_seq ?_
          refine runX_regionC fun C hC => ?_
          try simp -implicitDefEqProofs (maxSteps := 4000000) (disch := first | omega | decide | (simp only [go_sem]; omega)) only [go_sem, ↓reduceIte]
          repeat (with_reducible refine And.intro (by first | assumption | omega | (simp; done) | (simp; omega)) ?_)
          refine toEnd hC ?_
          refine endX_seq ?_
          refine runX_ret ?_
          refine endX_seqR ?_
          refine endX_q ?_
          obtain rfl := Option.some.inj h
          show RetW _ _ _ _ _
          simp only [RetW]
          (try simp -implicitDefEqProofs (maxSteps := 4000000) (disch := first | omega | decide | (simp only [go_sem]; omega)) only [go_sem, ↓reduceIte])
          (try simp (disch := omega) only [if_pos, Nat.sub_zero])
          exact leT_refl _
        · refine runX_condF rfl c8 ?_
          refine runX_skip ?_
          refine endX_seq ?_
          refine runX_seq ?_
          refine runX_regionC fun C hC => ?_
          obtain ⟨g9, h⟩ := grd_some h
          obtain ⟨g10, h⟩ := grd_some h
          obtain ⟨g11, h⟩ := grd_some h
          obtain ⟨v12, h12, h⟩ := bnd_some h
          try simp -implicitDefEqProofs (maxSteps := 4000000) (disch := first | omega | decide | (simp only [go_sem]; omega)) only [go_sem, ↓reduceIte]
          repeat (with_reducible refine And.intro (by first | assumption | omega | (simp; done) | (simp; omega)) ?_)
          refine callG_X (F12_ok n a0 (a2.getD 0 default) (a2.getD 1 default) (a2.getD 2 default) _ h12) (by repeat (first | exact leL_refl _ | refine leL_cons (by first | exact leT_refl _ | exact leT_virt | exact leT_junk _ | exact leT_sl | exact leT_sln | exact leT_nil) ?_)) ?_
          try simp -implicitDefEqProofs (maxSteps := 4000000) (disch := first | omega | decide | (simp only [go_sem]; omega)) only [go_sem, ↓reduceIte]
          repeat (with_reducible refine And.intro (by first | assumption | omega | (simp; done) | (simp; omega)) ?_)
          refine toEnd hC ?_
          refine endX_seq ?_
          refine runX_seq ?_
          refine runX_le (leS_pp 0 34 (.agg [.imm (.bool a1.1), .sl 1 false (List.map eS a1.2.1), .sl 1 false (List.map eS a1.2.2.1), .sl 1 false (List.map eS a1.2.2.2)]) false rfl (fun E u h => Rep.close _ _ _ (by first | rfl | (simp only [closedT]; exact closedL_map _ (fun _ => rfl) _)) h)) ?_
          simp -implicitDefEqProofs (config := { decide := true }) only [ppL, ppT, ppO, ppL_s, Own.pp, List.set_cons_zero, List.set_cons_succ, List.map_cons, List.map_nil, Option.map_some, Option.map_none, Nat.reduceMul, Nat.reduceAdd, ↓reduceIte]
          refine runX_le (leS_pp 1 25 (.agg (List.map eS a2)) false rfl (fun E u h => Rep.close _ _ _ (by first | rfl | (simp only [closedT]; exact closedL_map _ (fun _ => rfl) _)) h)) ?_
          simp -implicitDefEqProofs (config := { decide := true }) only [ppL, ppT, ppO, ppL_s, Own.pp, List.set_cons_zero, List.set_cons_succ, List.map_cons, List.map_nil, Option.map_some, Option.map_none, Nat.reduceMul, Nat.reduceAdd, ↓reduceIte]
          refine runX_draw2C mixed [3, 4, 6, 7, 8, 9, 10, 11] (by kernel_rfl) fun C hC => ?_
          try simp -implicitDefEqProofs (maxSteps := 4000000) (disch := first | omega | decide | (simp only [go_sem]; omega)) only [go_sem, ↓reduceIte]
          repeat (with_reducible refine And.intro (by first | assumption | omega | (simp; done) | (simp; omega)) ?_)
          refine buildX_val ?_
          obtain ⟨g13, h⟩ := grd_some h
          try simp -implicitDefEqProofs (maxSteps := 4000000) (disch := first | omega | decide | (simp only [go_sem]; omega)) only [go_sem, ↓reduceIte]
          repeat (with_reducible refine And.intro (by first | assumption | omega | (simp; done) | (simp; omega)) ?_)
          refine drawK2_mv ?_
          try simp -implicitDefEqProofs (maxSteps := 4000000) (disch := first | omega | decide | (simp only [go_sem]; omega)) only [go_sem, ↓reduceIte]
          repeat (with_reducible refine And.intro (by first | assumption | omega | (simp; done) | (simp; omega)) ?_)
          refine buildX_val ?_
          obtain ⟨g14, h⟩ := grd_some h
          try simp -implicitDefEqProofs (maxSteps := 4000000) (disch := first | omega | decide | (simp only [go_sem]; omega)) only [go_sem, ↓reduceIte]
          repeat (with_reducible refine And.intro (by first | assumption | omega | (simp; done) | (simp; omega)) ?_)
          refine drawK2_sh ?_
          obtain ⟨g15, h⟩ := grd_some h
          obtain ⟨g16, h⟩ := grd_some h
          obtain ⟨g17, h⟩ := grd_some h
          obtain ⟨v18, h18, h⟩ := bnd_some h
          try simp -implicitDefEqProofs (maxSteps := 4000000) (disch := first | omega | decide | (simp only [go_sem]; omega)) only [go_sem, ↓reduceIte]
          repeat (with_reducible refine And.intro (by first | assumption | omega | (simp; done) | (simp; omega)) ?_)
          refine callD2_X (F12_ok n (a0 ++ [(a1.1, a1.2.1, a1.2.2.1, a1.2.2.2)]) (a2.getD 0 default) (a2.getD 1 default) (a2.getD 2 default) _ h18) (by repeat (first | exact leL_refl _ | refine leL_cons (by first | exact leT_refl _ | exact leT_virt | exact leT_junk _ | exact leT_sl | exact leT_sln | exact leT_nil) ?_)) ?_
          try simp -implicitDefEqProofs (maxSteps := 4000000) (disch := first | omega | decide | (simp only [go_sem]; omega)) only [go_sem, ↓reduceIte]
          repeat (with_reducible refine And.intro (by first | assumption | omega | (simp; done) | (simp; omega)) ?_)
          refine toEnd hC ?_
          refine endX_seq ?_
          refine runX_seq ?_
          refine runX_regionC fun C hC => ?_
          simp only [runK_region, runK_draw, liteL, liteL2, dstsL, gL, List.getD_cons_zero, List.getD_cons_succ]
          try simp -implicitDefEqProofs (maxSteps := 4000000) (disch := first | omega | decide | (simp only [go_sem]; omega)) only [go_sem, ↓reduceIte]
          repeat (with_reducible refine And.intro (by first | assumption | omega | (simp; done) | (simp; omega)) ?_)
          refine bs_go <| buildX_val ?_
          try simp -implicitDefEqProofs (maxSteps := 4000000) (disch := first | omega | decide | (simp only [go_sem]; omega)) only [go_sem, ↓reduceIte]
          repeat (with_reducible refine And.intro (by first | assumption | omega | (simp; done) | (simp; omega)) ?_)
          refine bs_go <| buildX_val ?_
          try simp -implicitDefEqProofs (maxSteps := 4000000) (disch := first | omega | decide | (simp only [go_sem]; omega)) only [go_sem, ↓reduceIte]
          repeat (with_reducible refine And.intro (by first | assumption | omega | (simp; done) | (simp; omega)) ?_)
          refine bs_go <| buildX_val ?_
          try simp -implicitDefEqProofs (maxSteps := 4000000) (disch := first | omega | decide | (simp only [go_sem]; omega)) only [go_sem, ↓reduceIte]
          repeat (with_reducible refine And.intro (by first | assumption | omega | (simp; done) | (simp; omega)) ?_)
          refine bldG_of [.imm (.bool true), .sl 1 true (List.map eS ([([42] : List UInt8)])), .sl 1 true (List.map eS ([([42] : List UInt8)])), .sl 1 true (List.map eS ([([42] : List UInt8)]))] (by kernel_rfl) ?_
          try simp -implicitDefEqProofs (maxSteps := 4000000) (disch := first | omega | decide | (simp only [go_sem]; omega)) only [go_sem, ↓reduceIte]
          repeat (with_reducible refine And.intro (by first | assumption | omega | (simp; done) | (simp; omega)) ?_)
          refine bs_go <| buildX_val ?_
          obtain ⟨g19, h⟩ := grd_some h
          obtain ⟨g20, h⟩ := grd_some h
          obtain ⟨g21, h⟩ := grd_some h
          obtain ⟨v22, h22, h⟩ := bnd_some h
          try simp -implicitDefEqProofs (maxSteps := 4000000) (disch := first | omega | decide | (simp only [go_sem]; omega)) only [go_sem, ↓reduceIte]
          repeat (with_reducible refine And.intro (by first | assumption | omega | (simp; done) | (simp; omega)) ?_)
          refine callG_X (F12_ok n ([(true, [([42] : List UInt8)], [([42] : List UInt8)], [([42] : List UInt8)])]) (a2.getD 0 default) (a2.getD 1 default) (a2.getD 2 default) _ h22) (by repeat (first | exact leL_refl _ | refine leL_cons (by first | exact leT_refl _ | exact leT_sl | exact leT_sln | (refine leT_slX (by repeat (first | exact leE_refl _ | refine leE_cons (by first | exact leT_refl _ | exact leT_sl | (refine leT_agg (by repeat (first | exact leL_refl _ | refine leL_cons (by first | exact leT_refl _ | exact leT_sl | exact leT_sln) ?_)))) ?_)) rfl)) ?_)) ?_
          try simp -implicitDefEqProofs (maxSteps := 4000000) (disch := first | omega | decide | (simp only [go_sem]; omega)) only [go_sem, ↓reduceIte]
          repeat (with_reducible refine And.intro (by first | assumption | omega | (simp; done) | (simp; omega)) ?_)
          refine toEnd hC ?_
          refine endX_seq ?_
          refine runX_seq ?_
          refine runX_seq ?_
          refine runX_regionC fun C hC => ?_
          try simp -implicitDefEqProofs (maxSteps := 4000000) (disch := first | omega | decide | (simp only [go_sem]; omega)) only [go_sem, ↓reduceIte]
          repeat (with_reducible refine And.intro (by first | assumption | omega | (simp; done) | (simp; omega)) ?_)
          refine toEnd hC ?_
          refine endX_seq ?_
          rcases iteB_some h with ⟨c23, h⟩ | ⟨c23, h⟩
          · refine runX_condT rfl c23 ?_
            refine runX_seq ?_
            refine runX_regionC fun C hC => ?_
            try simp -implicitDefEqProofs (maxSteps := 4000000) (disch := first | omega | decide | (simp only [go_sem]; omega)) only [go_sem, ↓reduceIte]
            repeat (with_reducible refine And.intro (by first | assumption | omega | (simp; done) | (simp; omega)) ?_)
            rcases iteB_some h with ⟨c24, h⟩ | ⟨c24, h⟩
            · refine guardK_T c24 ?_
              try simp -implicitDefEqProofs (maxSteps := 4000000) (disch := first | omega | decide | (simp only [go_sem]; omega)) only [go_sem, ↓reduceIte]
              repeat (with_reducible refine And.intro (by first | assumption | omega | (simp; done) | (simp; omega)) ?_)
              rcases iteB_some h with ⟨c25, h⟩ | ⟨c25, h⟩
              · refine guardK_F c25 ?_
                try simp -implicitDefEqProofs (maxSteps := 4000000) (disch := first | omega | decide | (simp only [go_sem]; omega)) only [go_sem, ↓reduceIte]
                repeat (with_reducible refine And.intro (by first | assumption | omega | (simp; done) | (simp; omega)) ?_)
                refine toEnd hC ?_
                refine endX_seq ?_
                refine runX_ret ?_
                refine endX_seqR ?_
                refine endX_q ?_
                obtain rfl := Option.some.inj h
                show RetW _ _ _ _ _
                simp only [RetW]
                (try simp -implicitDefEqProofs (maxSteps := 4000000) (disch := first | omega | decide | (simp only [go_sem]; omega)) only [go_sem, ↓reduceIte])
                (try simp (disch := omega) only [if_pos, Nat.sub_zero])
                exact leT_refl _
              · refine guardK_T c25 ?_
                try simp -implicitDefEqProofs (maxSteps := 4000000) (disch := first | omega | decide | (simp only [go_sem]; omega)) only [go_sem, ↓reduceIte]
                repeat (with_reducible refine And.intro (by first | assumption | omega | (simp; done) | (simp; omega)) ?_)
                rcases iteB_some h with ⟨c26, h⟩ | ⟨c26, h⟩
                · refine guardK_T c26 ?_
                  try simp -implicitDefEqProofs (maxSteps := 4000000) (disch := first | omega | decide | (simp only [go_sem]; omega)) only [go_sem, ↓reduceIte]
                  repeat (with_reducible refine And.intro (by first | assumption | omega | (simp; done) | (simp; omega)) ?_)
                  refine toEnd hC ?_
                  refine endX_seq ?_
                  refine runX_ret ?_
                  refine endX_seqR ?_
                  refine endX_q ?_
                  obtain rfl := Option.some.inj h
                  show RetW _ _ _ _ _
                  simp only [RetW]
                  (try simp -implicitDefEqProofs (maxSteps := 4000000) (disch := first | omega | decide | (simp only [go_sem]; omega)) only [go_sem, ↓reduceIte])
                  (try simp (disch := omega) only [if_pos, Nat.sub_zero])
                  exact leT_refl _
                · refine guardK_F c26 ?_
                  try simp -implicitDefEqProofs (maxSteps := 4000000) (disch := first | omega | decide | (simp only [go_sem]; omega)) only [go_sem, ↓reduceIte]
                  repeat (with_reducible refine And.intro (by first | assumption | omega | (simp; done) | (simp; omega)) ?_)
                  refine toEnd hC ?_
                  refine endX_seq ?_
                  refine runX_ret ?_
                  refine endX_seqR ?_
                  refine endX_q ?_
                  obtain rfl := Option.some.inj h
                  show RetW _ _ _ _ _
                  simp only [RetW]
                  (try simp -implicitDefEqProofs (maxSteps := 4000000) (disch := first | omega | decide | (simp only [go_sem]; omega)) only [go_sem, ↓reduceIte])
                  (try simp (disch := omega) only [if_pos, Nat.sub_zero])
                  exact leT_refl _
            · refine guardK_F c24 ?_
              try simp -implicitDefEqProofs (maxSteps := 4000000) (disch := first | omega | decide | (simp only [go_sem]; omega)) only [go_sem, ↓reduceIte]
              repeat (with_reducible refine And.intro (by first | assumption | omega | (simp; done) | (simp; omega)) ?_)
              refine toEnd hC ?_
              refine endX_seq ?_
              refine runX_ret ?_
              refine endX_seqR ?_
              refine endX_q ?_
              obtain rfl := Option.some.inj h
              show RetW _ _ _ _ _
              simp only [RetW]
              (try simp -implicitDefEqProofs (maxSteps := 4000000) (disch := first | omega | decide | (simp only [go_sem]; omega)) only [go_sem, ↓reduceIte])
              (try simp (disch := omega) only [if_pos, Nat.sub_zero])
              exact leT_refl _
          · refine runX_condF rfl c23 ?_
            refine runX_skip ?_
            refine endX_seq ?_
            refine runX_seq ?_
            refine runX_regionC fun C hC => ?_
            try simp -implicitDefEqProofs (maxSteps := 4000000) (disch := first | omega | decide | (simp only [go_sem]; omega)) only [go_sem, ↓reduceIte]
            repeat (with_reducible refine And.intro (by first | assumption | omega | (simp; done) | (simp; omega)) ?_)
            rcases iteB_some h with ⟨c27, h⟩ | ⟨c27, h⟩
            · refine guardK_T c27 ?_
              try simp -implicitDefEqProofs (maxSteps := 4000000) (disch := first | omega | decide | (simp only [go_sem]; omega)) only [go_sem, ↓reduceIte]
              repeat (with_reducible refine And.intro (by first | assumption | omega | (simp; done) | (simp; omega)) ?_)
              rcases iteB_some h with ⟨c28, h⟩ | ⟨c28, h⟩
              · refine guardK_F c28 ?_
                try simp -implicitDefEqProofs (maxSteps := 4000000) (disch := first | omega | decide | (simp only [go_sem]; omega)) only [go_sem, ↓reduceIte]
                repeat (with_reducible refine And.intro (by first | assumption | omega | (simp; done) | (simp; omega)) ?_)
                refine toEnd hC ?_
                refine endX_seq ?_
                refine runX_ret ?_
                refine endX_q ?_
                obtain rfl := Option.some.inj h
                show RetW _ _ _ _ _
                simp only [RetW]
                (try simp -implicitDefEqProofs (maxSteps := 4000000) (disch := first | omega | decide | (simp only [go_sem]; omega)) only [go_sem, ↓reduceIte])
                (try simp (disch := omega) only [if_pos, Nat.sub_zero])
                exact leT_refl _
              · refine guardK_T c28 ?_
                try simp -implicitDefEqProofs (maxSteps := 4000000) (disch := first | omega | decide | (simp only [go_sem]; omega)) only [go_sem, ↓reduceIte]
                repeat (with_reducible refine And.intro (by first | assumption | omega | (simp; done) | (simp; omega)) ?_)
                refine toEnd hC ?_
                refine endX_seq ?_
                refine runX_ret ?_
                refine endX_q ?_
                obtain rfl := Option.some.inj h
                show RetW _ _ _ _ _
                simp only [RetW]
                (try simp -implicitDefEqProofs (maxSteps := 4000000) (disch := first | omega | decide | (simp only [go_sem]; omega)) only [go_sem, ↓reduceIte])
                (try simp (disch := omega) only [if_pos, Nat.sub_zero])
                exact leT_refl _
            · refine guardK_F c27 ?_
              try simp -implicitDefEqProofs (maxSteps := 4000000) (disch := first | omega | decide | (simp only [go_sem]; omega)) only [go_sem, ↓reduceIte]
              repeat (with_reducible refine And.intro (by first | assumption | omega | (simp; done) | (simp; omega)) ?_)
              refine toEnd hC ?_
              refine endX_seq ?_
              refine runX_ret ?_
              refine endX_q ?_
              obtain rfl := Option.some.inj h
              show RetW _ _ _ _ _
              simp only [RetW]
              (try simp -implicitDefEqProofs (maxSteps := 4000000) (disch := first | omega | decide | (simp only [go_sem]; omega)) only [go_sem, ↓reduceIte])
              (try simp (disch := omega) only [if_pos, Nat.sub_zero])
              exact leT_refl _
end Go.Proofs.YtjkfobmfddfjhaaDoorX

/- Shapes of arguments, as plain values. Of no program. -/
set_option linter.unusedVariables false
namespace Go.Proofs.YtjkfobmfddfjhaaDoorX
open Go Go.RowKit
theorem RepR.le {E : Env} {sz : Nat} : ∀ {l l' : List T} {c : List Value}, l.length = l'.length → (∀ i, leT anyE (l.getD i .junk) (l'.getD i .junk)) → RepR E sz l c → RepR E sz l' c
  | [], [], c, _, _, h => h
  | x :: l, y :: l', c, hl, hi, h => by
    simp only [RepR] at h ⊢
    obtain ⟨u, c', h1, h2, h3, h4⟩ := h
    exact ⟨u, c', h1, h2, by simpa using hi 0 E true u trivial (by simpa using h3), RepR.le (by simpa using hl) (fun i => by simpa using hi (i + 1)) h4⟩
  | [], _ :: _, c, hl, _, _ => by simp at hl
  | _ :: _, [], c, hl, _, _ => by simp at hl
theorem leT_slE {sz : Nat} {f : Bool} {l l' : List T} (hl : l.length = l'.length) (h : ∀ i, leT anyE (l.getD i .junk) (l'.getD i .junk)) : leT anyE (.sl sz f l) (.sl sz false l') := fun E cl v hp k => by
  simp only [Rep] at k ⊢
  obtain ⟨a, cap, c, h1, h2, h3, h4, h5⟩ := k
  exact ⟨a, cap, c, by rw [h1, hl], by rw [← hl]; exact h2, (fun h => by cases h), RepR.le hl h h4, h5⟩
theorem elems_shape {α : Type} (enc : α → T) (ok : α → Prop) : ∀ (l : List T), (∀ y ∈ l, ∃ v, leT anyE y (enc v) ∧ ok v) → ∃ vs : List α, vs.length = l.length ∧ (∀ i, leT anyE (l.getD i .junk) ((vs.map enc).getD i .junk)) ∧ ∀ v ∈ vs, ok v
  | [], _ => ⟨[], rfl, fun i => by simp [leT_refl], fun v hv => by simp at hv⟩
  | y :: l, h => by
    obtain ⟨v, h1, h2⟩ := h y (by simp)
    obtain ⟨vs, h3, h4, h5⟩ := elems_shape enc ok l fun z hz => h z (by simp [hz])
    refine ⟨v :: vs, by simp [h3], fun i => ?_, fun w hw => ?_⟩
    · cases i with
      | zero => simpa using h1
      | succ i => simpa using h4 i
    · rcases List.mem_cons.1 hw with rfl | hw
      · exact h2
      · exact h5 w hw
theorem sl_shape {α : Type} (enc : α → T) (ok : α → Prop) (l : List T) (h : ∀ y ∈ l, ∃ v, leT anyE y (enc v) ∧ ok v) {sz : Nat} {f : Bool} : ∃ vs : List α, leT anyE (.sl sz f l) (.sl sz false (vs.map enc)) ∧ vs.length = l.length ∧ ∀ v ∈ vs, ok v := by
  obtain ⟨vs, h1, h2, h3⟩ := elems_shape enc ok l h
  exact ⟨vs, leT_slE (by simp [h1]) h2, h1, h3⟩
theorem arr_shape {α : Type} (enc : α → T) (ok : α → Prop) : ∀ (l : List T), (∀ y ∈ l, ∃ v, y = enc v ∧ T.cells y = [y] ∧ ok v) → ∃ vs : List α, l.flatMap T.cells = vs.map enc ∧ vs.length = l.length ∧ ∀ v ∈ vs, ok v
  | [], _ => ⟨[], rfl, rfl, fun v hv => by simp at hv⟩
  | y :: l, h => by
    obtain ⟨v, rfl, hc, h2⟩ := h y (by simp)
    obtain ⟨vs, h3, h4, h5⟩ := arr_shape enc ok l fun z hz => h z (by simp [hz])
    refine ⟨v :: vs, by rw [List.flatMap_cons, hc, h3]; rfl, by simp [h4], fun w hw => ?_⟩
    rcases List.mem_cons.1 hw with rfl | hw
    · exact h2
    · exact h5 w hw
end Go.Proofs.YtjkfobmfddfjhaaDoorX

/- What a row's form asks, where the law needs that texts are no longer than a machine has. Of no program. -/
set_option linter.unusedVariables false
set_option linter.unusedSimpArgs false
namespace Go.Proofs.YtjkfobmfddfjhaaDoorX
open Go Go.RowKit Go.ChangeShapes Go.WideShapes

/-- A text that is an argument, or an element of an array that is one. -/
def strIn (P : Program) (t : TypeId) (x : T) (s : ByteArray) : Prop :=
  (P.underlying t = some .string ∧ x = .imm (.string s)) ∨
  (∃ (k : Nat) (e : TypeId) (l : List T) (i : Nat), P.underlying t = some (.array k e) ∧ P.underlying e = some .string ∧ P.cellsOf e = 1 ∧ x = .agg l ∧ i < k ∧ l[i]? = some (.imm (.string s)))
theorem trodAll_at {H : Type} {enc : TypeId × Value → H} {P : Program} {w : World} {base : Nat} {spare : Nat → Bool} {held : Bool} : ∀ (ts : List TypeId) (vs : List Value) (ds : List (DataW H)) (ps : List MemPlace) (xs : List T),
    DataW.TrodAll enc P w base spare held ts vs ds ps → RepL (E0 w noBan) true xs vs → ∀ (j : Nat) (t : TypeId) (x : T), ts[j]? = some t → xs[j]? = some x →
      ∃ v d p n, ds[j]? = some d ∧ DataW.trod enc P w base spare held n t v.cells.toList = some (d, p) ∧ Rep (E0 w noBan) true x v
  | [], vs, ds, ps, xs, h, hr, j, t, x, ht, hx => by simp at ht
  | t0 :: ts, vs, ds, ps, xs, h, hr, j, t, x, ht, hx => by
    obtain ⟨v, vs', d, ds', p, q, rfl, rfl, rfl, ⟨n, h1⟩, h2⟩ := trodAll_cons h
    cases xs with
    | nil => simp at hx
    | cons x0 xs =>
      simp only [RepL] at hr
      obtain ⟨v', vs'', e, h3, h4⟩ := hr
      obtain ⟨rfl, rfl⟩ := List.cons.inj e
      cases j with
      | zero =>
        simp only [List.getElem?_cons_zero, Option.some.injEq] at ht hx ⊢
        subst ht hx
        exact ⟨v, d, p, n, rfl, h1, h3⟩
      | succ j =>
        simp only [List.getElem?_cons_succ] at ht hx ⊢
        exact trodAll_at ts _ _ _ xs h2 h4 j t x ht hx
theorem weightsAll_mem {H : Type} {P : Program} {e : TypeId} {m : Nat} : ∀ {parts : List (DataW H)} {i : Nat} {d : DataW H}, parts[i]? = some d → m ∈ d.weights P e → m ∈ DataW.weightsAll P e parts
  | [], i, d, h, hm => by simp at h
  | d0 :: r, 0, d, h, hm => by
    simp only [List.getElem?_cons_zero, Option.some.injEq] at h
    subst h
    rw [DataW.weightsAll]; exact List.mem_append_left _ hm
  | d0 :: r, i + 1, d, h, hm => by
    simp only [List.getElem?_cons_succ] at h
    rw [DataW.weightsAll]; exact List.mem_append_right _ (weightsAll_mem h hm)
theorem sized_in {H : Type} {enc : TypeId × Value → H} {P : Program} {w : World} {base : Nat} {spare : Nat → Bool} {held : Bool} {n : Nat} {t : TypeId} {v : Value} {d : DataW H} {p : List MemPlace} {x : T} {s : ByteArray}
    (h1 : DataW.trod enc P w base spare held n t v.cells.toList = some (d, p)) (h3 : Rep (E0 w noBan) true x v) (hs : strIn P t x s) : s.size ∈ d.weights P t := by
  rcases hs with ⟨hu, rfl⟩ | ⟨k, e, l, i, hu, he, hc, rfl, hi, hli⟩
  · simp only [Rep] at h3
    obtain ⟨rfl, _⟩ := h3
    obtain ⟨s', e1, e2, _⟩ := DataW.trod_string hu h1
    have e3 : s' = s := by
      have : ([Value.string s] : List Value) = [.string s'] := e1
      injection this with this _
      injection this with this
      exact this.symm
    subst e3
    have e4 : d = .lit (.string s'.data.toList) := congrArg Prod.fst e2
    rw [e4]
    simp [DataW.weights]
  · simp only [Rep] at h3
    obtain ⟨cs, rfl, hl⟩ := h3
    have hgi := hl.get i undef
    have e1 : l.getD i .junk = .imm (.string s) := by rw [List.getD_eq_getElem?_getD, hli]; rfl
    rw [e1] at hgi
    simp only [Rep] at hgi
    have hlen := hl.length
    have hil : i < cs.toList.length := by rw [hlen]; exact (List.getElem?_eq_some_iff.1 hli).1
    have hcs : cs.toList[i]? = some (.string s) := by
      have := hgi.1
      rw [List.getD_eq_getElem?_getD, List.getElem?_eq_getElem hil] at this
      rw [List.getElem?_eq_getElem hil]
      exact congrArg some this
    cases n with
    | zero => unfold DataW.trod at h1; cases h1
    | succ n =>
    unfold DataW.trod at h1
    rw [hu] at h1
    have h1' : (if cs.toList.length = P.cellsOf t then ((List.range k).mapM fun i => DataW.trod enc P w base spare held n e ((cs.toList.drop (i * P.cellsOf e)).take (P.cellsOf e))).map fun xs => (DataW.agg (xs.map (·.1)), xs.flatMap (·.2)) else none) = some (d, p) := by
      have e0 : (Value.agg cs).cells.toList = cs.toList := rfl
      rw [e0] at h1
      split at h1 <;> simp_all
    clear h1
    split at h1'
    case isFalse => cases h1'
    obtain ⟨xs, hm, hx⟩ := Option.map_eq_some_iff.1 h1'
    simp only [Prod.mk.injEq] at hx
    obtain ⟨rfl, _⟩ := hx
    have hg := mapM_some_get hm i i (List.getElem?_range hi)
    have hxl := mapM_some_length hm
    rw [List.length_range] at hxl
    rw [List.getElem?_eq_getElem (by omega)] at hg
    rw [hc, Nat.mul_one] at hg
    have hone : (cs.toList.drop i).take 1 = [.string s] := by
      rw [List.drop_eq_getElem_cons hil]
      rw [List.getElem?_eq_getElem hil] at hcs
      injection hcs with hcs
      rw [hcs]; rfl
    rw [hone] at hg
    obtain ⟨s', e1, e2, _⟩ := DataW.trod_string he hg
    have e3 : s' = s := by
      injection e1 with e1 _
      injection e1 with e1
      exact e1.symm
    subst e3
    have hu' : (DataW.agg (xs.map (·.1)) : DataW H).weights P t = DataW.weightsAll P e (xs.map (·.1)) := by simp only [DataW.weights, hu]
    rw [hu']
    refine weightsAll_mem (i := i) (d := .lit (.string s'.data.toList)) ?_ (by simp [DataW.weights])
    rw [List.getElem?_map, List.getElem?_eq_getElem (by omega), e2]; rfl
theorem row_contract_sz {P : Program} {f : FuncId} {fn : Func} {s : ChangeSpec} {ts : List TypeId} {tb : TypeId} {L : List TypeId}
    (hl : laidOutB P = true) (hT : typesOk P L = true) (hp : fn.params.toList = ts) (hr : (ts.all fun t => L.contains t && P.readableRec t && decide (t < P.types.size)) = true)
    (hres : fn.resultTypes = #[tb]) (htb : P.underlying tb = some .bool) (hvars : s.vars = [])
    (hs : ∀ (H : Type) (ds : List (DataW H)), ds.length = ts.length → s.fn H ds = { results := [.lit (.bool true)], args := ds })
    (hlaw : ∀ xs, ShapesW P ts xs → (∀ (j : Nat) (t : TypeId) (x : T) (s : ByteArray), ts[j]? = some t → xs[j]? = some x → strIn P t x s → s.size ≤ reachBytes) → FnC P f xs (.imm (.bool true)))
    {H : Type} {enc : TypeId × Value → H} (W : World) (base : Nat) (args : Array Value) (ds gs : List (DataW H)) (before : List MemPlace)
    (hval : ∀ (j : Nat) t v, fn.params[j]? = some t → args[j]? = some v → Value.okWide P W .any base t v) (hW : DataW.Whole enc P fn.params.toList s.vars false W args.toList ds gs before)
    (hz : (DataW.weightsEach P (fn.params.toList ++ s.plain.varTypes P) (ds ++ gs)).all (· ≤ reachBytes) = true) :
    Calls P f args W fun e W' => ∃ v, e = .returned v ∧ s.post enc P fn false true false false W args v W' := by
  have hW' := hW
  obtain ⟨p, q, hA, hV, rfl, hfz, hnd⟩ := hW
  rw [hvars] at hV
  obtain ⟨rfl, rfl⟩ := trodVars_none hV
  rw [hp] at hA
  have hr' : ∀ t ∈ ts, t ∈ L ∧ P.readableRec t = true ∧ t < P.types.size := fun t ht => by
    have := List.all_eq_true.1 hr t ht
    simp only [Bool.and_eq_true, List.contains_iff_mem, decide_eq_true_eq] at this
    exact ⟨this.1.1, this.1.2, this.2⟩
  obtain ⟨xs, h1, h2⟩ := open_args (r := .any) (b0 := base) hT ts args.toList ds p (fun t ht => (hr' t ht).1) hA fun j t v h1 h2 => hval j t v (by rw [← hp] at h1; simpa using h1) (by simpa using h2)
  have hlen : ds.length = ts.length := trodAll_len hA
  have hsz : ∀ (j : Nat) (t : TypeId) (x : T) (s : ByteArray), ts[j]? = some t → xs[j]? = some x → strIn P t x s → s.size ≤ reachBytes := fun j t x s0 ht hx hin => by
    obtain ⟨v, d, p, n, hd, htr, hrep⟩ := trodAll_at ts args.toList ds p xs hA h2 j t x ht hx
    have hmem := sized_in htr hrep hin
    have hj : j < ds.length := (List.getElem?_eq_some_iff.1 hd).1
    have hjt : j < ts.length := (List.getElem?_eq_some_iff.1 ht).1
    have := List.all_eq_true.1 hz _ (DataW.weights_mem_each (j := j) (t := t) (by rw [hp, List.getElem?_append_left hjt]; exact ht) (by rw [List.getElem?_append_left hj]; exact hd) _ hmem)
    simpa using this
  refine ((hlaw xs h1 hsz).2 W noBan args (fun _ _ h => h.elim) h2).mono fun e W' ⟨u, he, bel, hu⟩ => ?_
  simp only [Rep, flat, and_true] at hu
  subst hu; subst he
  refine ⟨_, rfl, ds, [], p ++ [], [], p, [], hW', ?_, ?_, ?_, bel.frame _, fun h => by cases h⟩
  · rw [List.append_nil, hs H ds hlen, hres]
    have : (Value.bool true).resultList (#[tb] : Array TypeId).size = [.bool true] := by simp [Value.resultList]
    rw [this]
    exact trodAll_mk1 (shut_bool htb _)
  · rw [List.append_nil, hs H ds hlen, hp]
    exact carry_args hl bel ts _ _ _ (fun t ht => (hr' t ht).2) hA
  · rw [List.append_nil, hs H ds hlen, hvars]
    rfl
end Go.Proofs.YtjkfobmfddfjhaaDoorX

set_option linter.unusedVariables false
set_option linter.unusedSimpArgs false
namespace Go.Proofs.YtjkfobmfddfjhaaDoorX
open Go Go.RowKit Go.Proofs
set_option maxRecDepth 100000
def okT4 (v : Bool) : Prop := True
def okT9 (v : List UInt8) : Prop := v.length ≤ 9223372036854775807
def okT32 (v : List (List UInt8)) : Prop := v.length ≤ 9223372036854775807 ∧ ∀ y ∈ v, okT9 y
def okT33 (v : (Bool) × (List (List UInt8)) × (List (List UInt8)) × (List (List UInt8))) : Prop := okT4 v.1 ∧ okT32 v.2.1 ∧ okT32 v.2.2.1 ∧ okT32 v.2.2.2
def okT24 (v : List ((Bool) × (List (List UInt8)) × (List (List UInt8)) × (List (List UInt8)))) : Prop := v.length ≤ 9223372036854775807 ∧ ∀ y ∈ v, okT33 y
def okT25 (v : List (List UInt8)) : Prop := v.length = 3 ∧ ∀ y ∈ v, okT9 y
theorem shp4 : ∀ (n : Nat) (x : T), ShapeW Tryd.prog n 4 x → ∃ v : Bool, x = .imm (.bool v) ∧ okT4 v
  | 0, x, h => h.elim
  | n + 1, x, h => by
    simp only [ShapeW, Tryd.underlying4] at h
    obtain ⟨b, rfl⟩ := h
    exact ⟨b, rfl, trivial⟩
theorem shp9 : ∀ (n : Nat) (x : T), ShapeW Tryd.prog n 9 x → ∃ v : List UInt8, x = .imm (.string (bs v)) ∧ okT9 v
  | 0, x, h => h.elim
  | n + 1, x, h => by
    simp only [ShapeW, Tryd.underlying9] at h
    obtain ⟨s, rfl, hs⟩ := h
    exact ⟨s.data.toList, by rw [← of_bs], hs⟩
theorem shp32 : ∀ (n : Nat) (x : T), ShapeW Tryd.prog n 32 x → ∃ (f : Bool) (l : List T) (v : List (List UInt8)), x = .sl 1 f l ∧ leT anyE x (.sl 1 false (List.map eS v)) ∧ okT32 v
  | 0, x, h => h.elim
  | n + 1, x, h => by
    simp only [ShapeW, Tryd.underlying32] at h
    obtain ⟨f, l, rfl, hl, he⟩ := h
    rw [cz9]
    obtain ⟨v, h1, h2, h3⟩ := sl_shape eS okT9 l fun y hy => (by
      obtain ⟨v, hv, hk⟩ := shp9 n y (he y hy)
      exact ⟨v, leT_of hv, hk⟩)
    exact ⟨f, l, v, rfl, h1, by rw [h2]; exact hl, h3⟩
theorem shp34 : ∀ (n : Nat) (x : T), ShapeW Tryd.prog n 34 x → ∃ v : (Bool) × (List (List UInt8)) × (List (List UInt8)) × (List (List UInt8)), leT anyE x (.agg [.imm (.bool v.1), .sl 1 false (List.map eS v.2.1), .sl 1 false (List.map eS v.2.2.1), .sl 1 false (List.map eS v.2.2.2)]) ∧ okT33 v
  | 0, x, h => h.elim
  | n + 1, x, h => by
    simp only [ShapeW, Tryd.underlying34] at h
    obtain ⟨ys, rfl, hl, hf⟩ := h
    match ys, hl with
    | [y0, y1, y2, y3], _ =>
      have h0 := hf 0 _ y0 rfl rfl
      obtain ⟨v0, rfl, k0⟩ := shp4 n _ h0
      have h1 := hf 1 _ y1 rfl rfl
      obtain ⟨f1, l1, v1, rfl, e1, k1⟩ := shp32 n _ h1
      have h2 := hf 2 _ y2 rfl rfl
      obtain ⟨f2, l2, v2, rfl, e2, k2⟩ := shp32 n _ h2
      have h3 := hf 3 _ y3 rfl rfl
      obtain ⟨f3, l3, v3, rfl, e3, k3⟩ := shp32 n _ h3
      refine ⟨(v0, v1, v2, v3), leT_agg ?_, k0, k1, k2, k3⟩
      show leL anyE [_, _, _, _] _
      exact leL_cons (leT_refl _) (leL_cons e1 (leL_cons e2 (leL_cons e3 (leL_nil))))
theorem shp24 : ∀ (n : Nat) (x : T), ShapeW Tryd.prog n 24 x → ∃ (f : Bool) (l : List T) (v : List ((Bool) × (List (List UInt8)) × (List (List UInt8)) × (List (List UInt8)))), x = .sl 4 f l ∧ leT anyE x (.sl 4 false (List.map eT33 v)) ∧ okT24 v
  | 0, x, h => h.elim
  | n + 1, x, h => by
    simp only [ShapeW, Tryd.underlying24] at h
    obtain ⟨f, l, rfl, hl, he⟩ := h
    rw [cz34]
    obtain ⟨v, h1, h2, h3⟩ := sl_shape eT33 okT33 l fun y hy => (by
      obtain ⟨v, hv, hk⟩ := shp34 n y (he y hy)
      exact ⟨v, hv, hk⟩)
    exact ⟨f, l, v, rfl, h1, by rw [h2]; exact hl, h3⟩
theorem shp25 : ∀ (n : Nat) (x : T), ShapeW Tryd.prog n 25 x → ∃ v : List (List UInt8), x = .agg (List.map eS v) ∧ okT25 v
  | 0, x, h => h.elim
  | n + 1, x, h => by
    simp only [ShapeW, Tryd.underlying25] at h
    obtain ⟨ys, rfl, hl, he⟩ := h
    obtain ⟨v, h1, h2, h3⟩ := arr_shape eS okT9 ys fun y hy => (by
      obtain ⟨v, hv, hk⟩ := shp9 n y (he y hy)
      exact ⟨v, hv, by rw [hv]; rfl, hk⟩)
    exact ⟨v, by rw [h1], by rw [h2]; exact hl, h3⟩
theorem shapedPolicyDenies (main : ∀ (v0 : List ((Bool) × (List (List UInt8)) × (List (List UInt8)) × (List (List UInt8)))) (v1 : (Bool) × (List (List UInt8)) × (List (List UInt8)) × (List (List UInt8))) (v2 : List (List UInt8)), okT24 v0 → okT33 v1 → okT25 v2 → (∀ s ∈ v2, s.length ≤ 140737488351232) → ∃ n, F5 n v0 v1 v2 = some true) (xs : List T) (h : ShapesW Tryd.prog [24, 34, 25] xs) (hsz : ∀ (j : Nat) (t : TypeId) (x : T) (s : ByteArray), ([24, 34, 25] : List TypeId)[j]? = some t → xs[j]? = some x → strIn Tryd.prog t x s → s.size ≤ reachBytes) : FnC Tryd.prog 5 xs (tb true) := by
  obtain ⟨x0, xs0, rfl, ⟨n0, h0⟩, x1, xs1, rfl, ⟨n1, h1⟩, x2, xs2, rfl, ⟨n2, h2⟩, rfl⟩ := h
  obtain ⟨_, _, v0, _, e0, k0⟩ := shp24 _ _ h0
  obtain ⟨v1, e1, k1⟩ := shp34 _ _ h1
  obtain ⟨v2, rfl, k2⟩ := shp25 _ _ h2
  obtain ⟨N, hN⟩ := main v0 v1 v2 k0 k1 k2 (fun s hs => by
    obtain ⟨i, hi⟩ := List.mem_iff_getElem?.1 hs
    have hil := (List.getElem?_eq_some_iff.1 hi).1
    exact hsz 2 25 _ (bs s) rfl rfl (.inr ⟨_, _, _, i, Tryd.underlying25, Tryd.underlying9, by kernel_rfl, rfl, by have := k2.1; omega, by rw [List.getElem?_map, hi]; rfl⟩))
  exact (F5_ok N v0 v1 v2 true hN).le (leL_cons (e0) (leL_cons (e1) (leL_cons (leT_refl _) (leL_nil)))) (leT_refl _)

end Go.Proofs.YtjkfobmfddfjhaaDoorX

/- Plain functions with fuel: what they come to. Of no program. -/
set_option linter.unusedVariables false
set_option linter.unusedSimpArgs false
namespace Go.Proofs.YtjkfobmfddfjhaaDoorX
open Go

/-- With fuel enough the answer is this. -/
def Ev {α : Type} (f : Nat → Option α) (r : α) : Prop := ∃ N, ∀ n, N ≤ n → f n = some r
theorem Ev.pure {α : Type} {r : α} : Ev (fun _ => some r) r := ⟨0, fun _ _ => rfl⟩
theorem Ev.const {α : Type} {x : Option α} {r : α} (h : x = some r) : Ev (fun _ => x) r := ⟨0, fun _ _ => h⟩
theorem Ev.bind {α β : Type} {f : Nat → Option α} {g : Nat → α → Option β} {v : α} {r : β} (h : Ev f v) (h' : Ev (fun n => g n v) r) : Ev (fun n => (f n).bind (g n)) r := by
  obtain ⟨N, h⟩ := h
  obtain ⟨M, h'⟩ := h'
  exact ⟨max N M, fun n hn => by show (f n).bind (g n) = _; rw [h n (by omega)]; exact h' n (by omega)⟩
theorem Ev.step {α : Type} {f : Nat → Option α} {r : α} (h : Ev (fun n => f (n + 1)) r) : Ev f r := by
  obtain ⟨N, h⟩ := h
  refine ⟨N + 1, fun n hn => ?_⟩
  obtain ⟨m, rfl⟩ : ∃ m, n = m + 1 := ⟨n - 1, by omega⟩
  exact h m (by omega)
theorem Ev.congr {α : Type} {f g : Nat → Option α} {r : α} (h : Ev g r) (e : ∀ n, f n = g n) : Ev f r := by
  obtain ⟨N, h⟩ := h
  exact ⟨N, fun n hn => (e n).trans (h n hn)⟩
theorem Ev.grd {α : Type} {p : Prop} [Decidable p] {f : Nat → Option α} {r : α} (hp : p) (h : Ev f r) : Ev (fun n => grd p (f n)) r := h.congr fun n => if_pos hp
theorem Ev.ofT {α : Type} {b : Bool} {f g : Nat → Option α} {r : α} (hb : b = true) (h : Ev f r) : Ev (fun n => iteB b (f n) (g n)) r := h.congr fun n => by rw [hb]; rfl
theorem Ev.ofF {α : Type} {b : Bool} {f g : Nat → Option α} {r : α} (hb : b = false) (h : Ev g r) : Ev (fun n => iteB b (f n) (g n)) r := h.congr fun n => by rw [hb]; rfl
theorem Ev.ite {α : Type} {b : Bool} {f g : Nat → Option α} {r : α} (h1 : b = true → Ev f r) (h2 : b = false → Ev g r) : Ev (fun n => iteB b (f n) (g n)) r := by
  cases hb : b with
  | true => exact (h1 hb).congr fun n => rfl
  | false => exact (h2 hb).congr fun n => rfl
theorem iteB_t {α : Type} (x y : Option α) : iteB true x y = x := rfl
theorem iteB_f {α : Type} (x y : Option α) : iteB false x y = y := rfl
theorem grd_t {α : Type} {p : Prop} [Decidable p] (x : Option α) (h : p) : grd p x = x := if_pos h
theorem grd_True {α : Type} [Decidable True] (x : Option α) : grd True x = x := if_pos trivial
theorem bind_some' {α β : Type} (v : α) (g : α → Option β) : (some v).bind g = g v := rfl
theorem w64 {n : Int} (h : -9223372036854775808 ≤ n ∧ n ≤ 9223372036854775807) : IntKind.wrap .i64 n = n := Go.IntWalk.i64_in _ h
theorem w32 {n : Int} (h : -2147483648 ≤ n ∧ n ≤ 2147483647) : IntKind.wrap .i32 n = n := Go.IntWalk.i32_in _ h
theorem wu8 {n : Int} (h : 0 ≤ n ∧ n ≤ 255) : IntKind.wrap .u8 n = n := Go.IntWalk.u8_in _ h
theorem wu32 {n : Int} (h : 0 ≤ n ∧ n ≤ 4294967295) : IntKind.wrap .u32 n = n := Go.IntWalk.u32_in _ h
theorem wu64 {n : Int} (h : 0 ≤ n ∧ n ≤ 18446744073709551615) : IntKind.wrap .u64 n = n := Go.IntWalk.u64_in _ h
/-- Bytes as numbers. -/
theorem u8_beq (a b : UInt8) : ((a.toNat : Int) == (b.toNat : Int)) = (a == b) := by
  rw [Bool.eq_iff_iff, beq_iff_eq, beq_iff_eq]
  exact ⟨fun h => UInt8.toNat_inj.1 (by omega), fun h => by rw [h]⟩
theorem u8_lit (a : UInt8) (k : Nat) (hk : k < 256) : ((a.toNat : Int) == ((k : Nat) : Int)) = (a == UInt8.ofNat k) := by
  rw [Bool.eq_iff_iff, beq_iff_eq, beq_iff_eq]
  constructor
  · intro h
    apply UInt8.toNat_inj.1
    rw [UInt8.toNat_ofNat']
    omega
  · intro h
    subst h
    rw [UInt8.toNat_ofNat']
    omega
theorem u8_lt (a : UInt8) : (0 : Int) ≤ (a.toNat : Int) ∧ (a.toNat : Int) ≤ 255 := by
  have := a.toNat_lt; omega
theorem drop_cons {α : Type} (l : List α) (i : Nat) (d : α) (h : i < l.length) : l.drop i = l.getD i d :: l.drop (i + 1) := by
  rw [List.drop_eq_getElem_cons h, List.getD_eq_getElem?_getD, List.getElem?_eq_getElem h]; rfl
theorem toNat_nat (n : Nat) : ((n : Int)).toNat = n := rfl
end Go.Proofs.YtjkfobmfddfjhaaDoorX

/- policy.Match: what it answers. -/
set_option linter.unusedVariables false
set_option linter.unusedSimpArgs false
namespace Go.Proofs.YtjkfobmfddfjhaaDoorX
open Go

/-- A text is of a pattern. -/
def gl : List UInt8 → List UInt8 → Bool
  | [], s => s.isEmpty
  | c :: p, [] => c == 42 && gl p []
  | c :: p, d :: s => if c == 42 then gl p (d :: s) || gl (c :: p) s else (c == 63 || c == d) && gl p s
theorem gl_star_nil (p : List UInt8) : gl (42 :: p) [] = gl p [] := by simp [gl]
theorem gl_star_cons (p : List UInt8) (d : UInt8) (s : List UInt8) : gl (42 :: p) (d :: s) = (gl p (d :: s) || gl (42 :: p) s) := by simp [gl]
theorem gl_other (c : UInt8) (h : (c == 42) = false) (p : List UInt8) (d : UInt8) (s : List UInt8) : gl (c :: p) (d :: s) = ((c == 63 || c == d) && gl p s) := by simp [gl, h]
/-- A star stands for any beginning. -/
theorem gl_star (p : List UInt8) : ∀ (t s : List UInt8), gl p s = true → gl (42 :: p) (t ++ s) = true
  | [], s, h => by
    cases s with
    | nil => rw [List.nil_append, gl_star_nil]; exact h
    | cons d s => rw [List.nil_append, gl_star_cons, h]; rfl
  | d :: t, s, h => by
    rw [List.cons_append, gl_star_cons, gl_star p t s h, Bool.or_true]
theorem gl_star_iff (p : List UInt8) : ∀ (s : List UInt8), gl (42 :: p) s = true → ∃ t u, s = t ++ u ∧ gl p u = true
  | [], h => ⟨[], [], rfl, by rw [gl_star_nil] at h; exact h⟩
  | d :: s, h => by
    rw [gl_star_cons, Bool.or_eq_true] at h
    rcases h with h | h
    · exact ⟨[], _, rfl, h⟩
    · obtain ⟨t, u, e, h2⟩ := gl_star_iff p s h
      exact ⟨d :: t, u, by rw [e]; rfl, h2⟩
theorem gl_self_app : ∀ (u p t : List UInt8), gl p t = true → gl (u ++ p) (u ++ t) = true
  | [], p, t, h => h
  | c :: u, p, t, h => by
    have ih := gl_self_app u p t h
    rw [List.cons_append, List.cons_append]
    by_cases hc : c = 42
    · subst hc
      have := gl_star (u ++ p) [42] (u ++ t) ih
      simpa using this
    · rw [gl_other c (by simpa using hc), ih]; simp
theorem gl_self (s : List UInt8) : gl s s = true := by
  have := gl_self_app s [] [] (by simp [gl])
  simpa using this
theorem gl_marks : ∀ (s : List UInt8), gl (List.replicate s.length 63) s = true
  | [] => by simp [gl]
  | d :: s => by
    rw [List.length_cons, List.replicate_succ, gl_other 63 (by decide), gl_marks s]; rfl
/-- Each sign but a star needs a byte. -/
def needs (p : List UInt8) : Nat := (p.filter (· != 42)).length
theorem gl_needs : ∀ (p s : List UInt8), gl p s = true → needs p ≤ s.length
  | [], s, h => by simp [needs]
  | c :: p, [], h => by
    simp only [gl, Bool.and_eq_true, beq_iff_eq] at h
    obtain ⟨rfl, h⟩ := h
    have := gl_needs p [] h
    simpa [needs] using this
  | c :: p, d :: s, h => by
    by_cases hc : c = 42
    · subst hc
      rw [gl_star_cons, Bool.or_eq_true] at h
      rcases h with h | h
      · have := gl_needs p (d :: s) h
        simpa [needs] using this
      · have := gl_needs (42 :: p) s h
        rw [List.length_cons]; omega
    · rw [gl_other c (by simpa using hc), Bool.and_eq_true] at h
      have := gl_needs p s h.2
      have e : needs (c :: p) = needs p + 1 := by simp [needs, hc]
      rw [e, List.length_cons]; omega
termination_by p s => p.length + s.length
decreasing_by all_goals (subst_vars; simp only [List.length_cons]; omega)
/-- A part of a pattern without stars, and a text of it. -/
def seg : List UInt8 → List UInt8 → Bool
  | [], [] => true
  | c :: p, d :: s => c != 42 && (c == 63 || c == d) && seg p s
  | _, _ => false
theorem seg_len : ∀ {p s : List UInt8}, seg p s = true → p.length = s.length
  | [], [], _ => rfl
  | c :: p, d :: s, h => by
    simp only [seg, Bool.and_eq_true] at h
    simp [seg_len h.2]
  | [], _ :: _, h => by simp [seg] at h
  | _ :: _, [], h => by simp [seg] at h
theorem seg_needs : ∀ {p s : List UInt8}, seg p s = true → ∀ r, needs (p ++ r) = p.length + needs r
  | [], [], _, r => by simp
  | c :: p, d :: s, h, r => by
    simp only [seg, Bool.and_eq_true, bne_iff_ne, ne_eq] at h
    have := seg_needs h.2 r
    have e : needs (c :: p ++ r) = needs (p ++ r) + 1 := by simp [needs, h.1.1]
    rw [e, this, List.length_cons]; omega
  | [], _ :: _, h, r => by simp [seg] at h
  | _ :: _, [], h, r => by simp [seg] at h
theorem seg_gl : ∀ {p s : List UInt8}, seg p s = true → ∀ r t, gl (p ++ r) (s ++ t) = gl r t
  | [], [], _, r, t => rfl
  | c :: p, d :: s, h, r, t => by
    simp only [seg, Bool.and_eq_true, bne_iff_ne, ne_eq] at h
    rw [List.cons_append, List.cons_append, gl_other c (by simpa using h.1.1), seg_gl h.2 r t]
    have := h.1.2
    rw [this]; rfl
  | [], _ :: _, h, r, t => by simp [seg] at h
  | _ :: _, [], h, r, t => by simp [seg] at h
theorem gl_seg_any : ∀ {p s : List UInt8}, seg p s = true → ∀ r u, gl (p ++ r) u = true → ∃ a b, u = a ++ b ∧ a.length = p.length ∧ gl r b = true
  | [], [], _, r, u, h => ⟨[], u, rfl, rfl, h⟩
  | c :: p, d :: s, hs, r, u, h => by
    simp only [seg, Bool.and_eq_true, bne_iff_ne, ne_eq] at hs
    cases u with
    | nil => simp [gl, hs.1.1] at h
    | cons x u =>
      rw [List.cons_append, gl_other c (by simpa using hs.1.1), Bool.and_eq_true] at h
      obtain ⟨a, b, rfl, h1, h2⟩ := gl_seg_any hs.2 r u h.2
      exact ⟨x :: a, b, rfl, by simp [h1], h2⟩
  | [], _ :: _, hs, r, u, h => by simp [seg] at hs
  | _ :: _, [], hs, r, u, h => by simp [seg] at hs
theorem seg_snoc : ∀ {p s : List UInt8}, seg p s = true → ∀ c d, c ≠ 42 → (c == 63 || c == d) = true → seg (p ++ [c]) (s ++ [d]) = true
  | [], [], _, c, d, h1, h2 => by simp only [List.nil_append, seg, Bool.and_true, Bool.and_eq_true, bne_iff_ne, ne_eq]; exact ⟨h1, h2⟩
  | a :: p, b :: s, h, c, d, h1, h2 => by
    simp only [seg, Bool.and_eq_true] at h
    simp only [List.cons_append, seg, Bool.and_eq_true]
    exact ⟨h.1, seg_snoc h.2 c d h1 h2⟩
  | [], _ :: _, h, c, d, h1, h2 => by simp [seg] at h
  | _ :: _, [], h, c, d, h1, h2 => by simp [seg] at h
/-- The last star can be moved. -/
theorem star_move {q s : List UInt8} (h : seg q s = true) (r t : List UInt8) : gl (42 :: (q ++ 42 :: r)) (s ++ t) = gl (42 :: r) t := by
  rw [Bool.eq_iff_iff]
  constructor
  · intro h1
    obtain ⟨a, b, e, h2⟩ := gl_star_iff _ _ h1
    obtain ⟨c, d, rfl, h3, h4⟩ := gl_seg_any h _ _ h2
    obtain ⟨f, g, rfl, h5⟩ := gl_star_iff _ _ h4
    -- t ends as (f ++ g)
    have hl := seg_len h
    have e2 : s ++ t = (a ++ c ++ f) ++ g := by rw [e]; simp
    have ht : t = (a ++ c ++ f).drop s.length ++ g := by
      have := congrArg (List.drop s.length) e2
      rw [List.drop_left, List.drop_append_of_le_length (by simp; omega)] at this
      exact this
    rw [ht]
    exact gl_star _ _ _ h5
  · intro h1
    have := gl_star (q ++ 42 :: r) [] (s ++ t) (by rw [seg_gl h]; exact h1)
    simpa using this
theorem star_next {q s : List UInt8} (h : seg q s = true) (r : List UInt8) (d : UInt8) (t : List UInt8) (hf : gl r (d :: t) = false) (x : UInt8) (u : List UInt8) (hx : s ++ d :: t = x :: u) : gl (42 :: (q ++ r)) (x :: u) = gl (42 :: (q ++ r)) u := by
  rw [gl_star_cons, ← hx, seg_gl h, hf, Bool.false_or]
theorem star_end {q s : List UInt8} (h : seg q s = true) (r : List UInt8) : gl (42 :: (q ++ r)) s = r.all (· == 42) := by
  rw [Bool.eq_iff_iff]
  constructor
  · intro h1
    obtain ⟨a, b, rfl, h2⟩ := gl_star_iff _ _ h1
    have h3 := gl_needs _ _ h2
    rw [seg_needs h] at h3
    have hl := seg_len h
    rw [List.length_append] at hl
    have h4 : needs r = 0 := by omega
    unfold needs at h4
    have h5 := List.filter_eq_nil_iff.1 (List.eq_nil_of_length_eq_zero h4)
    exact List.all_eq_true.2 fun x hx => by simpa using h5 x hx
  · intro h1
    have hr : ∀ r : List UInt8, r.all (· == 42) = true → gl r [] = true := by
      intro r
      induction r with
      | nil => intro _; simp [gl]
      | cons c r ih =>
        intro h
        rw [List.all_cons, Bool.and_eq_true] at h
        simp only [gl, Bool.and_eq_true]
        exact ⟨h.1, ih h.2⟩
    have := gl_star (q ++ r) [] s (by have := seg_gl h r []; rw [List.append_nil] at this; rw [this]; exact hr r h1)
    simpa using this
theorem gl_nil_all : ∀ r : List UInt8, gl r [] = r.all (· == 42)
  | [] => by simp [gl]
  | c :: r => by simp only [gl, List.all_cons, gl_nil_all r]

/-! ### strings.Trim of a star -/
theorem ev_trimL (s : List UInt8) : Ev (fun n => F64_L1 n 42 s) (s.dropWhile (· == 42)) := by
  induction s with
  | nil => exact Ev.step (Ev.const rfl)
  | cons c s ih =>
    refine Ev.step ?_
    by_cases hc : c = 42
    · subst hc
      rw [List.dropWhile_cons_of_pos (by decide)]
      refine ih.congr fun n => ?_
      simp only [F64_L1]
      rw [show (decide ((0 : Int) < ((42 :: s : List UInt8).length : Int))) = true by simp, iteB_t, grd_t _ (by simp only [List.length_cons]; omega), grd_t _ (by simp only [List.length_cons]; omega)]
      rfl
    · rw [List.dropWhile_cons_of_neg (by simpa using hc)]
      refine Ev.pure.congr fun n => ?_
      simp only [F64_L1]
      rw [show (decide ((0 : Int) < ((c :: s : List UInt8).length : Int))) = true by simp, iteB_t, grd_t _ (by simp only [List.length_cons]; omega)]
      have : ((((c :: s).getD (0 : Int).toNat 0).toNat : Int) == 42) = false := by
        have := u8_lit c 42 (by omega)
        show ((c.toNat : Int) == 42) = false
        rw [show (42 : Int) = ((42 : Nat) : Int) from rfl, this]
        simpa using hc
      rw [this]; rfl
theorem ev_trimR (s : List UInt8) (hb : s.length ≤ 9223372036854775807) : ∃ r, Ev (fun n => F65_L1 n 42 s) r ∧ (∃ t, s = r ++ t ∧ t.all (· == 42) = true) ∧ (∀ c t, r = t ++ [c] → c ≠ 42) := by
  generalize hn : s.length = n
  induction n generalizing s with
  | zero =>
    obtain rfl := List.eq_nil_of_length_eq_zero hn
    exact ⟨[], Ev.step (Ev.const rfl), ⟨[], rfl, rfl⟩, fun c t h => by simp at h⟩
  | succ n ih =>
    obtain ⟨t, c, rfl⟩ : ∃ t c, s = t ++ [c] := by
      rcases List.eq_nil_or_concat s with h | ⟨t, c, h⟩
      · rw [h] at hn; cases hn
      · exact ⟨t, c, by simpa using h⟩
    have hl : (t ++ [c]).length = t.length + 1 := by simp
    have hbig : t.length + 1 ≤ 9223372036854775807 := by rw [hl] at hb; exact hb
    have hw : IntKind.wrap .i64 (((t ++ [c]).length : Int) - 1) = (t.length : Int) := by rw [hl, w64 (by omega)]; omega
    have hd : decide ((0 : Int) < ((t ++ [c]).length : Int)) = true := decide_eq_true (by rw [hl]; omega)
    have hg : (t ++ [c]).getD t.length 0 = c := by simp [List.getD_eq_getElem?_getD]
    by_cases hc : c = 42
    · subst hc
      obtain ⟨r, h1, ⟨u, h2, h3⟩, h4⟩ := ih t (by omega) (by rw [hl] at hn; omega)
      refine ⟨r, Ev.step (h1.congr fun m => ?_), ⟨u ++ [42], by rw [h2]; simp, by rw [List.all_append, h3]; rfl⟩, h4⟩
      simp only [F65_L1, hw, hd, iteB_t]
      rw [grd_t _ (by rw [hl]; omega), grd_t _ (by rw [hl]; omega), toNat_nat, hg, List.take_left]
      rfl
    · refine ⟨t ++ [c], Ev.step (Ev.pure.congr fun m => ?_), ⟨[], by simp, rfl⟩, fun d u h => ?_⟩
      · simp only [F65_L1, hw, hd, iteB_t]
        rw [grd_t _ (by rw [hl]; omega), toNat_nat, hg]
        have : ((c.toNat : Int) == 42) = false := by
          rw [show (42 : Int) = ((42 : Nat) : Int) from rfl, u8_lit c 42 (by omega)]; simpa using hc
        rw [this]; rfl
      · have := List.append_inj_right' h rfl
        simp at this
        rw [← this]; exact hc
theorem dropWhile_nil {p : UInt8 → Bool} : ∀ l : List UInt8, l.dropWhile p = [] ↔ ∀ x ∈ l, p x = true
  | [] => by simp
  | c :: l => by
    by_cases h : p c = true
    · rw [List.dropWhile_cons_of_pos h, dropWhile_nil l]; simp [h]
    · rw [List.dropWhile_cons_of_neg h]; simp [h]
theorem ev_Trim (s : List UInt8) (hb : s.length ≤ 9223372036854775807) : ∃ r, Ev (fun n => F30 n s [42]) r ∧ (r == []) = s.all (· == 42) := by
  cases s with
  | nil => exact ⟨[], Ev.const rfl, rfl⟩
  | cons c s =>
    obtain ⟨r, h1, ⟨u, h2, h3⟩, h4⟩ := ev_trimR (c :: s) hb
    refine ⟨r.dropWhile (· == 42), ?_, ?_⟩
    · have e : ∀ n, F30 n (c :: s) [42] = (F65_L1 n 42 (c :: s)).bind fun v => (F64_L1 n 42 v).bind fun w => some w := fun n => by simp [F30, F64, F65, iteB_t, iteB_f, grd]
      refine Ev.congr ?_ e
      exact Ev.bind (g := fun n v => (F64_L1 n 42 v).bind fun w => some w) h1 (Ev.bind (g := fun n w => some w) (ev_trimL r) Ev.pure)
    · rw [h2, List.all_append, h3, Bool.and_true, Bool.eq_iff_iff, beq_iff_eq]
      constructor
      · intro h
        refine List.all_eq_true.2 fun x hx => ?_
        have := (dropWhile_nil _).1 h x hx
        exact this
      · intro h
        exact (dropWhile_nil _).2 fun x hx => List.all_eq_true.1 h x hx

/-! ### Match -/
def M10 (m n star frm p k : Nat) : Nat := (n - frm) * (m + n + 2) + (n - k) + (m - p)
theorem all42 : ∀ r : List UInt8, gl r [] = r.all (· == 42) := gl_nil_all
/-- The head of the loop: with a last star, or without. -/
def mInv (P S : List UInt8) (star frm : Int) (p k : Nat) : Prop :=
  p ≤ P.length ∧ k ≤ S.length ∧ ((star = -1 ∧ frm = 0 ∧ gl P S = gl (P.drop p) (S.drop k)) ∨
  ∃ (st fr : Nat) (q s : List UInt8), star = st ∧ frm = fr ∧ st < p ∧ fr ≤ k ∧ q.length = p - (st + 1) ∧ s.length = k - fr ∧ P.drop (st + 1) = q ++ P.drop p ∧ S.drop fr = s ++ S.drop k ∧ seg q s = true ∧ gl P S = gl (42 :: P.drop (st + 1)) (S.drop fr))
def frN (frm : Int) : Nat := frm.toNat
set_option maxHeartbeats 1000000 in
theorem ev_loop (P S : List UInt8) (hP : P.length ≤ 1000000) (hS : S.length ≤ 1000000) : ∀ (M : Nat) (star frm : Int) (p k : Nat), (S.length - frm.toNat) * (P.length + S.length + 2) + (S.length - k) + (P.length - p) ≤ M → mInv P S star frm p k →
    Ev (fun n => F10_L1 n P S star frm (p : Int) (k : Int)) (gl P S) := by
  intro M
  induction M using Nat.strongRecOn with
  | _ M ih =>
    intro star frm p k hM hI
    obtain ⟨hp, hk, hI⟩ := hI
    refine Ev.step ?_
    by_cases hkn : k < S.length
    · have d1 : decide ((k : Int) < (S.length : Int)) = true := decide_eq_true (by omega)
      have hSk := drop_cons S k 0 hkn
      have gk : (0 ≤ (k : Int) ∧ (k : Int) < (S.length : Int)) := by omega
      have wk : IntKind.wrap .i64 ((k : Int) + 1) = ((k + 1 : Nat) : Int) := by rw [w64 (by omega)]; omega
      have wp : IntKind.wrap .i64 ((p : Int) + 1) = ((p + 1 : Nat) : Int) := by rw [w64 (by omega)]; omega
      -- the way back to the last star
      have back : ∀ (f : Nat → Option Bool), gl (P.drop p) (S.drop k) = false → (∀ n, f n = iteB (decide ((0 : Int) ≤ star)) (F10_L1 n P S star (IntKind.wrap .i64 (frm + 1)) (IntKind.wrap .i64 (star + 1)) (IntKind.wrap .i64 (frm + 1))) (some false)) → Ev f (gl P S) := by
        intro f hf he
        refine Ev.congr ?_ he
        rcases hI with ⟨h1, h2, h3⟩ | ⟨st, fr, q, s, h1, h2, h3, h4, h5, h6, h7, h8, h9, h10⟩
        · subst h1
          rw [h3, hf]
          exact Ev.ofF (by decide) Ev.pure
        · subst h1 h2
          refine Ev.ofT (decide_eq_true (by omega)) ?_
          have w1 : IntKind.wrap .i64 ((fr : Int) + 1) = ((fr + 1 : Nat) : Int) := by rw [w64 (by omega)]; omega
          have w2 : IntKind.wrap .i64 ((st : Int) + 1) = ((st + 1 : Nat) : Int) := by rw [w64 (by omega)]; omega
          rw [w1, w2]
          have hfr : fr < S.length := by omega
          have hSf := drop_cons S fr 0 hfr
          refine ih _ ?_ _ _ _ _ (Nat.le_refl _) ⟨by omega, by omega, .inr ⟨st, fr + 1, [], [], rfl, rfl, by omega, by omega, by simp, by simp, rfl, rfl, rfl, ?_⟩⟩
          · have e1 : S.length - ((fr : Nat) : Int).toNat = (S.length - (fr + 1)) + 1 := by rw [toNat_nat]; omega
            have e2 : S.length - ((fr + 1 : Nat) : Int).toNat = S.length - (fr + 1) := by rw [toNat_nat]
            rw [e1, Nat.add_mul, Nat.one_mul] at hM
            rw [e2]
            generalize (S.length - (fr + 1)) * (P.length + S.length + 2) = A at hM ⊢
            omega
          · rw [h10, h7, hSf]
            rw [hSk] at hf
            exact star_next h9 _ _ _ hf _ _ (by rw [← hSk, ← h8, hSf])
      by_cases hpm : p < P.length
      · have d2 : decide ((p : Int) < (P.length : Int)) = true := decide_eq_true (by omega)
        have hPp := drop_cons P p 0 hpm
        have gp : (0 ≤ (p : Int) ∧ (p : Int) < (P.length : Int)) := by omega
        have c42 : (((P.getD p 0).toNat : Int) == 42) = (P.getD p 0 == 42) := u8_lit _ 42 (by omega)
        have c63 : (((P.getD p 0).toNat : Int) == 63) = (P.getD p 0 == 63) := u8_lit _ 63 (by omega)
        have cc : (((P.getD p 0).toNat : Int) == ((S.getD k 0).toNat : Int)) = (P.getD p 0 == S.getD k 0) := u8_beq _ _
        generalize hc : P.getD p 0 = c at *
        generalize hd : S.getD k 0 = d at *
        have step : ∀ {x y : Nat}, c ≠ 42 → (c == 63 || c == d) = true → Ev (fun n => F10_L1 n P S star frm ((p + 1 : Nat) : Int) ((k + 1 : Nat) : Int)) (gl P S) := by
          intro _ _ hc1 hc2
          refine ih _ ?_ _ _ _ _ (Nat.le_refl _) ⟨by clear hI; omega, by clear hI; omega, ?_⟩
          · clear hI
            generalize (S.length - frm.toNat) * (P.length + S.length + 2) = A at hM ⊢
            omega
          · have hone : gl (c :: P.drop (p + 1)) (d :: S.drop (k + 1)) = gl (P.drop (p + 1)) (S.drop (k + 1)) := by rw [gl_other c (by simpa using hc1), hc2]; rfl
            rcases hI with ⟨h1, h2, h3⟩ | ⟨st, fr, q, s, h1, h2, h3, h4, h5, h6, h7, h8, h9, h10⟩
            · exact .inl ⟨h1, h2, by rw [h3, hPp, hSk, hone]⟩
            · exact .inr ⟨st, fr, q ++ [c], s ++ [d], h1, h2, by omega, by omega, by simp; omega, by simp; omega, by rw [h7, hPp]; simp, by rw [h8, hSk]; simp, seg_snoc h9 _ _ hc1 hc2, h10⟩
        by_cases hstar : c = 42
        · -- a star
          have b1 : (c == 42) = true := by simpa using hstar
          have : Ev (fun n => F10_L1 n P S (p : Int) (k : Int) ((p + 1 : Nat) : Int) (k : Int)) (gl P S) := by
            refine ih _ ?_ _ _ _ _ (Nat.le_refl _) ⟨by clear hI; omega, hk, .inr ⟨p, k, [], [], rfl, rfl, by omega, Nat.le_refl _, by simp, by simp, rfl, rfl, rfl, ?_⟩⟩
            · have : frm.toNat ≤ k := by
                rcases hI with ⟨h1, h2, h3⟩ | ⟨st, fr, q, s, h1, h2, h3, h4, _⟩
                · rw [h2]; exact Nat.zero_le _
                · rw [h2]; exact h4
              clear hI
              have := Nat.mul_le_mul_right (P.length + S.length + 2) (show S.length - ((k : Nat) : Int).toNat ≤ S.length - frm.toNat by rw [toNat_nat]; omega)
              generalize (S.length - frm.toNat) * (P.length + S.length + 2) = A at hM this
              generalize (S.length - ((k : Nat) : Int).toNat) * (P.length + S.length + 2) = B at this ⊢
              omega
            · subst hstar
              rcases hI with ⟨h1, h2, h3⟩ | ⟨st, fr, q, s, h1, h2, h3, h4, h5, h6, h7, h8, h9, h10⟩
              · rw [h3, hPp]
              · rw [h10, h7, h8, hPp]; exact star_move h9 _ _
          refine this.congr fun n => ?_
          simp only [F10_L1, d1, d2, iteB_t, toNat_nat, hc, hd, c42, b1, wp]
          rw [grd_t _ gp]
        · have b1 : (c == 42) = false := by simpa using hstar
          by_cases hq : c = 63
          · have b2 : (c == 63) = true := by simpa using hq
            refine (step (x := 0) (y := 0) hstar (by rw [b2]; rfl)).congr fun n => ?_
            simp only [F10_L1, d1, d2, iteB_t, iteB_f, toNat_nat, hc, hd, c42, b1, c63, b2, wp, wk]
            rw [grd_t _ gp, grd_t _ gp]
          · have b2 : (c == 63) = false := by simpa using hq
            by_cases he : c = d
            · have b3 : (c == d) = true := by simpa using he
              refine (step (x := 0) (y := 0) hstar (by rw [b3, Bool.or_true])).congr fun n => ?_
              simp only [F10_L1, d1, d2, iteB_t, iteB_f, toNat_nat, hc, hd, c42, b1, c63, b2, cc, b3, wp, wk]
              rw [grd_t _ gp, grd_t _ gp, grd_t _ gp, grd_t _ gk]
            · have b3 : (c == d) = false := by simpa using he
              refine back _ (by rw [hPp, hSk, gl_other c b1, b2, b3]; rfl) fun n => ?_
              simp only [F10_L1, d1, d2, iteB_t, iteB_f, toNat_nat, hc, hd, c42, b1, c63, b2, cc, b3, wp, wk]
              rw [grd_t _ gp, grd_t _ gp, grd_t _ gp, grd_t _ gk]
      · have d2 : decide ((p : Int) < (P.length : Int)) = false := decide_eq_false (by omega)
        refine back _ (by rw [List.drop_of_length_le (by omega), hSk]; simp [gl]) fun n => ?_
        simp only [F10_L1, d1, d2, iteB_t, iteB_f]
    · -- at the end of the text
      obtain rfl : k = S.length := by omega
      have d1 : decide ((S.length : Int) < (S.length : Int)) = false := decide_eq_false (by omega)
      obtain ⟨r, hr, hre⟩ := ev_Trim (P.drop p) (by simp; omega)
      have hres : gl P S = (r == []) := by
        rw [hre]
        rcases hI with ⟨h1, h2, h3⟩ | ⟨st, fr, q, s, h1, h2, h3, h4, h5, h6, h7, h8, h9, h10⟩
        · rw [h3, List.drop_length, gl_nil_all]
        · rw [List.drop_length, List.append_nil] at h8
          rw [h10, h7, h8]; exact star_end h9 _
      rw [hres]
      have hg : (0 ≤ (p : Int) ∧ (p : Int) ≤ (P.length : Int)) := by omega
      refine Ev.congr (Ev.bind (g := fun n v => some (v == [])) hr Ev.pure) fun n => ?_
      simp only [F10_L1, d1, iteB_f, toNat_nat]
      rw [grd_t _ hg]
theorem ev_Match (P S : List UInt8) (hP : P.length ≤ 1000000) (hS : S.length ≤ 1000000) : Ev (fun n => F10 n P S) (gl P S) :=
  ev_loop P S hP hS _ (-1) 0 0 0 (Nat.le_refl _) ⟨Nat.zero_le _, Nat.zero_le _, .inl ⟨rfl, rfl, rfl⟩⟩
end Go.Proofs.YtjkfobmfddfjhaaDoorX

/- Patterns, from their end. -/
set_option linter.unusedVariables false
set_option linter.unusedSimpArgs false
namespace Go.Proofs.YtjkfobmfddfjhaaDoorX
open Go

theorem gl_app (q : List UInt8) : ∀ (p s : List UInt8), gl (p ++ q) s = true ↔ ∃ t u, s = t ++ u ∧ gl p t = true ∧ gl q u = true
  | [], s => by
    constructor
    · intro h; exact ⟨[], s, rfl, by simp [gl], h⟩
    · rintro ⟨t, u, rfl, h1, h2⟩
      have : t = [] := by simpa [gl] using h1
      subst this; exact h2
  | c :: p, s => by
    by_cases hc : c = 42
    · subst hc
      constructor
      · intro h
        obtain ⟨t, u, rfl, h2⟩ := gl_star_iff _ _ h
        obtain ⟨t', u', rfl, h3, h4⟩ := (gl_app q p u).1 h2
        exact ⟨t ++ t', u', by simp, gl_star p t t' h3, h4⟩
      · rintro ⟨t, u, rfl, h1, h2⟩
        obtain ⟨a, b, rfl, h3⟩ := gl_star_iff _ _ h1
        rw [List.append_assoc]
        exact gl_star _ a _ ((gl_app q p (b ++ u)).2 ⟨b, u, rfl, h3, h2⟩)
    · have hc' : (c == 42) = false := by simpa using hc
      cases s with
      | nil =>
        constructor
        · intro h; simp [gl, hc] at h
        · rintro ⟨t, u, h0, h1, h2⟩
          obtain ⟨rfl, rfl⟩ := List.append_eq_nil_iff.1 h0.symm
          simp [gl, hc] at h1
      | cons d s =>
        rw [List.cons_append, gl_other c hc', Bool.and_eq_true, gl_app q p s]
        constructor
        · rintro ⟨h1, t, u, rfl, h2, h3⟩
          exact ⟨d :: t, u, rfl, by rw [gl_other c hc', h1, h2]; rfl, h3⟩
        · rintro ⟨t, u, h0, h1, h2⟩
          cases t with
          | nil => simp [gl, hc] at h1
          | cons x t =>
            rw [List.cons_append, List.cons.injEq] at h0
            obtain ⟨rfl, rfl⟩ := h0
            rw [gl_other c hc', Bool.and_eq_true] at h1
            exact ⟨h1.1, t, u, rfl, h1.2, h2⟩
theorem gl_one_star (u : List UInt8) : gl [42] u = true := by
  have := gl_star [] u [] (by simp [gl])
  simpa using this
theorem gl_one {c : UInt8} (hc : (c == 42) = false) (u : List UInt8) : gl [c] u = true ↔ ∃ d, u = [d] ∧ (c == 63 || c == d) = true := by
  have hc' : c ≠ 42 := by simpa using hc
  cases u with
  | nil =>
    constructor
    · intro h; simp [gl, hc'] at h
    · rintro ⟨d, h, _⟩; cases h
  | cons d u =>
    rw [gl_other c hc, Bool.and_eq_true]
    constructor
    · rintro ⟨h1, h2⟩
      have : u = [] := by simpa [gl] using h2
      subst this; exact ⟨d, rfl, h1⟩
    · rintro ⟨x, h, h1⟩
      rw [List.cons.injEq] at h
      obtain ⟨rfl, rfl⟩ := h
      exact ⟨h1, by simp [gl]⟩
theorem gl_end_star_nil (p : List UInt8) : gl (p ++ [42]) [] = gl p [] := by
  rw [Bool.eq_iff_iff, gl_app]
  constructor
  · rintro ⟨t, u, h0, h1, h2⟩
    obtain ⟨rfl, rfl⟩ := List.append_eq_nil_iff.1 h0.symm
    exact h1
  · intro h; exact ⟨[], [], rfl, h, gl_one_star []⟩
theorem gl_end_star (p s : List UInt8) (d : UInt8) : gl (p ++ [42]) (s ++ [d]) = (gl p (s ++ [d]) || gl (p ++ [42]) s) := by
  rw [Bool.eq_iff_iff, gl_app, Bool.or_eq_true, gl_app]
  constructor
  · rintro ⟨t, u, h0, h1, h2⟩
    rcases List.eq_nil_or_concat u with rfl | ⟨u', d', rfl⟩
    · rw [List.append_nil] at h0; rw [h0]; exact .inl h1
    · rw [List.concat_eq_append, ← List.append_assoc] at h0
      obtain ⟨e1, e2⟩ := List.append_inj' h0 rfl
      exact .inr ⟨t, u', e1, h1, gl_one_star _⟩
  · rintro (h | ⟨t, u, rfl, h1, h2⟩)
    · exact ⟨s ++ [d], [], by simp, h, gl_one_star _⟩
    · exact ⟨t, u ++ [d], by simp, h1, gl_one_star _⟩
theorem gl_end_other (p s : List UInt8) {c : UInt8} (hc : (c == 42) = false) (d : UInt8) : gl (p ++ [c]) (s ++ [d]) = ((c == 63 || c == d) && gl p s) := by
  rw [Bool.eq_iff_iff, gl_app, Bool.and_eq_true]
  constructor
  · rintro ⟨t, u, h0, h1, h2⟩
    obtain ⟨x, rfl, h3⟩ := (gl_one hc u).1 h2
    obtain ⟨rfl, e2⟩ := List.append_inj' h0 rfl
    simp at e2; subst e2
    exact ⟨h3, h1⟩
  · rintro ⟨h1, h2⟩
    exact ⟨s, [d], rfl, h2, (gl_one hc _).2 ⟨d, rfl, h1⟩⟩
theorem gl_end_nil (p : List UInt8) {c : UInt8} (hc : (c == 42) = false) : gl (p ++ [c]) [] = false := by
  rw [Bool.eq_false_iff]
  intro h
  obtain ⟨t, u, h0, h1, h2⟩ := (gl_app _ _ _).1 h
  obtain ⟨rfl, rfl⟩ := List.append_eq_nil_iff.1 h0.symm
  obtain ⟨d, h3, _⟩ := (gl_one hc _).1 h2
  cases h3
/-- A row: of which beginnings of a text a pattern is. -/
def rowG (p s : List UInt8) : List Bool := (List.range (s.length + 1)).map fun k => gl p (s.take k)
theorem rowG_len (p s : List UInt8) : (rowG p s).length = s.length + 1 := by simp [rowG]
theorem rowG_get (p s : List UInt8) (k : Nat) (h : k ≤ s.length) : (rowG p s).getD k false = gl p (s.take k) := by
  unfold rowG
  rw [List.getD_eq_getElem?_getD, List.getElem?_map, List.getElem?_range (by omega)]; rfl
theorem take_snoc (s : List UInt8) (k : Nat) (h : k < s.length) : s.take (k + 1) = s.take k ++ [s.getD k 0] := by
  rw [List.take_add_one, List.getD_eq_getElem?_getD, List.getElem?_eq_getElem h]; rfl
/-- What stands in the next row. -/
theorem row_zero (p s : List UInt8) (c : UInt8) : gl (p ++ [c]) (s.take 0) = (c == 42 && gl p (s.take 0)) := by
  rw [List.take_zero]
  by_cases hc : c = 42
  · subst hc; rw [gl_end_star_nil]; rfl
  · rw [gl_end_nil p (by simpa using hc), show (c == 42) = false by simpa using hc]; rfl
theorem row_star (p s : List UInt8) (k : Nat) (h : k < s.length) : gl (p ++ [42]) (s.take (k + 1)) = (gl p (s.take (k + 1)) || gl (p ++ [42]) (s.take k)) := by
  rw [take_snoc s k h, gl_end_star]
theorem row_other (p s : List UInt8) {c : UInt8} (hc : (c == 42) = false) (k : Nat) (h : k < s.length) : gl (p ++ [c]) (s.take (k + 1)) = ((c == 63 || c == s.getD k 0) && gl p (s.take k)) := by
  rw [take_snoc s k h, gl_end_other p _ hc]
end Go.Proofs.YtjkfobmfddfjhaaDoorX

set_option linter.unusedVariables false
set_option linter.unusedSimpArgs false
namespace Go.Proofs.YtjkfobmfddfjhaaDoorX
open Go Go.RowKit Go.Proofs
set_option maxRecDepth 100000
attribute [local go_sem] String.reduceEq String.reduceNe reduceCtorEq Int.reduceEq Nat.reduceAdd Nat.reduceSub Nat.reduceMul Nat.reduceLT Nat.reduceLeDiff Nat.reduceEqDiff Nat.reduceBEq Int.reduceToNat Int.reduceLT Int.reduceLE Int.reduceGT Int.reduceGE Int.reduceAdd Int.reduceSub Int.reduceMul Int.reduceNeg Int.reduceBEq Int.reduceBNe Int.reducePow Int.reduceDiv Int.reduceMod Int.reduceTDiv Int.reduceTMod Int.reduceNatCast
/-! ### shadowboxref42.Match -/
def F15_S2 (a0 : List UInt8) (a1 : List UInt8) (x6 : List (Bool)) (x5 : Int) (x10 : Int) (x11 : List (Bool)) : St := ⟨[.imm (.string (bs a0)), .imm (.string (bs a1)), .junk, .junk, .junk, .rsl 0 1 0 x6.length, .imm (.int .i64 x5), .rsl 1 1 0 x11.length, .imm (.int .i64 x10), .junk, .junk, .junk, .junk, .junk, .junk, .junk, .junk, .junk, .junk, .junk, .junk, .junk, .junk, .junk, .junk, .junk, .junk, .junk, .junk, .junk, .junk, .junk, .junk, .junk, .junk, .junk, .junk, .junk, .junk, .junk, .junk, .junk, .junk, .junk, .junk, .junk, .junk, .junk, .junk, .junk, .junk, .junk, .junk, .junk, .junk, .junk, .junk, .junk, .junk, .junk, .junk, .junk, .junk, .junk, .junk, .junk, .junk, .junk, .junk, .junk, .junk, .junk, .junk, .junk, .junk, .junk, .junk, .junk, .junk, .junk, .junk, .junk, .junk, .junk, .junk], [some (.buf 4 1 (List.map eB x6) 0), some (.buf 4 1 (List.map eB x11) 0)]⟩
def F15_S1 (a0 : List UInt8) (a1 : List UInt8) (x5 : Int) (x6 : List (Bool)) : St := ⟨[.imm (.string (bs a0)), .imm (.string (bs a1)), .junk, .junk, .junk, .rsl 0 1 0 x6.length, .imm (.int .i64 x5), .junk, .junk, .junk, .junk, .junk, .junk, .junk, .junk, .junk, .junk, .junk, .junk, .junk, .junk, .junk, .junk, .junk, .junk, .junk, .junk, .junk, .junk, .junk, .junk, .junk, .junk, .junk, .junk, .junk, .junk, .junk, .junk, .junk, .junk, .junk, .junk, .junk, .junk, .junk, .junk, .junk, .junk, .junk, .junk, .junk, .junk, .junk, .junk, .junk, .junk, .junk, .junk, .junk, .junk, .junk, .junk, .junk, .junk, .junk, .junk, .junk, .junk, .junk, .junk, .junk, .junk, .junk, .junk, .junk, .junk, .junk, .junk, .junk, .junk, .junk, .junk, .junk, .junk], [some (.buf 4 1 (List.map eB x6) 0)]⟩
mutual
def F15_L2 : Nat → (List UInt8) → (List UInt8) → (List (Bool)) → (Int) → (Int) → (List (Bool)) → Option (Bool)
  | 0, _, _, _, _, _, _ => none
  | m2 + 1, a0, a1, x6, x5, x10, x11 => iteB (decide (x10 ≤ (a1.length : Int))) (grd (0 ≤ x5 ∧ x5 < (a0.length : Int)) (iteB (((a0.getD x5.toNat 0).toNat : Int) == (42 : Int)) (grd (0 ≤ x10 ∧ x10 < (x6.length : Int)) (grd (x10.toNat < x6.length) (iteB (x6.getD x10.toNat default) (grd (0 ≤ x10 ∧ x10 < (x11.length : Int)) (grd (x10.toNat < x11.length) (F15_L2 m2 a0 a1 x6 x5 (IntKind.wrap .i64 (x10 + (1 : Int))) (List.set x11 x10.toNat true)))) (iteB (decide ((0 : Int) < x10)) (grd (0 ≤ (IntKind.wrap .i64 (x10 - (1 : Int))) ∧ (IntKind.wrap .i64 (x10 - (1 : Int))) < (x11.length : Int)) (grd ((IntKind.wrap .i64 (x10 - (1 : Int))).toNat < x11.length) (grd (0 ≤ x10 ∧ x10 < (x11.length : Int)) (grd (x10.toNat < x11.length) (F15_L2 m2 a0 a1 x6 x5 (IntKind.wrap .i64 (x10 + (1 : Int))) (List.set x11 x10.toNat (x11.getD ((IntKind.wrap .i64 (x10 - (1 : Int))).toNat) default))))))) (grd (0 ≤ x10 ∧ x10 < (x11.length : Int)) (grd (x10.toNat < x11.length) (F15_L2 m2 a0 a1 x6 x5 (IntKind.wrap .i64 (x10 + (1 : Int))) (List.set x11 x10.toNat false)))))))) (iteB (decide ((0 : Int) < x10)) (grd (0 ≤ x5 ∧ x5 < (a0.length : Int)) (iteB (((a0.getD x5.toNat 0).toNat : Int) == (63 : Int)) (grd (0 ≤ (IntKind.wrap .i64 (x10 - (1 : Int))) ∧ (IntKind.wrap .i64 (x10 - (1 : Int))) < (x6.length : Int)) (grd ((IntKind.wrap .i64 (x10 - (1 : Int))).toNat < x6.length) (grd (0 ≤ x10 ∧ x10 < (x11.length : Int)) (grd (x10.toNat < x11.length) (F15_L2 m2 a0 a1 x6 x5 (IntKind.wrap .i64 (x10 + (1 : Int))) (List.set x11 x10.toNat (x6.getD ((IntKind.wrap .i64 (x10 - (1 : Int))).toNat) default))))))) (grd (0 ≤ x5 ∧ x5 < (a0.length : Int)) (grd (0 ≤ (IntKind.wrap .i64 (x10 - (1 : Int))) ∧ (IntKind.wrap .i64 (x10 - (1 : Int))) < (a1.length : Int)) (iteB (((a0.getD x5.toNat 0).toNat : Int) == ((a1.getD (IntKind.wrap .i64 (x10 - (1 : Int))).toNat 0).toNat : Int)) (grd (0 ≤ (IntKind.wrap .i64 (x10 - (1 : Int))) ∧ (IntKind.wrap .i64 (x10 - (1 : Int))) < (x6.length : Int)) (grd ((IntKind.wrap .i64 (x10 - (1 : Int))).toNat < x6.length) (grd (0 ≤ x10 ∧ x10 < (x11.length : Int)) (grd (x10.toNat < x11.length) (F15_L2 m2 a0 a1 x6 x5 (IntKind.wrap .i64 (x10 + (1 : Int))) (List.set x11 x10.toNat (x6.getD ((IntKind.wrap .i64 (x10 - (1 : Int))).toNat) default))))))) (F15_L2 m2 a0 a1 x6 x5 (IntKind.wrap .i64 (x10 + (1 : Int))) x11)))))) (F15_L2 m2 a0 a1 x6 x5 (IntKind.wrap .i64 (x10 + (1 : Int))) x11)))) (F15_L1 m2 a0 a1 (IntKind.wrap .i64 (x5 + (1 : Int))) x11)
def F15_L1 : Nat → (List UInt8) → (List UInt8) → (Int) → (List (Bool)) → Option (Bool)
  | 0, _, _, _, _ => none
  | m1 + 1, a0, a1, x5, x6 => iteB (decide (x5 < (a0.length : Int))) (grd (0 ≤ (IntKind.wrap .i64 ((a1.length : Int) + (1 : Int))) ∧ (IntKind.wrap .i64 ((a1.length : Int) + (1 : Int))) ≤ (IntKind.wrap .i64 ((a1.length : Int) + (1 : Int))) ∧ (IntKind.wrap .i64 ((a1.length : Int) + (1 : Int))) ≤ 1099511627776) (F15_L2 m1 a0 a1 x6 x5 (0 : Int) (List.replicate (IntKind.wrap .i64 ((a1.length : Int) + (1 : Int))).toNat false))) (grd (0 ≤ (a1.length : Int) ∧ (a1.length : Int) < (x6.length : Int)) (grd ((a1.length : Int).toNat < x6.length) (some (x6.getD ((a1.length : Int).toNat) default))))
end
def F15 (n : Nat) (a0 : List UInt8) (a1 : List UInt8) : Option (Bool) := grd (0 ≤ (IntKind.wrap .i64 ((a1.length : Int) + (1 : Int))) ∧ (IntKind.wrap .i64 ((a1.length : Int) + (1 : Int))) ≤ (IntKind.wrap .i64 ((a1.length : Int) + (1 : Int))) ∧ (IntKind.wrap .i64 ((a1.length : Int) + (1 : Int))) ≤ 1099511627776) (grd ((0 : Int) < ((IntKind.wrap .i64 ((a1.length : Int) + (1 : Int))).toNat : Int)) (grd ((0 : Int).toNat < (IntKind.wrap .i64 ((a1.length : Int) + (1 : Int))).toNat) (F15_L1 n a0 a1 (0 : Int) (List.set (List.replicate (IntKind.wrap .i64 ((a1.length : Int) + (1 : Int))).toNat false) ((0 : Int).toNat) true))))
set_option maxHeartbeats 4000000 in
theorem F15_ok : ∀ (n : Nat) (a0 : List UInt8) (a1 : List UInt8) (r : Bool), F15 n a0 a1 = some r → FnC Tryd.prog 15 [.imm (.string (bs a0)), .imm (.string (bs a1))] (.imm (.bool r))
  | n, a0, a1, r, h => by
    unfold F15 at h
    refine FnC.goX mixed Tryd.func15 (by kernel_rfl) rfl ?_
    simp only [Tryd.ntmps15, List.length_cons, List.length_nil, List.replicate, List.cons_append, List.nil_append, Nat.reduceAdd, Nat.reduceSub]
    refine runX_seq ?_
    refine runX_regionC fun C hC => ?_
    try simp -implicitDefEqProofs (maxSteps := 4000000) (disch := first | omega | decide | (simp only [go_sem]; omega)) only [go_sem, ↓reduceIte]
    repeat (with_reducible refine And.intro (by first | assumption | omega | (simp; done) | (simp; omega)) ?_)
    refine toEnd hC ?_
    refine endX_seq ?_
    refine runX_seq ?_
    refine runX_regionC fun C hC => ?_
    obtain ⟨g1, h⟩ := grd_some h
    have e2 : List.replicate (IntKind.wrap .i64 ((a1.length : Int) + (1 : Int))).toNat (T.imm (.bool false)) = List.map eB (List.replicate (IntKind.wrap .i64 ((a1.length : Int) + (1 : Int))).toNat false) := rep_b (IntKind.wrap .i64 ((a1.length : Int) + (1 : Int))).toNat false
    try simp -implicitDefEqProofs (maxSteps := 4000000) (disch := first | omega | decide | (simp only [go_sem]; omega)) only [go_sem, ↓reduceIte, e2]
    repeat (with_reducible refine And.intro (by first | assumption | omega | (simp; done) | (simp; omega)) ?_)
    refine toEnd hC ?_
    refine endX_seq ?_
    refine runX_seq ?_
    refine runX_regionC fun C hC => ?_
    obtain ⟨g3, h⟩ := grd_some h
    obtain ⟨g4, h⟩ := grd_some h
    try simp -implicitDefEqProofs (maxSteps := 4000000) (disch := first | omega | decide | (simp only [go_sem]; omega)) only [go_sem, ↓reduceIte]
    repeat (with_reducible refine And.intro (by first | assumption | omega | (simp; done) | (simp; omega)) ?_)
    refine toEnd hC ?_
    refine endX_seq ?_
    refine runX_seq ?_
    refine runX_seq ?_
    refine runX_regionC fun C hC => ?_
    try simp -implicitDefEqProofs (maxSteps := 4000000) (disch := first | omega | decide | (simp only [go_sem]; omega)) only [go_sem, ↓reduceIte]
    repeat (with_reducible refine And.intro (by first | assumption | omega | (simp; done) | (simp; omega)) ?_)
    refine toEnd hC ?_
    refine endX_seq ?_
    refine runX_block ?_
    refine runX_loop [0, 1, 5, 6] (fun m S => ∃ (x5 : Int) (x6 : List (Bool)), S = F15_S1 a0 a1 x5 x6 ∧ m ≤ n ∧ F15_L1 m a0 a1 x5 x6 = some r) n ⟨F15_S1 a0 a1 (0 : Int) (List.set (List.replicate (IntKind.wrap .i64 ((a1.length : Int) + (1 : Int))).toNat false) ((0 : Int).toNat) true), ?_, (0 : Int), (List.set (List.replicate (IntKind.wrap .i64 ((a1.length : Int) + (1 : Int))).toNat false) ((0 : Int).toNat) true), rfl, Nat.le_refl _, h⟩ ?_
    · simp only [F15_S1]
      (try simp -implicitDefEqProofs (maxSteps := 4000000) (disch := first | omega | decide | (simp only [go_sem]; omega)) only [go_sem, ↓reduceIte])
      first | exact leS_refl _ | (refine leS_le ?_ ?_ <;> first | exact leL_refl _ | exact leOs_refl _ | (repeat (first | exact leL_refl _ | refine leL_cons (by first | exact leT_refl _ | exact leT_virt | exact leT_junk _ | exact leT_sl | exact leT_sln | exact leT_nil) ?_)))
    · clear h
      rintro m1 S ⟨x5, x6, rfl, hm1, h⟩
      cases m1 with
      | zero => first | cases (show (none : Option _) = some _ from h) | (rw [F15_L1] at h; cases h)
      | succ m1 =>
        rw [F15_L1] at h
        simp only [F15_S1]
        refine runX_seq ?_
        refine runX_seq ?_
        refine runX_regionC fun C hC => ?_
        try simp -implicitDefEqProofs (maxSteps := 4000000) (disch := first | omega | decide | (simp only [go_sem]; omega)) only [go_sem, ↓reduceIte]
        repeat (with_reducible refine And.intro (by first | assumption | omega | (simp; done) | (simp; omega)) ?_)
        refine toEnd hC ?_
        refine endX_seq ?_
        rcases iteB_some h with ⟨c7, h⟩ | ⟨c7, h⟩
        · refine runX_condT rfl c7 ?_
          refine runX_skip ?_
          refine endX_seq ?_
          refine runX_seq ?_
          refine runX_block ?_
          refine runX_seq ?_
          refine runX_regionC fun C hC => ?_
          obtain ⟨g8, h⟩ := grd_some h
          have e9 : List.replicate (IntKind.wrap .i64 ((a1.length : Int) + (1 : Int))).toNat (T.imm (.bool false)) = List.map eB (List.replicate (IntKind.wrap .i64 ((a1.length : Int) + (1 : Int))).toNat false) := rep_b (IntKind.wrap .i64 ((a1.length : Int) + (1 : Int))).toNat false
          try simp -implicitDefEqProofs (maxSteps := 4000000) (disch := first | omega | decide | (simp only [go_sem]; omega)) only [go_sem, ↓reduceIte, e9]
          repeat (with_reducible refine And.intro (by first | assumption | omega | (simp; done) | (simp; omega)) ?_)
          refine toEnd hC ?_
          refine endX_seq ?_
          refine runX_seq ?_
          refine runX_seq ?_
          refine runX_regionC fun C hC => ?_
          try simp -implicitDefEqProofs (maxSteps := 4000000) (disch := first | omega | decide | (simp only [go_sem]; omega)) only [go_sem, ↓reduceIte]
          repeat (with_reducible refine And.intro (by first | assumption | omega | (simp; done) | (simp; omega)) ?_)
          refine toEnd hC ?_
          refine endX_seq ?_
          refine runX_block ?_
          refine runX_loop [0, 1, 5, 6, 7, 8] (fun m S => ∃ (x10 : Int) (x11 : List (Bool)), S = F15_S2 a0 a1 x6 x5 x10 x11 ∧ m ≤ m1 ∧ F15_L2 m a0 a1 x6 x5 x10 x11 = some r) m1 ⟨F15_S2 a0 a1 x6 x5 (0 : Int) (List.replicate (IntKind.wrap .i64 ((a1.length : Int) + (1 : Int))).toNat false), ?_, (0 : Int), (List.replicate (IntKind.wrap .i64 ((a1.length : Int) + (1 : Int))).toNat false), rfl, Nat.le_refl _, h⟩ ?_
          · simp only [F15_S2]
            (try simp -implicitDefEqProofs (maxSteps := 4000000) (disch := first | omega | decide | (simp only [go_sem]; omega)) only [go_sem, ↓reduceIte])
            first | exact leS_refl _ | (refine leS_le ?_ ?_ <;> first | exact leL_refl _ | exact leOs_refl _ | (repeat (first | exact leL_refl _ | refine leL_cons (by first | exact leT_refl _ | exact leT_virt | exact leT_junk _ | exact leT_sl | exact leT_sln | exact leT_nil) ?_)))
          · clear h
            rintro m2 S ⟨x10, x11, rfl, hm2, h⟩
            cases m2 with
            | zero => first | cases (show (none : Option _) = some _ from h) | (rw [F15_L2] at h; cases h)
            | succ m2 =>
              rw [F15_L2] at h
              simp only [F15_S2]
              refine runX_seq ?_
              refine runX_seq ?_
              refine runX_regionC fun C hC => ?_
              try simp -implicitDefEqProofs (maxSteps := 4000000) (disch := first | omega | decide | (simp only [go_sem]; omega)) only [go_sem, ↓reduceIte]
              repeat (with_reducible refine And.intro (by first | assumption | omega | (simp; done) | (simp; omega)) ?_)
              refine toEnd hC ?_
              refine endX_seq ?_
              rcases iteB_some h with ⟨c12, h⟩ | ⟨c12, h⟩
              · refine runX_condT rfl c12 ?_
                refine runX_skip ?_
                refine endX_seq ?_
                refine runX_seq ?_
                refine runX_block ?_
                refine runX_seq ?_
                refine runX_regionC fun C hC => ?_
                obtain ⟨g13, h⟩ := grd_some h
                try simp -implicitDefEqProofs (maxSteps := 4000000) (disch := first | omega | decide | (simp only [go_sem]; omega)) only [go_sem, ↓reduceIte]
                repeat (with_reducible refine And.intro (by first | assumption | omega | (simp; done) | (simp; omega)) ?_)
                refine toEnd hC ?_
                refine endX_seq ?_
                rcases iteB_some h with ⟨c14, h⟩ | ⟨c14, h⟩
                · refine runX_condT rfl c14 ?_
                  refine runX_regionC fun C hC => ?_
                  obtain ⟨g15, h⟩ := grd_some h
                  obtain ⟨g16, h⟩ := grd_some h
                  try simp -implicitDefEqProofs (maxSteps := 4000000) (disch := first | omega | decide | (simp only [go_sem]; omega)) only [go_sem, ↓reduceIte]
                  repeat (with_reducible refine And.intro (by first | assumption | omega | (simp; done) | (simp; omega)) ?_)
                  rcases iteB_some h with ⟨c17, h⟩ | ⟨c17, h⟩
                  · refine guardK_F c17 ?_
                    obtain ⟨g18, h⟩ := grd_some h
                    obtain ⟨g19, h⟩ := grd_some h
                    try simp -implicitDefEqProofs (maxSteps := 4000000) (disch := first | omega | decide | (simp only [go_sem]; omega)) only [go_sem, ↓reduceIte]
                    repeat (with_reducible refine And.intro (by first | assumption | omega | (simp; done) | (simp; omega)) ?_)
                    refine toEnd hC ?_
                    refine endX_blk ?_
                    refine endX_seq ?_
                    refine runX_regionC fun C hC => ?_
                    try simp -implicitDefEqProofs (maxSteps := 4000000) (disch := first | omega | decide | (simp only [go_sem]; omega)) only [go_sem, ↓reduceIte]
                    repeat (with_reducible refine And.intro (by first | assumption | omega | (simp; done) | (simp; omega)) ?_)
                    refine toEnd hC ?_
                    refine endX_q (roundQ_normal ⟨m2, by omega, F15_S2 a0 a1 x6 x5 (IntKind.wrap .i64 (x10 + (1 : Int))) (List.set x11 x10.toNat true), ?_, (IntKind.wrap .i64 (x10 + (1 : Int))), (List.set x11 x10.toNat true), rfl, by omega, h⟩)
                    simp only [F15_S2]
                    (try simp -implicitDefEqProofs (maxSteps := 4000000) (disch := first | omega | decide | (simp only [go_sem]; omega)) only [go_sem, ↓reduceIte])
                    first | exact leS_refl _ | (refine leS_le ?_ ?_ <;> first | exact leL_refl _ | exact leOs_refl _ | (repeat (first | exact leL_refl _ | refine leL_cons (by first | exact leT_refl _ | exact leT_virt | exact leT_junk _ | exact leT_sl | exact leT_sln | exact leT_nil) ?_)))
                  · refine guardK_T c17 ?_
                    try simp -implicitDefEqProofs (maxSteps := 4000000) (disch := first | omega | decide | (simp only [go_sem]; omega)) only [go_sem, ↓reduceIte]
                    repeat (with_reducible refine And.intro (by first | assumption | omega | (simp; done) | (simp; omega)) ?_)
                    rcases iteB_some h with ⟨c20, h⟩ | ⟨c20, h⟩
                    · refine guardK_T c20 ?_
                      obtain ⟨g21, h⟩ := grd_some h
                      obtain ⟨g22, h⟩ := grd_some h
                      obtain ⟨g23, h⟩ := grd_some h
                      obtain ⟨g24, h⟩ := grd_some h
                      try simp -implicitDefEqProofs (maxSteps := 4000000) (disch := first | omega | decide | (simp only [go_sem]; omega)) only [go_sem, ↓reduceIte]
                      repeat (with_reducible refine And.intro (by first | assumption | omega | (simp; done) | (simp; omega)) ?_)
                      refine toEnd hC ?_
                      refine endX_blk ?_
                      refine endX_seq ?_
                      refine runX_regionC fun C hC => ?_
                      try simp -implicitDefEqProofs (maxSteps := 4000000) (disch := first | omega | decide | (simp only [go_sem]; omega)) only [go_sem, ↓reduceIte]
                      repeat (with_reducible refine And.intro (by first | assumption | omega | (simp; done) | (simp; omega)) ?_)
                      refine toEnd hC ?_
                      refine endX_q (roundQ_normal ⟨m2, by omega, F15_S2 a0 a1 x6 x5 (IntKind.wrap .i64 (x10 + (1 : Int))) (List.set x11 x10.toNat (x11.getD ((IntKind.wrap .i64 (x10 - (1 : Int))).toNat) default)), ?_, (IntKind.wrap .i64 (x10 + (1 : Int))), (List.set x11 x10.toNat (x11.getD ((IntKind.wrap .i64 (x10 - (1 : Int))).toNat) default)), rfl, by omega, h⟩)
                      simp only [F15_S2]
                      (try simp -implicitDefEqProofs (maxSteps := 4000000) (disch := first | omega | decide | (simp only [go_sem]; omega)) only [go_sem, ↓reduceIte])
                      first | exact leS_refl _ | (refine leS_le ?_ ?_ <;> first | exact leL_refl _ | exact leOs_refl _ | (repeat (first | exact leL_refl _ | refine leL_cons (by first | exact leT_refl _ | exact leT_virt | exact leT_junk _ | exact leT_sl | exact leT_sln | exact leT_nil) ?_)))
                    · refine guardK_F c20 ?_
                      obtain ⟨g25, h⟩ := grd_some h
                      obtain ⟨g26, h⟩ := grd_some h
                      try simp -implicitDefEqProofs (maxSteps := 4000000) (disch := first | omega | decide | (simp only [go_sem]; omega)) only [go_sem, ↓reduceIte]
                      repeat (with_reducible refine And.intro (by first | assumption | omega | (simp; done) | (simp; omega)) ?_)
                      refine toEnd hC ?_
                      refine endX_blk ?_
                      refine endX_seq ?_
                      refine runX_regionC fun C hC => ?_
                      try simp -implicitDefEqProofs (maxSteps := 4000000) (disch := first | omega | decide | (simp only [go_sem]; omega)) only [go_sem, ↓reduceIte]
                      repeat (with_reducible refine And.intro (by first | assumption | omega | (simp; done) | (simp; omega)) ?_)
                      refine toEnd hC ?_
                      refine endX_q (roundQ_normal ⟨m2, by omega, F15_S2 a0 a1 x6 x5 (IntKind.wrap .i64 (x10 + (1 : Int))) (List.set x11 x10.toNat false), ?_, (IntKind.wrap .i64 (x10 + (1 : Int))), (List.set x11 x10.toNat false), rfl, by omega, h⟩)
                      simp only [F15_S2]
                      (try simp -implicitDefEqProofs (maxSteps := 4000000) (disch := first | omega | decide | (simp only [go_sem]; omega)) only [go_sem, ↓reduceIte])
                      first | exact leS_refl _ | (refine leS_le ?_ ?_ <;> first | exact leL_refl _ | exact leOs_refl _ | (repeat (first | exact leL_refl _ | refine leL_cons (by first | exact leT_refl _ | exact leT_virt | exact leT_junk _ | exact leT_sl | exact leT_sln | exact leT_nil) ?_)))
                · refine runX_condF rfl c14 ?_
                  refine runX_seq ?_
                  refine runX_drawC mixed (by kernel_rfl) fun C hC => ?_
                  try simp -implicitDefEqProofs (maxSteps := 4000000) (disch := first | omega | decide | (simp only [go_sem]; omega)) only [go_sem, ↓reduceIte]
                  repeat (with_reducible refine And.intro (by first | assumption | omega | (simp; done) | (simp; omega)) ?_)
                  rcases iteB_some h with ⟨c27, h⟩ | ⟨c27, h⟩
                  · refine guardD_T c27 ?_
                    obtain ⟨g28, h⟩ := grd_some h
                    try simp -implicitDefEqProofs (maxSteps := 4000000) (disch := first | omega | decide | (simp only [go_sem]; omega)) only [go_sem, ↓reduceIte]
                    repeat (with_reducible refine And.intro (by first | assumption | omega | (simp; done) | (simp; omega)) ?_)
                    rcases iteB_some h with ⟨c29, h⟩ | ⟨c29, h⟩
                    · refine guardD_F c29 ?_
                      try simp -implicitDefEqProofs (maxSteps := 4000000) (disch := first | omega | decide | (simp only [go_sem]; omega)) only [go_sem, ↓reduceIte]
                      repeat (with_reducible refine And.intro (by first | assumption | omega | (simp; done) | (simp; omega)) ?_)
                      refine toEnd hC ?_
                      refine endX_seq ?_
                      refine runX_condT rfl rfl ?_
                      refine runX_regionC fun C hC => ?_
                      obtain ⟨g30, h⟩ := grd_some h
                      obtain ⟨g31, h⟩ := grd_some h
                      obtain ⟨g32, h⟩ := grd_some h
                      obtain ⟨g33, h⟩ := grd_some h
                      try simp -implicitDefEqProofs (maxSteps := 4000000) (disch := first | omega | decide | (simp only [go_sem]; omega)) only [go_sem, ↓reduceIte]
                      repeat (with_reducible refine And.intro (by first | assumption | omega | (simp; done) | (simp; omega)) ?_)
                      refine toEnd hC ?_
                      refine endX_blk ?_
                      refine endX_seq ?_
                      refine runX_regionC fun C hC => ?_
                      try simp -implicitDefEqProofs (maxSteps := 4000000) (disch := first | omega | decide | (simp only [go_sem]; omega)) only [go_sem, ↓reduceIte]
                      repeat (with_reducible refine And.intro (by first | assumption | omega | (simp; done) | (simp; omega)) ?_)
                      refine toEnd hC ?_
                      refine endX_q (roundQ_normal ⟨m2, by omega, F15_S2 a0 a1 x6 x5 (IntKind.wrap .i64 (x10 + (1 : Int))) (List.set x11 x10.toNat (x6.getD ((IntKind.wrap .i64 (x10 - (1 : Int))).toNat) default)), ?_, (IntKind.wrap .i64 (x10 + (1 : Int))), (List.set x11 x10.toNat (x6.getD ((IntKind.wrap .i64 (x10 - (1 : Int))).toNat) default)), rfl, by omega, h⟩)
                      simp only [F15_S2]
                      (try simp -implicitDefEqProofs (maxSteps := 4000000) (disch := first | omega | decide | (simp only [go_sem]; omega)) only [go_sem, ↓reduceIte])
                      first | exact leS_refl _ | (refine leS_le ?_ ?_ <;> first | exact leL_refl _ | exact leOs_refl _ | (repeat (first | exact leL_refl _ | refine leL_cons (by first | exact leT_refl _ | exact leT_virt | exact leT_junk _ | exact leT_sl | exact leT_sln | exact leT_nil) ?_)))
                    · refine guardD_T c29 ?_
                      obtain ⟨g34, h⟩ := grd_some h
                      obtain ⟨g35, h⟩ := grd_some h
                      try simp -implicitDefEqProofs (maxSteps := 4000000) (disch := first | omega | decide | (simp only [go_sem]; omega)) only [go_sem, ↓reduceIte]
                      repeat (with_reducible refine And.intro (by first | assumption | omega | (simp; done) | (simp; omega)) ?_)
                      refine toEnd hC ?_
                      refine endX_seq ?_
                      rcases iteB_some h with ⟨c36, h⟩ | ⟨c36, h⟩
                      · refine runX_condT rfl c36 ?_
                        refine runX_regionC fun C hC => ?_
                        obtain ⟨g37, h⟩ := grd_some h
                        obtain ⟨g38, h⟩ := grd_some h
                        obtain ⟨g39, h⟩ := grd_some h
                        obtain ⟨g40, h⟩ := grd_some h
                        try simp -implicitDefEqProofs (maxSteps := 4000000) (disch := first | omega | decide | (simp only [go_sem]; omega)) only [go_sem, ↓reduceIte]
                        repeat (with_reducible refine And.intro (by first | assumption | omega | (simp; done) | (simp; omega)) ?_)
                        refine toEnd hC ?_
                        refine endX_blk ?_
                        refine endX_seq ?_
                        refine runX_regionC fun C hC => ?_
                        try simp -implicitDefEqProofs (maxSteps := 4000000) (disch := first | omega | decide | (simp only [go_sem]; omega)) only [go_sem, ↓reduceIte]
                        repeat (with_reducible refine And.intro (by first | assumption | omega | (simp; done) | (simp; omega)) ?_)
                        refine toEnd hC ?_
                        refine endX_q (roundQ_normal ⟨m2, by omega, F15_S2 a0 a1 x6 x5 (IntKind.wrap .i64 (x10 + (1 : Int))) (List.set x11 x10.toNat (x6.getD ((IntKind.wrap .i64 (x10 - (1 : Int))).toNat) default)), ?_, (IntKind.wrap .i64 (x10 + (1 : Int))), (List.set x11 x10.toNat (x6.getD ((IntKind.wrap .i64 (x10 - (1 : Int))).toNat) default)), rfl, by omega, h⟩)
                        simp only [F15_S2]
                        (try simp -implicitDefEqProofs (maxSteps := 4000000) (disch := first | omega | decide | (simp only [go_sem]; omega)) only [go_sem, ↓reduceIte])
                        first | exact leS_refl _ | (refine leS_le ?_ ?_ <;> first | exact leL_refl _ | exact leOs_refl _ | (repeat (first | exact leL_refl _ | refine leL_cons (by first | exact leT_refl _ | exact leT_virt | exact leT_junk _ | exact leT_sl | exact leT_sln | exact leT_nil) ?_)))
                      · refine runX_condF rfl c36 ?_
                        refine runX_skip ?_
                        refine endX_blk ?_
                        refine endX_seq ?_
                        refine runX_regionC fun C hC => ?_
                        try simp -implicitDefEqProofs (maxSteps := 4000000) (disch := first | omega | decide | (simp only [go_sem]; omega)) only [go_sem, ↓reduceIte]
                        repeat (with_reducible refine And.intro (by first | assumption | omega | (simp; done) | (simp; omega)) ?_)
                        refine toEnd hC ?_
                        refine endX_q (roundQ_normal ⟨m2, by omega, F15_S2 a0 a1 x6 x5 (IntKind.wrap .i64 (x10 + (1 : Int))) x11, ?_, (IntKind.wrap .i64 (x10 + (1 : Int))), x11, rfl, by omega, h⟩)
                        simp only [F15_S2]
                        (try simp -implicitDefEqProofs (maxSteps := 4000000) (disch := first | omega | decide | (simp only [go_sem]; omega)) only [go_sem, ↓reduceIte])
                        first | exact leS_refl _ | (refine leS_le ?_ ?_ <;> first | exact leL_refl _ | exact leOs_refl _ | (repeat (first | exact leL_refl _ | refine leL_cons (by first | exact leT_refl _ | exact leT_virt | exact leT_junk _ | exact leT_sl | exact leT_sln | exact leT_nil) ?_)))
                  · refine guardD_F c27 ?_
                    try simp -implicitDefEqProofs (maxSteps := 4000000) (disch := first | omega | decide | (simp only [go_sem]; omega)) only [go_sem, ↓reduceIte]
                    repeat (with_reducible refine And.intro (by first | assumption | omega | (simp; done) | (simp; omega)) ?_)
                    refine toEnd hC ?_
                    refine endX_seq ?_
                    refine runX_condF rfl rfl ?_
                    refine runX_skip ?_
                    refine endX_blk ?_
                    refine endX_seq ?_
                    refine runX_regionC fun C hC => ?_
                    try simp -implicitDefEqProofs (maxSteps := 4000000) (disch := first | omega | decide | (simp only [go_sem]; omega)) only [go_sem, ↓reduceIte]
                    repeat (with_reducible refine And.intro (by first | assumption | omega | (simp; done) | (simp; omega)) ?_)
                    refine toEnd hC ?_
                    refine endX_q (roundQ_normal ⟨m2, by omega, F15_S2 a0 a1 x6 x5 (IntKind.wrap .i64 (x10 + (1 : Int))) x11, ?_, (IntKind.wrap .i64 (x10 + (1 : Int))), x11, rfl, by omega, h⟩)
                    simp only [F15_S2]
                    (try simp -implicitDefEqProofs (maxSteps := 4000000) (disch := first | omega | decide | (simp only [go_sem]; omega)) only [go_sem, ↓reduceIte])
                    first | exact leS_refl _ | (refine leS_le ?_ ?_ <;> first | exact leL_refl _ | exact leOs_refl _ | (repeat (first | exact leL_refl _ | refine leL_cons (by first | exact leT_refl _ | exact leT_virt | exact leT_junk _ | exact leT_sl | exact leT_sln | exact leT_nil) ?_)))
              · refine runX_condF rfl c12 ?_
                refine runX_exit ?_
                refine endX_seqE ?_
                refine endX_q (roundQ_exit ?_)
                refine endX_blkE ?_
                refine endX_seq ?_
                refine runX_regionC fun C hC => ?_
                try simp -implicitDefEqProofs (maxSteps := 4000000) (disch := first | omega | decide | (simp only [go_sem]; omega)) only [go_sem, ↓reduceIte]
                repeat (with_reducible refine And.intro (by first | assumption | omega | (simp; done) | (simp; omega)) ?_)
                refine toEnd hC ?_
                refine endX_blk ?_
                refine endX_seq ?_
                refine runX_regionC fun C hC => ?_
                try simp -implicitDefEqProofs (maxSteps := 4000000) (disch := first | omega | decide | (simp only [go_sem]; omega)) only [go_sem, ↓reduceIte]
                repeat (with_reducible refine And.intro (by first | assumption | omega | (simp; done) | (simp; omega)) ?_)
                refine toEnd hC ?_
                refine endX_q (roundQ_normal ⟨m2, by omega, F15_S1 a0 a1 (IntKind.wrap .i64 (x5 + (1 : Int))) x11, ?_, (IntKind.wrap .i64 (x5 + (1 : Int))), x11, rfl, by omega, h⟩)
                (try simp -implicitDefEqProofs (maxSteps := 4000000) (disch := first | omega | decide | (simp only [go_sem]; omega)) only [go_sem, ↓reduceIte])
                refine leS_trans (leS_swT 0 1 (by simp) (by simp)) (show leS ⟨[.imm (.string (bs a0)), .imm (.string (bs a1)), .junk, .junk, .junk, .rsl 0 1 0 x11.length, .imm (.int .i64 (IntKind.wrap .i64 (x5 + (1 : Int)))), .junk, .junk, .junk, .junk, .junk, .junk, .junk, .junk, .junk, .junk, .junk, .junk, .junk, .junk, .junk, .junk, .junk, .junk, .junk, .junk, .junk, .junk, .junk, .junk, .junk, .junk, .junk, .junk, .junk, .junk, .junk, .junk, .junk, .junk, .junk, .junk, .junk, .junk, .junk, .junk, .junk, .junk, .junk, .junk, .junk, .junk, .junk, .junk, .junk, .junk, .junk, .junk, .junk, .junk, .junk, .junk, .junk, .junk, .junk, .junk, .junk, .junk, .junk, .junk, .junk, .junk, .junk, .junk, .junk, .junk, .junk, .junk, .junk, .junk, .junk, .junk, .junk, .junk], [some (.buf 4 1 (List.map eB x11) 0)]⟩ _ from ?_)
                simp only [F15_S1]
                (try simp -implicitDefEqProofs (maxSteps := 4000000) (disch := first | omega | decide | (simp only [go_sem]; omega)) only [go_sem, ↓reduceIte])
                first | exact leS_refl _ | (refine leS_le ?_ ?_ <;> first | exact leL_refl _ | exact leOs_refl _ | (repeat (first | exact leL_refl _ | refine leL_cons (by first | exact leT_refl _ | exact leT_virt | exact leT_junk _ | exact leT_sl | exact leT_sln | exact leT_nil) ?_)))
        · refine runX_condF rfl c7 ?_
          refine runX_exit ?_
          refine endX_seqE ?_
          refine endX_q (roundQ_exit ?_)
          refine endX_blkE ?_
          refine endX_seq ?_
          refine runX_seq ?_
          refine runX_regionC fun C hC => ?_
          obtain ⟨g41, h⟩ := grd_some h
          obtain ⟨g42, h⟩ := grd_some h
          try simp -implicitDefEqProofs (maxSteps := 4000000) (disch := first | omega | decide | (simp only [go_sem]; omega)) only [go_sem, ↓reduceIte]
          repeat (with_reducible refine And.intro (by first | assumption | omega | (simp; done) | (simp; omega)) ?_)
          refine toEnd hC ?_
          refine endX_seq ?_
          refine runX_ret ?_
          refine endX_q ?_
          obtain rfl := Option.some.inj h
          show RetW _ _ _ _ _
          simp only [RetW]
          (try simp -implicitDefEqProofs (maxSteps := 4000000) (disch := first | omega | decide | (simp only [go_sem]; omega)) only [go_sem, ↓reduceIte])
          (try simp (disch := omega) only [if_pos, Nat.sub_zero])
          exact leT_refl _
end Go.Proofs.YtjkfobmfddfjhaaDoorX

set_option linter.unusedVariables false
set_option linter.unusedSimpArgs false
namespace Go.Proofs.YtjkfobmfddfjhaaDoorX
open Go Go.RowKit Go.Proofs
set_option maxRecDepth 100000
attribute [local go_sem] String.reduceEq String.reduceNe reduceCtorEq Int.reduceEq Nat.reduceAdd Nat.reduceSub Nat.reduceMul Nat.reduceLT Nat.reduceLeDiff Nat.reduceEqDiff Nat.reduceBEq Int.reduceToNat Int.reduceLT Int.reduceLE Int.reduceGT Int.reduceGE Int.reduceAdd Int.reduceSub Int.reduceMul Int.reduceNeg Int.reduceBEq Int.reduceBNe Int.reducePow Int.reduceDiv Int.reduceMod Int.reduceTDiv Int.reduceTMod Int.reduceNatCast
/-! ### shadowboxref42.among -/
def F32_S1 (a0 : List (List UInt8)) (a1 : List UInt8) (x1 : Int) : St := ⟨[.sl 1 false (List.map eS a0), .imm (.string (bs a1)), .junk, .junk, .junk, .imm (.int .i64 x1), .junk, .junk, .junk, .junk, .junk, .junk, .junk, .junk, .junk, .junk, .junk, .junk], []⟩
def F32_L1 : Nat → (List (List UInt8)) → (List UInt8) → (Int) → Option (Bool)
  | 0, _, _, _ => none
  | m1 + 1, a0, a1, x1 => iteB (decide (x1 < (a0.length : Int))) (grd (0 ≤ x1 ∧ x1 < (a0.length : Int)) ((F15 m1 (a0.getD x1.toNat default) a1).bind fun v4 => iteB v4 (some true) (F32_L1 m1 a0 a1 (IntKind.wrap .i64 (x1 + (1 : Int)))))) (some false)
def F32 (n : Nat) (a0 : List (List UInt8)) (a1 : List UInt8) : Option (Bool) := F32_L1 n a0 a1 (0 : Int)
set_option maxHeartbeats 4000000 in
theorem F32_ok : ∀ (n : Nat) (a0 : List (List UInt8)) (a1 : List UInt8) (r : Bool), F32 n a0 a1 = some r → FnC Tryd.prog 32 [.sl 1 false (List.map eS a0), .imm (.string (bs a1))] (.imm (.bool r))
  | n, a0, a1, r, h => by
    unfold F32 at h
    refine FnC.goX mixed Tryd.func32 (by kernel_rfl) rfl ?_
    simp only [Tryd.ntmps32, List.length_cons, List.length_nil, List.replicate, List.cons_append, List.nil_append, Nat.reduceAdd, Nat.reduceSub]
    refine runX_seq ?_
    refine runX_regionC fun C hC => ?_
    try simp -implicitDefEqProofs (maxSteps := 4000000) (disch := first | omega | decide | (simp only [go_sem]; omega)) only [go_sem, ↓reduceIte]
    repeat (with_reducible refine And.intro (by first | assumption | omega | (simp; done) | (simp; omega)) ?_)
    refine toEnd hC ?_
    refine endX_seq ?_
    refine runX_seq ?_
    refine runX_seq ?_
    refine runX_regionC fun C hC => ?_
    try simp -implicitDefEqProofs (maxSteps := 4000000) (disch := first | omega | decide | (simp only [go_sem]; omega)) only [go_sem, ↓reduceIte]
    repeat (with_reducible refine And.intro (by first | assumption | omega | (simp; done) | (simp; omega)) ?_)
    refine toEnd hC ?_
    refine endX_seq ?_
    refine runX_block ?_
    refine runX_loop [0, 1, 5] (fun m S => ∃ (x1 : Int), S = F32_S1 a0 a1 x1 ∧ m ≤ n ∧ F32_L1 m a0 a1 x1 = some r) n ⟨F32_S1 a0 a1 (0 : Int), ?_, (0 : Int), rfl, Nat.le_refl _, h⟩ ?_
    · simp only [F32_S1]
      (try simp -implicitDefEqProofs (maxSteps := 4000000) (disch := first | omega | decide | (simp only [go_sem]; omega)) only [go_sem, ↓reduceIte])
      first | exact leS_refl _ | (refine leS_le ?_ ?_ <;> first | exact leL_refl _ | exact leOs_refl _ | (repeat (first | exact leL_refl _ | refine leL_cons (by first | exact leT_refl _ | exact leT_virt | exact leT_junk _ | exact leT_sl | exact leT_sln | exact leT_nil) ?_)))
    · clear h
      rintro m1 S ⟨x1, rfl, hm1, h⟩
      cases m1 with
      | zero => first | cases (show (none : Option _) = some _ from h) | (rw [F32_L1] at h; cases h)
      | succ m1 =>
        rw [F32_L1] at h
        simp only [F32_S1]
        refine runX_seq ?_
        refine runX_seq ?_
        refine runX_regionC fun C hC => ?_
        try simp -implicitDefEqProofs (maxSteps := 4000000) (disch := first | omega | decide | (simp only [go_sem]; omega)) only [go_sem, ↓reduceIte]
        repeat (with_reducible refine And.intro (by first | assumption | omega | (simp; done) | (simp; omega)) ?_)
        refine toEnd hC ?_
        refine endX_seq ?_
        rcases iteB_some h with ⟨c2, h⟩ | ⟨c2, h⟩
        · refine runX_condT rfl c2 ?_
          refine runX_skip ?_
          refine endX_seq ?_
          refine runX_seq ?_
          refine runX_block ?_
          refine runX_seq ?_
          refine runX_regionC fun C hC => ?_
          obtain ⟨g3, h⟩ := grd_some h
          obtain ⟨v4, h4, h⟩ := bnd_some h
          try simp -implicitDefEqProofs (maxSteps := 4000000) (disch := first | omega | decide | (simp only [go_sem]; omega)) only [go_sem, ↓reduceIte]
          repeat (with_reducible refine And.intro (by first | assumption | omega | (simp; done) | (simp; omega)) ?_)
          refine callG_X (F15_ok m1 (a0.getD x1.toNat default) a1 _ h4) (by repeat (first | exact leL_refl _ | refine leL_cons (by first | exact leT_refl _ | exact leT_virt | exact leT_junk _ | exact leT_sl | exact leT_sln | exact leT_nil) ?_)) ?_
          try simp -implicitDefEqProofs (maxSteps := 4000000) (disch := first | omega | decide | (simp only [go_sem]; omega)) only [go_sem, ↓reduceIte]
          repeat (with_reducible refine And.intro (by first | assumption | omega | (simp; done) | (simp; omega)) ?_)
          refine toEnd hC ?_
          refine endX_seq ?_
          rcases iteB_some h with ⟨c5, h⟩ | ⟨c5, h⟩
          · refine runX_condT rfl c5 ?_
            refine runX_seq ?_
            refine runX_regionC fun C hC => ?_
            try simp -implicitDefEqProofs (maxSteps := 4000000) (disch := first | omega | decide | (simp only [go_sem]; omega)) only [go_sem, ↓reduceIte]
            repeat (with_reducible refine And.intro (by first | assumption | omega | (simp; done) | (simp; omega)) ?_)
            refine toEnd hC ?_
            refine endX_seq ?_
            refine runX_ret ?_
            refine endX_blkR ?_
            refine endX_seqR ?_
            refine endX_q (roundQ_ret ?_)
            refine endX_blkR ?_
            refine endX_seqR ?_
            refine endX_q ?_
            obtain rfl := Option.some.inj h
            show RetW _ _ _ _ _
            simp only [RetW]
            (try simp -implicitDefEqProofs (maxSteps := 4000000) (disch := first | omega | decide | (simp only [go_sem]; omega)) only [go_sem, ↓reduceIte])
            (try simp (disch := omega) only [if_pos, Nat.sub_zero])
            exact leT_refl _
          · refine runX_condF rfl c5 ?_
            refine runX_skip ?_
            refine endX_blk ?_
            refine endX_seq ?_
            refine runX_regionC fun C hC => ?_
            try simp -implicitDefEqProofs (maxSteps := 4000000) (disch := first | omega | decide | (simp only [go_sem]; omega)) only [go_sem, ↓reduceIte]
            repeat (with_reducible refine And.intro (by first | assumption | omega | (simp; done) | (simp; omega)) ?_)
            refine toEnd hC ?_
            refine endX_q (roundQ_normal ⟨m1, by omega, F32_S1 a0 a1 (IntKind.wrap .i64 (x1 + (1 : Int))), ?_, (IntKind.wrap .i64 (x1 + (1 : Int))), rfl, by omega, h⟩)
            simp only [F32_S1]
            (try simp -implicitDefEqProofs (maxSteps := 4000000) (disch := first | omega | decide | (simp only [go_sem]; omega)) only [go_sem, ↓reduceIte])
            first | exact leS_refl _ | (refine leS_le ?_ ?_ <;> first | exact leL_refl _ | exact leOs_refl _ | (repeat (first | exact leL_refl _ | refine leL_cons (by first | exact leT_refl _ | exact leT_virt | exact leT_junk _ | exact leT_sl | exact leT_sln | exact leT_nil) ?_)))
        · refine runX_condF rfl c2 ?_
          refine runX_exit ?_
          refine endX_seqE ?_
          refine endX_q (roundQ_exit ?_)
          refine endX_blkE ?_
          refine endX_seq ?_
          refine runX_seq ?_
          refine runX_regionC fun C hC => ?_
          try simp -implicitDefEqProofs (maxSteps := 4000000) (disch := first | omega | decide | (simp only [go_sem]; omega)) only [go_sem, ↓reduceIte]
          repeat (with_reducible refine And.intro (by first | assumption | omega | (simp; done) | (simp; omega)) ?_)
          refine toEnd hC ?_
          refine endX_seq ?_
          refine runX_ret ?_
          refine endX_q ?_
          obtain rfl := Option.some.inj h
          show RetW _ _ _ _ _
          simp only [RetW]
          (try simp -implicitDefEqProofs (maxSteps := 4000000) (disch := first | omega | decide | (simp only [go_sem]; omega)) only [go_sem, ↓reduceIte])
          (try simp (disch := omega) only [if_pos, Nat.sub_zero])
          exact leT_refl _
end Go.Proofs.YtjkfobmfddfjhaaDoorX

set_option linter.unusedVariables false
set_option linter.unusedSimpArgs false
namespace Go.Proofs.YtjkfobmfddfjhaaDoorX
open Go Go.RowKit Go.Proofs
set_option maxRecDepth 100000
attribute [local go_sem] String.reduceEq String.reduceNe reduceCtorEq Int.reduceEq Nat.reduceAdd Nat.reduceSub Nat.reduceMul Nat.reduceLT Nat.reduceLeDiff Nat.reduceEqDiff Nat.reduceBEq Int.reduceToNat Int.reduceLT Int.reduceLE Int.reduceGT Int.reduceGE Int.reduceAdd Int.reduceSub Int.reduceMul Int.reduceNeg Int.reduceBEq Int.reduceBNe Int.reducePow Int.reduceDiv Int.reduceMod Int.reduceTDiv Int.reduceTMod Int.reduceNatCast
/-! ### shadowboxref42.Decide -/
def F13_S1 (a0 : List ((Bool) × (List (List UInt8)) × (List (List UInt8)) × (List (List UInt8)))) (a1 : List UInt8) (a2 : List UInt8) (a3 : List UInt8) (x1 : Int) (x2 : Int) : St := ⟨[.sl 4 false (List.map eT33 a0), .imm (.string (bs a1)), .imm (.string (bs a2)), .imm (.string (bs a3)), .junk, .junk, .junk, .junk, .junk, .imm (.int .i64 x1), .imm (.int .i64 x2), .junk, .junk, .junk, .junk, .junk, .junk, .junk, .junk, .junk, .junk, .junk, .junk, .junk, .junk, .junk, .junk, .junk, .junk, .junk, .junk, .junk, .junk, .junk, .junk, .junk, .junk, .junk, .junk, .junk, .junk, .junk, .junk, .junk], []⟩
def F13_L1 : Nat → (List ((Bool) × (List (List UInt8)) × (List (List UInt8)) × (List (List UInt8)))) → (List UInt8) → (List UInt8) → (List UInt8) → (Int) → (Int) → Option (Int)
  | 0, _, _, _, _, _, _ => none
  | m1 + 1, a0, a1, a2, a3, x1, x2 => iteB (decide (x2 < (a0.length : Int))) (grd (0 ≤ x2 ∧ x2 < (a0.length : Int)) ((F32 m1 ((a0.getD x2.toNat default).2.1) a1).bind fun v5 => iteB v5 ((F32 m1 ((a0.getD x2.toNat default).2.2.1) a2).bind fun v7 => iteB v7 ((F32 m1 ((a0.getD x2.toNat default).2.2.2) a3).bind fun v9 => iteB v9 (iteB (!((a0.getD x2.toNat default).1)) (F13_L1 m1 a0 a1 a2 a3 (2 : Int) (IntKind.wrap .i64 (x2 + (1 : Int)))) (iteB (x1 == (0 : Int)) (F13_L1 m1 a0 a1 a2 a3 (1 : Int) (IntKind.wrap .i64 (x2 + (1 : Int)))) (F13_L1 m1 a0 a1 a2 a3 x1 (IntKind.wrap .i64 (x2 + (1 : Int)))))) (F13_L1 m1 a0 a1 a2 a3 x1 (IntKind.wrap .i64 (x2 + (1 : Int))))) (F13_L1 m1 a0 a1 a2 a3 x1 (IntKind.wrap .i64 (x2 + (1 : Int))))) (F13_L1 m1 a0 a1 a2 a3 x1 (IntKind.wrap .i64 (x2 + (1 : Int)))))) (some x1)
def F13 (n : Nat) (a0 : List ((Bool) × (List (List UInt8)) × (List (List UInt8)) × (List (List UInt8)))) (a1 : List UInt8) (a2 : List UInt8) (a3 : List UInt8) : Option (Int) := F13_L1 n a0 a1 a2 a3 (0 : Int) (0 : Int)
set_option maxHeartbeats 4000000 in
theorem F13_ok : ∀ (n : Nat) (a0 : List ((Bool) × (List (List UInt8)) × (List (List UInt8)) × (List (List UInt8)))) (a1 : List UInt8) (a2 : List UInt8) (a3 : List UInt8) (r : Int), F13 n a0 a1 a2 a3 = some r → FnC Tryd.prog 13 [.sl 4 false (List.map eT33 a0), .imm (.string (bs a1)), .imm (.string (bs a2)), .imm (.string (bs a3))] (.imm (.int .i64 r))
  | n, a0, a1, a2, a3, r, h => by
    unfold F13 at h
    refine FnC.goX mixed Tryd.func13 (by kernel_rfl) rfl ?_
    simp only [Tryd.ntmps13, List.length_cons, List.length_nil, List.replicate, List.cons_append, List.nil_append, Nat.reduceAdd, Nat.reduceSub]
    refine runX_seq ?_
    refine runX_regionC fun C hC => ?_
    try simp -implicitDefEqProofs (maxSteps := 4000000) (disch := first | omega | decide | (simp only [go_sem]; omega)) only [go_sem, ↓reduceIte]
    repeat (with_reducible refine And.intro (by first | assumption | omega | (simp; done) | (simp; omega)) ?_)
    refine toEnd hC ?_
    refine endX_seq ?_
    refine runX_seq ?_
    refine runX_regionC fun C hC => ?_
    try simp -implicitDefEqProofs (maxSteps := 4000000) (disch := first | omega | decide | (simp only [go_sem]; omega)) only [go_sem, ↓reduceIte]
    repeat (with_reducible refine And.intro (by first | assumption | omega | (simp; done) | (simp; omega)) ?_)
    refine toEnd hC ?_
    refine endX_seq ?_
    refine runX_seq ?_
    refine runX_seq ?_
    refine runX_regionC fun C hC => ?_
    try simp -implicitDefEqProofs (maxSteps := 4000000) (disch := first | omega | decide | (simp only [go_sem]; omega)) only [go_sem, ↓reduceIte]
    repeat (with_reducible refine And.intro (by first | assumption | omega | (simp; done) | (simp; omega)) ?_)
    refine toEnd hC ?_
    refine endX_seq ?_
    refine runX_block ?_
    refine runX_loop [0, 1, 2, 3, 9, 10] (fun m S => ∃ (x1 : Int) (x2 : Int), S = F13_S1 a0 a1 a2 a3 x1 x2 ∧ m ≤ n ∧ F13_L1 m a0 a1 a2 a3 x1 x2 = some r) n ⟨F13_S1 a0 a1 a2 a3 (0 : Int) (0 : Int), ?_, (0 : Int), (0 : Int), rfl, Nat.le_refl _, h⟩ ?_
    · simp only [F13_S1]
      (try simp -implicitDefEqProofs (maxSteps := 4000000) (disch := first | omega | decide | (simp only [go_sem]; omega)) only [go_sem, ↓reduceIte])
      first | exact leS_refl _ | (refine leS_le ?_ ?_ <;> first | exact leL_refl _ | exact leOs_refl _ | (repeat (first | exact leL_refl _ | refine leL_cons (by first | exact leT_refl _ | exact leT_virt | exact leT_junk _ | exact leT_sl | exact leT_sln | exact leT_nil) ?_)))
    · clear h
      rintro m1 S ⟨x1, x2, rfl, hm1, h⟩
      cases m1 with
      | zero => first | cases (show (none : Option _) = some _ from h) | (rw [F13_L1] at h; cases h)
      | succ m1 =>
        rw [F13_L1] at h
        simp only [F13_S1]
        refine runX_seq ?_
        refine runX_seq ?_
        refine runX_regionC fun C hC => ?_
        try simp -implicitDefEqProofs (maxSteps := 4000000) (disch := first | omega | decide | (simp only [go_sem]; omega)) only [go_sem, ↓reduceIte]
        repeat (with_reducible refine And.intro (by first | assumption | omega | (simp; done) | (simp; omega)) ?_)
        refine toEnd hC ?_
        refine endX_seq ?_
        rcases iteB_some h with ⟨c3, h⟩ | ⟨c3, h⟩
        · refine runX_condT rfl c3 ?_
          refine runX_skip ?_
          refine endX_seq ?_
          refine runX_seq ?_
          refine runX_block ?_
          refine runX_seq ?_
          refine runX_regionC fun C hC => ?_
          obtain ⟨g4, h⟩ := grd_some h
          try simp -implicitDefEqProofs (maxSteps := 4000000) (disch := first | omega | decide | (simp only [go_sem]; omega)) only [go_sem, ↓reduceIte]
          repeat (with_reducible refine And.intro (by first | assumption | omega | (simp; done) | (simp; omega)) ?_)
          refine toEnd hC ?_
          refine endX_seq ?_
          refine runX_seq ?_
          refine runX_regionC fun C hC => ?_
          obtain ⟨v5, h5, h⟩ := bnd_some h
          try simp -implicitDefEqProofs (maxSteps := 4000000) (disch := first | omega | decide | (simp only [go_sem]; omega)) only [go_sem, ↓reduceIte]
          repeat (with_reducible refine And.intro (by first | assumption | omega | (simp; done) | (simp; omega)) ?_)
          refine callG_X (F32_ok m1 ((a0.getD x2.toNat default).2.1) a1 _ h5) (by repeat (first | exact leL_refl _ | refine leL_cons (by first | exact leT_refl _ | exact leT_virt | exact leT_junk _ | exact leT_sl | exact leT_sln | exact leT_nil) ?_)) ?_
          try simp -implicitDefEqProofs (maxSteps := 4000000) (disch := first | omega | decide | (simp only [go_sem]; omega)) only [go_sem, ↓reduceIte]
          repeat (with_reducible refine And.intro (by first | assumption | omega | (simp; done) | (simp; omega)) ?_)
          rcases iteB_some h with ⟨c6, h⟩ | ⟨c6, h⟩
          · refine guardK_T c6 ?_
            obtain ⟨v7, h7, h⟩ := bnd_some h
            try simp -implicitDefEqProofs (maxSteps := 4000000) (disch := first | omega | decide | (simp only [go_sem]; omega)) only [go_sem, ↓reduceIte]
            repeat (with_reducible refine And.intro (by first | assumption | omega | (simp; done) | (simp; omega)) ?_)
            refine callG_X (F32_ok m1 ((a0.getD x2.toNat default).2.2.1) a2 _ h7) (by repeat (first | exact leL_refl _ | refine leL_cons (by first | exact leT_refl _ | exact leT_virt | exact leT_junk _ | exact leT_sl | exact leT_sln | exact leT_nil) ?_)) ?_
            try simp -implicitDefEqProofs (maxSteps := 4000000) (disch := first | omega | decide | (simp only [go_sem]; omega)) only [go_sem, ↓reduceIte]
            repeat (with_reducible refine And.intro (by first | assumption | omega | (simp; done) | (simp; omega)) ?_)
            rcases iteB_some h with ⟨c8, h⟩ | ⟨c8, h⟩
            · refine guardK_T c8 ?_
              obtain ⟨v9, h9, h⟩ := bnd_some h
              try simp -implicitDefEqProofs (maxSteps := 4000000) (disch := first | omega | decide | (simp only [go_sem]; omega)) only [go_sem, ↓reduceIte]
              repeat (with_reducible refine And.intro (by first | assumption | omega | (simp; done) | (simp; omega)) ?_)
              refine callG_X (F32_ok m1 ((a0.getD x2.toNat default).2.2.2) a3 _ h9) (by repeat (first | exact leL_refl _ | refine leL_cons (by first | exact leT_refl _ | exact leT_virt | exact leT_junk _ | exact leT_sl | exact leT_sln | exact leT_nil) ?_)) ?_
              try simp -implicitDefEqProofs (maxSteps := 4000000) (disch := first | omega | decide | (simp only [go_sem]; omega)) only [go_sem, ↓reduceIte]
              repeat (with_reducible refine And.intro (by first | assumption | omega | (simp; done) | (simp; omega)) ?_)
              refine toEnd hC ?_
              refine endX_seq ?_
              rcases iteB_some h with ⟨c10, h⟩ | ⟨c10, h⟩
              · refine runX_condT rfl c10 ?_
                refine runX_seq ?_
                refine runX_regionC fun C hC => ?_
                try simp -implicitDefEqProofs (maxSteps := 4000000) (disch := first | omega | decide | (simp only [go_sem]; omega)) only [go_sem, ↓reduceIte]
                repeat (with_reducible refine And.intro (by first | assumption | omega | (simp; done) | (simp; omega)) ?_)
                refine toEnd hC ?_
                refine endX_seq ?_
                rcases iteB_some h with ⟨c11, h⟩ | ⟨c11, h⟩
                · refine runX_condT rfl c11 ?_
                  refine runX_regionC fun C hC => ?_
                  try simp -implicitDefEqProofs (maxSteps := 4000000) (disch := first | omega | decide | (simp only [go_sem]; omega)) only [go_sem, ↓reduceIte]
                  repeat (with_reducible refine And.intro (by first | assumption | omega | (simp; done) | (simp; omega)) ?_)
                  refine toEnd hC ?_
                  refine endX_blk ?_
                  refine endX_seq ?_
                  refine runX_regionC fun C hC => ?_
                  try simp -implicitDefEqProofs (maxSteps := 4000000) (disch := first | omega | decide | (simp only [go_sem]; omega)) only [go_sem, ↓reduceIte]
                  repeat (with_reducible refine And.intro (by first | assumption | omega | (simp; done) | (simp; omega)) ?_)
                  refine toEnd hC ?_
                  refine endX_q (roundQ_normal ⟨m1, by omega, F13_S1 a0 a1 a2 a3 (2 : Int) (IntKind.wrap .i64 (x2 + (1 : Int))), ?_, (2 : Int), (IntKind.wrap .i64 (x2 + (1 : Int))), rfl, by omega, h⟩)
                  simp only [F13_S1]
                  (try simp -implicitDefEqProofs (maxSteps := 4000000) (disch := first | omega | decide | (simp only [go_sem]; omega)) only [go_sem, ↓reduceIte])
                  first | exact leS_refl _ | (refine leS_le ?_ ?_ <;> first | exact leL_refl _ | exact leOs_refl _ | (repeat (first | exact leL_refl _ | refine leL_cons (by first | exact leT_refl _ | exact leT_virt | exact leT_junk _ | exact leT_sl | exact leT_sln | exact leT_nil) ?_)))
                · refine runX_condF rfl c11 ?_
                  refine runX_seq ?_
                  refine runX_regionC fun C hC => ?_
                  try simp -implicitDefEqProofs (maxSteps := 4000000) (disch := first | omega | decide | (simp only [go_sem]; omega)) only [go_sem, ↓reduceIte]
                  repeat (with_reducible refine And.intro (by first | assumption | omega | (simp; done) | (simp; omega)) ?_)
                  refine toEnd hC ?_
                  refine endX_seq ?_
                  rcases iteB_some h with ⟨c12, h⟩ | ⟨c12, h⟩
                  · refine runX_condT rfl c12 ?_
                    refine runX_regionC fun C hC => ?_
                    try simp -implicitDefEqProofs (maxSteps := 4000000) (disch := first | omega | decide | (simp only [go_sem]; omega)) only [go_sem, ↓reduceIte]
                    repeat (with_reducible refine And.intro (by first | assumption | omega | (simp; done) | (simp; omega)) ?_)
                    refine toEnd hC ?_
                    refine endX_blk ?_
                    refine endX_seq ?_
                    refine runX_regionC fun C hC => ?_
                    try simp -implicitDefEqProofs (maxSteps := 4000000) (disch := first | omega | decide | (simp only [go_sem]; omega)) only [go_sem, ↓reduceIte]
                    repeat (with_reducible refine And.intro (by first | assumption | omega | (simp; done) | (simp; omega)) ?_)
                    refine toEnd hC ?_
                    refine endX_q (roundQ_normal ⟨m1, by omega, F13_S1 a0 a1 a2 a3 (1 : Int) (IntKind.wrap .i64 (x2 + (1 : Int))), ?_, (1 : Int), (IntKind.wrap .i64 (x2 + (1 : Int))), rfl, by omega, h⟩)
                    simp only [F13_S1]
                    (try simp -implicitDefEqProofs (maxSteps := 4000000) (disch := first | omega | decide | (simp only [go_sem]; omega)) only [go_sem, ↓reduceIte])
                    first | exact leS_refl _ | (refine leS_le ?_ ?_ <;> first | exact leL_refl _ | exact leOs_refl _ | (repeat (first | exact leL_refl _ | refine leL_cons (by first | exact leT_refl _ | exact leT_virt | exact leT_junk _ | exact leT_sl | exact leT_sln | exact leT_nil) ?_)))
                  · refine runX_condF rfl c12 ?_
                    refine runX_skip ?_
                    refine endX_blk ?_
                    refine endX_seq ?_
                    refine runX_regionC fun C hC => ?_
                    try simp -implicitDefEqProofs (maxSteps := 4000000) (disch := first | omega | decide | (simp only [go_sem]; omega)) only [go_sem, ↓reduceIte]
                    repeat (with_reducible refine And.intro (by first | assumption | omega | (simp; done) | (simp; omega)) ?_)
                    refine toEnd hC ?_
                    refine endX_q (roundQ_normal ⟨m1, by omega, F13_S1 a0 a1 a2 a3 x1 (IntKind.wrap .i64 (x2 + (1 : Int))), ?_, x1, (IntKind.wrap .i64 (x2 + (1 : Int))), rfl, by omega, h⟩)
                    simp only [F13_S1]
                    (try simp -implicitDefEqProofs (maxSteps := 4000000) (disch := first | omega | decide | (simp only [go_sem]; omega)) only [go_sem, ↓reduceIte])
                    first | exact leS_refl _ | (refine leS_le ?_ ?_ <;> first | exact leL_refl _ | exact leOs_refl _ | (repeat (first | exact leL_refl _ | refine leL_cons (by first | exact leT_refl _ | exact leT_virt | exact leT_junk _ | exact leT_sl | exact leT_sln | exact leT_nil) ?_)))
              · refine runX_condF rfl c10 ?_
                refine runX_skip ?_
                refine endX_blk ?_
                refine endX_seq ?_
                refine runX_regionC fun C hC => ?_
                try simp -implicitDefEqProofs (maxSteps := 4000000) (disch := first | omega | decide | (simp only [go_sem]; omega)) only [go_sem, ↓reduceIte]
                repeat (with_reducible refine And.intro (by first | assumption | omega | (simp; done) | (simp; omega)) ?_)
                refine toEnd hC ?_
                refine endX_q (roundQ_normal ⟨m1, by omega, F13_S1 a0 a1 a2 a3 x1 (IntKind.wrap .i64 (x2 + (1 : Int))), ?_, x1, (IntKind.wrap .i64 (x2 + (1 : Int))), rfl, by omega, h⟩)
                simp only [F13_S1]
                (try simp -implicitDefEqProofs (maxSteps := 4000000) (disch := first | omega | decide | (simp only [go_sem]; omega)) only [go_sem, ↓reduceIte])
                first | exact leS_refl _ | (refine leS_le ?_ ?_ <;> first | exact leL_refl _ | exact leOs_refl _ | (repeat (first | exact leL_refl _ | refine leL_cons (by first | exact leT_refl _ | exact leT_virt | exact leT_junk _ | exact leT_sl | exact leT_sln | exact leT_nil) ?_)))
            · refine guardK_F c8 ?_
              try simp -implicitDefEqProofs (maxSteps := 4000000) (disch := first | omega | decide | (simp only [go_sem]; omega)) only [go_sem, ↓reduceIte]
              repeat (with_reducible refine And.intro (by first | assumption | omega | (simp; done) | (simp; omega)) ?_)
              refine toEnd hC ?_
              refine endX_seq ?_
              refine runX_condF rfl rfl ?_
              refine runX_skip ?_
              refine endX_blk ?_
              refine endX_seq ?_
              refine runX_regionC fun C hC => ?_
              try simp -implicitDefEqProofs (maxSteps := 4000000) (disch := first | omega | decide | (simp only [go_sem]; omega)) only [go_sem, ↓reduceIte]
              repeat (with_reducible refine And.intro (by first | assumption | omega | (simp; done) | (simp; omega)) ?_)
              refine toEnd hC ?_
              refine endX_q (roundQ_normal ⟨m1, by omega, F13_S1 a0 a1 a2 a3 x1 (IntKind.wrap .i64 (x2 + (1 : Int))), ?_, x1, (IntKind.wrap .i64 (x2 + (1 : Int))), rfl, by omega, h⟩)
              simp only [F13_S1]
              (try simp -implicitDefEqProofs (maxSteps := 4000000) (disch := first | omega | decide | (simp only [go_sem]; omega)) only [go_sem, ↓reduceIte])
              first | exact leS_refl _ | (refine leS_le ?_ ?_ <;> first | exact leL_refl _ | exact leOs_refl _ | (repeat (first | exact leL_refl _ | refine leL_cons (by first | exact leT_refl _ | exact leT_virt | exact leT_junk _ | exact leT_sl | exact leT_sln | exact leT_nil) ?_)))
          · refine guardK_F c6 ?_
            try simp -implicitDefEqProofs (maxSteps := 4000000) (disch := first | omega | decide | (simp only [go_sem]; omega)) only [go_sem, ↓reduceIte]
            repeat (with_reducible refine And.intro (by first | assumption | omega | (simp; done) | (simp; omega)) ?_)
            refine toEnd hC ?_
            refine endX_seq ?_
            refine runX_condF rfl rfl ?_
            refine runX_skip ?_
            refine endX_blk ?_
            refine endX_seq ?_
            refine runX_regionC fun C hC => ?_
            try simp -implicitDefEqProofs (maxSteps := 4000000) (disch := first | omega | decide | (simp only [go_sem]; omega)) only [go_sem, ↓reduceIte]
            repeat (with_reducible refine And.intro (by first | assumption | omega | (simp; done) | (simp; omega)) ?_)
            refine toEnd hC ?_
            refine endX_q (roundQ_normal ⟨m1, by omega, F13_S1 a0 a1 a2 a3 x1 (IntKind.wrap .i64 (x2 + (1 : Int))), ?_, x1, (IntKind.wrap .i64 (x2 + (1 : Int))), rfl, by omega, h⟩)
            simp only [F13_S1]
            (try simp -implicitDefEqProofs (maxSteps := 4000000) (disch := first | omega | decide | (simp only [go_sem]; omega)) only [go_sem, ↓reduceIte])
            first | exact leS_refl _ | (refine leS_le ?_ ?_ <;> first | exact leL_refl _ | exact leOs_refl _ | (repeat (first | exact leL_refl _ | refine leL_cons (by first | exact leT_refl _ | exact leT_virt | exact leT_junk _ | exact leT_sl | exact leT_sln | exact leT_nil) ?_)))
        · refine runX_condF rfl c3 ?_
          refine runX_exit ?_
          refine endX_seqE ?_
          refine endX_q (roundQ_exit ?_)
          refine endX_blkE ?_
          refine endX_seq ?_
          refine runX_seq ?_
          refine runX_regionC fun C hC => ?_
          try simp -implicitDefEqProofs (maxSteps := 4000000) (disch := first | omega | decide | (simp only [go_sem]; omega)) only [go_sem, ↓reduceIte]
          repeat (with_reducible refine And.intro (by first | assumption | omega | (simp; done) | (simp; omega)) ?_)
          refine toEnd hC ?_
          refine endX_seq ?_
          refine runX_ret ?_
          refine endX_q ?_
          obtain rfl := Option.some.inj h
          show RetW _ _ _ _ _
          simp only [RetW]
          (try simp -implicitDefEqProofs (maxSteps := 4000000) (disch := first | omega | decide | (simp only [go_sem]; omega)) only [go_sem, ↓reduceIte])
          (try simp (disch := omega) only [if_pos, Nat.sub_zero])
          exact leT_refl _
end Go.Proofs.YtjkfobmfddfjhaaDoorX

set_option linter.unusedVariables false
set_option linter.unusedSimpArgs false
namespace Go.Proofs.YtjkfobmfddfjhaaDoorX
open Go Go.RowKit Go.Proofs
set_option maxRecDepth 100000
attribute [local go_sem] String.reduceEq String.reduceNe reduceCtorEq Int.reduceEq Nat.reduceAdd Nat.reduceSub Nat.reduceMul Nat.reduceLT Nat.reduceLeDiff Nat.reduceEqDiff Nat.reduceBEq Int.reduceToNat Int.reduceLT Int.reduceLE Int.reduceGT Int.reduceGE Int.reduceAdd Int.reduceSub Int.reduceMul Int.reduceNeg Int.reduceBEq Int.reduceBNe Int.reducePow Int.reduceDiv Int.reduceMod Int.reduceTDiv Int.reduceTMod Int.reduceNatCast
/-! ### shadowboxlaw42.own -/
def F14_S1 (a0 : List ((Bool) × (List (List UInt8)) × (List (List UInt8)) × (List (List UInt8)))) (x1 : Int) (x2 : List ((Bool) × (List (List UInt8)) × (List (List UInt8)) × (List (List UInt8)))) : St := ⟨[.sl 4 false (List.map eT33 a0), .junk, .junk, .rsl 0 4 0 x2.length, .imm (.int .i64 x1), .junk, .junk, .junk, .junk, .junk, .junk, .junk, .junk, .junk, .junk, .junk, .junk, .junk, .junk], [some (.buf 77 4 (List.map eT33 x2) 0)]⟩
def F14_L1 : Nat → (List ((Bool) × (List (List UInt8)) × (List (List UInt8)) × (List (List UInt8)))) → (Int) → (List ((Bool) × (List (List UInt8)) × (List (List UInt8)) × (List (List UInt8)))) → Option (List ((Bool) × (List (List UInt8)) × (List (List UInt8)) × (List (List UInt8))))
  | 0, _, _, _ => none
  | m1 + 1, a0, x1, x2 => iteB (decide (x1 < (a0.length : Int))) (grd (0 ≤ x1 ∧ x1 < (a0.length : Int)) (grd ((x2.length + 1) ≤ 549755813888) (F14_L1 m1 a0 (IntKind.wrap .i64 (x1 + (1 : Int))) (x2 ++ [((a0.getD x1.toNat default).1, (a0.getD x1.toNat default).2.1, (a0.getD x1.toNat default).2.2.1, (a0.getD x1.toNat default).2.2.2)])))) (some x2)
def F14 (n : Nat) (a0 : List ((Bool) × (List (List UInt8)) × (List (List UInt8)) × (List (List UInt8)))) : Option (List ((Bool) × (List (List UInt8)) × (List (List UInt8)) × (List (List UInt8)))) := F14_L1 n a0 (0 : Int) []
set_option maxHeartbeats 4000000 in
theorem F14_ok : ∀ (n : Nat) (a0 : List ((Bool) × (List (List UInt8)) × (List (List UInt8)) × (List (List UInt8)))) (r : List ((Bool) × (List (List UInt8)) × (List (List UInt8)) × (List (List UInt8)))), F14 n a0 = some r → FnC Tryd.prog 14 [.sl 4 false (List.map eT33 a0)] (.sl 4 false (List.map eT33 r))
  | n, a0, r, h => by
    unfold F14 at h
    refine FnC.goX mixed Tryd.func14 (by kernel_rfl) rfl ?_
    simp only [Tryd.ntmps14, List.length_cons, List.length_nil, List.replicate, List.cons_append, List.nil_append, Nat.reduceAdd, Nat.reduceSub]
    refine runX_seq ?_
    refine runX_regionC fun C hC => ?_
    try simp -implicitDefEqProofs (maxSteps := 4000000) (disch := first | omega | decide | (simp only [go_sem]; omega)) only [go_sem, ↓reduceIte]
    repeat (with_reducible refine And.intro (by first | assumption | omega | (simp; done) | (simp; omega)) ?_)
    refine toEnd hC ?_
    refine endX_seq ?_
    refine runX_seq ?_
    refine runX_regionC fun C hC => ?_
    try simp -implicitDefEqProofs (maxSteps := 4000000) (disch := first | omega | decide | (simp only [go_sem]; omega)) only [go_sem, ↓reduceIte]
    repeat (with_reducible refine And.intro (by first | assumption | omega | (simp; done) | (simp; omega)) ?_)
    refine toEnd hC ?_
    refine endX_seq ?_
    refine runX_seq ?_
    refine runX_seq ?_
    refine runX_regionC fun C hC => ?_
    try simp -implicitDefEqProofs (maxSteps := 4000000) (disch := first | omega | decide | (simp only [go_sem]; omega)) only [go_sem, ↓reduceIte]
    repeat (with_reducible refine And.intro (by first | assumption | omega | (simp; done) | (simp; omega)) ?_)
    refine toEnd hC ?_
    refine endX_seq ?_
    refine runX_block ?_
    refine runX_loop [0, 3, 4] (fun m S => ∃ (x1 : Int) (x2 : List ((Bool) × (List (List UInt8)) × (List (List UInt8)) × (List (List UInt8)))), S = F14_S1 a0 x1 x2 ∧ m ≤ n ∧ F14_L1 m a0 x1 x2 = some r) n ⟨F14_S1 a0 (0 : Int) [], ?_, (0 : Int), [], rfl, Nat.le_refl _, h⟩ ?_
    · (try simp -implicitDefEqProofs (maxSteps := 4000000) (disch := first | omega | decide | (simp only [go_sem]; omega)) only [go_sem, ↓reduceIte])
      simp only [F14_S1]
      refine leS_trans (leS_pad _ _ 1) ?_
      simp only [List.replicate, List.cons_append, List.nil_append]
      refine leS_virt 0 77 4 rfl ?_ ?_ rfl
      · repeat (first | exact leL_refl _ | refine leL_cons (by first | exact leT_refl _ | exact leT_virt | exact leT_junk _ | exact leT_sl | exact leT_sln | exact leT_nil) ?_)
      · repeat (first | exact leOs_refl _ | refine leOs.cons (by first | exact leO.same _ | (refine leO.box (leT_agg (by repeat (first | exact leL_refl _ | refine leL_cons (by first | exact leT_refl _ | exact leT_virt | exact leT_junk _ | exact leT_sl | exact leT_sln | exact leT_nil) ?_))) rfl)) ?_)
    · clear h
      rintro m1 S ⟨x1, x2, rfl, hm1, h⟩
      cases m1 with
      | zero => first | cases (show (none : Option _) = some _ from h) | (rw [F14_L1] at h; cases h)
      | succ m1 =>
        rw [F14_L1] at h
        simp only [F14_S1]
        refine runX_seq ?_
        refine runX_seq ?_
        refine runX_regionC fun C hC => ?_
        try simp -implicitDefEqProofs (maxSteps := 4000000) (disch := first | omega | decide | (simp only [go_sem]; omega)) only [go_sem, ↓reduceIte]
        repeat (with_reducible refine And.intro (by first | assumption | omega | (simp; done) | (simp; omega)) ?_)
        refine toEnd hC ?_
        refine endX_seq ?_
        rcases iteB_some h with ⟨c3, h⟩ | ⟨c3, h⟩
        · refine runX_condT rfl c3 ?_
          refine runX_skip ?_
          refine endX_seq ?_
          refine runX_seq ?_
          refine runX_block ?_
          refine runX_regionC fun C hC => ?_
          obtain ⟨g4, h⟩ := grd_some h
          try simp -implicitDefEqProofs (maxSteps := 4000000) (disch := first | omega | decide | (simp only [go_sem]; omega)) only [go_sem, ↓reduceIte]
          repeat (with_reducible refine And.intro (by first | assumption | omega | (simp; done) | (simp; omega)) ?_)
          refine buildX_val ?_
          obtain ⟨g5, h⟩ := grd_some h
          try simp -implicitDefEqProofs (maxSteps := 4000000) (disch := first | omega | decide | (simp only [go_sem]; omega)) only [go_sem, ↓reduceIte]
          repeat (with_reducible refine And.intro (by first | assumption | omega | (simp; done) | (simp; omega)) ?_)
          refine toEnd hC ?_
          refine endX_blk ?_
          refine endX_seq ?_
          refine runX_regionC fun C hC => ?_
          try simp -implicitDefEqProofs (maxSteps := 4000000) (disch := first | omega | decide | (simp only [go_sem]; omega)) only [go_sem, ↓reduceIte]
          repeat (with_reducible refine And.intro (by first | assumption | omega | (simp; done) | (simp; omega)) ?_)
          refine toEnd hC ?_
          refine endX_q (roundQ_normal ⟨m1, by omega, F14_S1 a0 (IntKind.wrap .i64 (x1 + (1 : Int))) (x2 ++ [((a0.getD x1.toNat default).1, (a0.getD x1.toNat default).2.1, (a0.getD x1.toNat default).2.2.1, (a0.getD x1.toNat default).2.2.2)]), ?_, (IntKind.wrap .i64 (x1 + (1 : Int))), (x2 ++ [((a0.getD x1.toNat default).1, (a0.getD x1.toNat default).2.1, (a0.getD x1.toNat default).2.2.1, (a0.getD x1.toNat default).2.2.2)]), rfl, by omega, h⟩)
          simp only [F14_S1]
          (try simp -implicitDefEqProofs (maxSteps := 4000000) (disch := first | omega | decide | (simp only [go_sem]; omega)) only [go_sem, ↓reduceIte])
          first | exact leS_refl _ | (refine leS_le ?_ ?_ <;> first | exact leL_refl _ | exact leOs_refl _ | (repeat (first | exact leL_refl _ | refine leL_cons (by first | exact leT_refl _ | exact leT_virt | exact leT_junk _ | exact leT_sl | exact leT_sln | exact leT_nil) ?_)))
        · refine runX_condF rfl c3 ?_
          refine runX_exit ?_
          refine endX_seqE ?_
          refine endX_q (roundQ_exit ?_)
          refine endX_blkE ?_
          refine endX_seq ?_
          refine runX_seq ?_
          refine runX_regionC fun C hC => ?_
          try simp -implicitDefEqProofs (maxSteps := 4000000) (disch := first | omega | decide | (simp only [go_sem]; omega)) only [go_sem, ↓reduceIte]
          repeat (with_reducible refine And.intro (by first | assumption | omega | (simp; done) | (simp; omega)) ?_)
          refine toEnd hC ?_
          refine endX_seq ?_
          refine runX_ret ?_
          refine endX_q ?_
          obtain rfl := Option.some.inj h
          show RetW _ _ _ _ _
          simp only [RetW]
          (try simp -implicitDefEqProofs (maxSteps := 4000000) (disch := first | omega | decide | (simp only [go_sem]; omega)) only [go_sem, ↓reduceIte])
          (try simp (disch := omega) only [if_pos, Nat.sub_zero])
          exact leT_refl _
end Go.Proofs.YtjkfobmfddfjhaaDoorX

/- Policies: how great they are, what they say, and what the reference says. -/
set_option linter.unusedVariables false
set_option linter.unusedSimpArgs false
namespace Go.Proofs.YtjkfobmfddfjhaaDoorX
open Go

/-- A statement of a policy. -/
abbrev Stm := Bool × List (List UInt8) × List (List UInt8) × List (List UInt8)
/-! ### size -/
def sumT : List (List UInt8) → Int → Int
  | [], x => x
  | p :: r, x => if x < 3000 then sumT r (x + 5 + (if (3000 : Int) < (p.length : Int) then 3000 else (p.length : Int))) else x
theorem sumT_bd : ∀ (t : List (List UInt8)) (x : Int), 0 ≤ x → x ≤ 6100 → x ≤ sumT t x ∧ sumT t x ≤ 6100
  | [], x, h0, h1 => by rw [sumT]; omega
  | p :: r, x, h0, h1 => by
    rw [sumT]
    by_cases h : x < 3000
    · rw [if_pos h]
      split
      · have := sumT_bd r (x + 5 + 3000) (by omega) (by omega); omega
      · have := sumT_bd r (x + 5 + (p.length : Int)) (by omega) (by omega); omega
    · rw [if_neg h]; omega
theorem sumT_few : ∀ (t : List (List UInt8)) (x : Int), 0 ≤ x → sumT t x < 3000 → x + 5 * t.length ≤ sumT t x ∧ ∀ p ∈ t, p.length < 3000
  | [], x, h0, h => by rw [sumT] at h ⊢; exact ⟨by simp, by simp⟩
  | p :: r, x, h0, h => by
    rw [sumT] at h ⊢
    by_cases hx : x < 3000
    · rw [if_pos hx] at h ⊢
      by_cases hp : (3000 : Int) < (p.length : Int)
      · rw [if_pos hp] at h ⊢
        have := sumT_few r _ (by omega) h
        omega
      · rw [if_neg hp] at h ⊢
        obtain ⟨h1, h2⟩ := sumT_few r _ (by omega) h
        refine ⟨by simp only [List.length_cons]; omega, fun q hq => ?_⟩
        rcases List.mem_cons.1 hq with rfl | hq
        · omega
        · exact h2 q hq
    · rw [if_neg hx] at h; omega
def sumS (s : Stm) (x : Int) : Int := sumT s.2.2.2 (sumT s.2.2.1 (sumT s.2.1 x)) + 20
def sumL : List Stm → Int → Int
  | [], x => x
  | s :: r, x => if x < 3000 then sumL r (sumS s x) else x
theorem sumS_bd (s : Stm) (x : Int) (h0 : 0 ≤ x) (h1 : x ≤ 6100) : x + 20 ≤ sumS s x ∧ sumS s x ≤ 6120 := by
  unfold sumS
  have a := sumT_bd s.2.1 x h0 h1
  have b := sumT_bd s.2.2.1 (sumT s.2.1 x) (by omega) (by omega)
  have c := sumT_bd s.2.2.2 (sumT s.2.2.1 (sumT s.2.1 x)) (by omega) (by omega)
  omega
/-- What is not too great. -/
def fewS (s : Stm) : Prop := ∀ t, t = s.2.1 ∨ t = s.2.2.1 ∨ t = s.2.2.2 → t.length ≤ 600 ∧ ∀ p ∈ t, p.length < 3000
theorem sumL_few : ∀ (l : List Stm) (x : Int), 0 ≤ x → sumL l x < 3000 → x + 20 * l.length ≤ sumL l x ∧ ∀ s ∈ l, fewS s
  | [], x, h0, h => by rw [sumL] at h ⊢; exact ⟨by simp, by simp⟩
  | s :: r, x, h0, h => by
    rw [sumL] at h ⊢
    by_cases hx : x < 3000
    · rw [if_pos hx] at h ⊢
      have hb := sumS_bd s x h0 (by omega)
      obtain ⟨h1, h2⟩ := sumL_few r _ (by omega) h
      refine ⟨by simp only [List.length_cons]; omega, fun q hq => ?_⟩
      rcases List.mem_cons.1 hq with rfl | hq
      · -- this one
        have hs : sumS q x < 3000 := by have : (0 : Int) ≤ 20 * (r.length : Int) := by omega
                                        omega
        unfold sumS at hs
        have a := sumT_bd q.2.1 x h0 (by omega)
        have b := sumT_bd q.2.2.1 (sumT q.2.1 x) (by omega) (by omega)
        have c := sumT_bd q.2.2.2 (sumT q.2.2.1 (sumT q.2.1 x)) (by omega) (by omega)
        have a' := sumT_few q.2.1 x h0 (by omega)
        have b' := sumT_few q.2.2.1 (sumT q.2.1 x) (by omega) (by omega)
        have c' := sumT_few q.2.2.2 (sumT q.2.2.1 (sumT q.2.1 x)) (by omega) (by omega)
        rintro t (rfl | rfl | rfl)
        · exact ⟨by omega, a'.2⟩
        · exact ⟨by omega, b'.2⟩
        · exact ⟨by omega, c'.2⟩
      · exact h2 q hq
    · rw [if_neg hx] at h; omega
/-- Lists as long as a machine has them. -/
def lenS3 (s : Stm) : Prop := s.2.1.length ≤ 9223372036854775807 ∧ s.2.2.1.length ≤ 9223372036854775807 ∧ s.2.2.2.length ≤ 9223372036854775807
theorem ev_size4 (l : List Stm) (i : Nat) (hi : i < l.length) (hl : l.length ≤ 9223372036854775807) (hs : lenS3 (l.getD i default)) (r : Int) : ∀ (d j : Nat) (x : Int), j + d = (l.getD i default).2.2.2.length → 0 ≤ x → x ≤ 6100 → Ev (fun k => F11_L1 k l (sumT ((l.getD i default).2.2.2.drop j) x + 20) ((i + 1 : Nat) : Int)) r → Ev (fun k => F11_L4 k l (i : Int) x (j : Int)) r := by
  intro d
  have w1 : IntKind.wrap .i64 ((i : Int) + 1) = ((i + 1 : Nat) : Int) := by rw [w64 (by omega)]; omega
  obtain ⟨hs1, hs2, hs3⟩ := hs
  induction d with
  | zero =>
    intro j x hj h0 h1 h
    rw [List.drop_of_length_le (by omega), sumT] at h
    refine Ev.step (h.congr fun k => ?_)
    rw [F11_L4, toNat_nat, decide_eq_false (by omega), iteB_f, w64 (n := x + 20) (by omega), w1]
  | succ d ih =>
    intro j x hj h0 h1 h
    rw [drop_cons (l.getD i default).2.2.2 j default (by omega), sumT] at h
    by_cases hlt : x < 3000
    · rw [if_pos hlt] at h
      have hm : IntKind.wrap .i64 (IntKind.wrap .i64 (x + 5) + (if (3000 : Int) < ((((l.getD i default).2.2.2).getD j default).length : Int) then (3000 : Int) else ((((l.getD i default).2.2.2).getD j default).length : Int))) = x + 5 + (if (3000 : Int) < ((((l.getD i default).2.2.2).getD j default).length : Int) then (3000 : Int) else ((((l.getD i default).2.2.2).getD j default).length : Int)) := by
        split <;> rw [w64 (n := x + 5) (by omega), w64 (by omega)]
      have wj : IntKind.wrap .i64 ((j : Int) + 1) = ((j + 1 : Nat) : Int) := by rw [w64 (by omega)]; omega
      refine Ev.step ((ih (j + 1) _ (by omega) (by split <;> omega) (by split <;> omega) h).congr fun k => ?_)
      rw [F11_L4, toNat_nat, decide_eq_true (by omega), iteB_t, decide_eq_true hlt, iteB_t, grd_t _ (by omega), toNat_nat, hm, wj]
    · rw [if_neg hlt] at h
      refine Ev.step (h.congr fun k => ?_)
      rw [F11_L4, toNat_nat, decide_eq_true (by omega), iteB_t, decide_eq_false hlt, iteB_f, w64 (n := x + 20) (by omega), w1]
theorem ev_size5 (l : List Stm) (i : Nat) (hi : i < l.length) (hl : l.length ≤ 9223372036854775807) (hs : lenS3 (l.getD i default)) (r : Int) : ∀ (d j : Nat) (x : Int), j + d = (l.getD i default).2.2.2.length → 0 ≤ x → x ≤ 6100 → Ev (fun k => F11_L1 k l (sumT ((l.getD i default).2.2.2.drop j) x + 20) ((i + 1 : Nat) : Int)) r → Ev (fun k => F11_L5 k l (i : Int) x (j : Int)) r := by
  intro d
  have w1 : IntKind.wrap .i64 ((i : Int) + 1) = ((i + 1 : Nat) : Int) := by rw [w64 (by omega)]; omega
  obtain ⟨hs1, hs2, hs3⟩ := hs
  induction d with
  | zero =>
    intro j x hj h0 h1 h
    rw [List.drop_of_length_le (by omega), sumT] at h
    refine Ev.step (h.congr fun k => ?_)
    rw [F11_L5, toNat_nat, decide_eq_false (by omega), iteB_f, w64 (n := x + 20) (by omega), w1]
  | succ d ih =>
    intro j x hj h0 h1 h
    rw [drop_cons (l.getD i default).2.2.2 j default (by omega), sumT] at h
    by_cases hlt : x < 3000
    · rw [if_pos hlt] at h
      have hm : IntKind.wrap .i64 (IntKind.wrap .i64 (x + 5) + (if (3000 : Int) < ((((l.getD i default).2.2.2).getD j default).length : Int) then (3000 : Int) else ((((l.getD i default).2.2.2).getD j default).length : Int))) = x + 5 + (if (3000 : Int) < ((((l.getD i default).2.2.2).getD j default).length : Int) then (3000 : Int) else ((((l.getD i default).2.2.2).getD j default).length : Int)) := by
        split <;> rw [w64 (n := x + 5) (by omega), w64 (by omega)]
      have wj : IntKind.wrap .i64 ((j : Int) + 1) = ((j + 1 : Nat) : Int) := by rw [w64 (by omega)]; omega
      refine Ev.step ((ih (j + 1) _ (by omega) (by split <;> omega) (by split <;> omega) h).congr fun k => ?_)
      rw [F11_L5, toNat_nat, decide_eq_true (by omega), iteB_t, decide_eq_true hlt, iteB_t, grd_t _ (by omega), toNat_nat, hm, wj]
    · rw [if_neg hlt] at h
      refine Ev.step (h.congr fun k => ?_)
      rw [F11_L5, toNat_nat, decide_eq_true (by omega), iteB_t, decide_eq_false hlt, iteB_f, w64 (n := x + 20) (by omega), w1]
theorem ev_size7 (l : List Stm) (i : Nat) (hi : i < l.length) (hl : l.length ≤ 9223372036854775807) (hs : lenS3 (l.getD i default)) (r : Int) : ∀ (d j : Nat) (x : Int), j + d = (l.getD i default).2.2.2.length → 0 ≤ x → x ≤ 6100 → Ev (fun k => F11_L1 k l (sumT ((l.getD i default).2.2.2.drop j) x + 20) ((i + 1 : Nat) : Int)) r → Ev (fun k => F11_L7 k l (i : Int) x (j : Int)) r := by
  intro d
  have w1 : IntKind.wrap .i64 ((i : Int) + 1) = ((i + 1 : Nat) : Int) := by rw [w64 (by omega)]; omega
  obtain ⟨hs1, hs2, hs3⟩ := hs
  induction d with
  | zero =>
    intro j x hj h0 h1 h
    rw [List.drop_of_length_le (by omega), sumT] at h
    refine Ev.step (h.congr fun k => ?_)
    rw [F11_L7, toNat_nat, decide_eq_false (by omega), iteB_f, w64 (n := x + 20) (by omega), w1]
  | succ d ih =>
    intro j x hj h0 h1 h
    rw [drop_cons (l.getD i default).2.2.2 j default (by omega), sumT] at h
    by_cases hlt : x < 3000
    · rw [if_pos hlt] at h
      have hm : IntKind.wrap .i64 (IntKind.wrap .i64 (x + 5) + (if (3000 : Int) < ((((l.getD i default).2.2.2).getD j default).length : Int) then (3000 : Int) else ((((l.getD i default).2.2.2).getD j default).length : Int))) = x + 5 + (if (3000 : Int) < ((((l.getD i default).2.2.2).getD j default).length : Int) then (3000 : Int) else ((((l.getD i default).2.2.2).getD j default).length : Int)) := by
        split <;> rw [w64 (n := x + 5) (by omega), w64 (by omega)]
      have wj : IntKind.wrap .i64 ((j : Int) + 1) = ((j + 1 : Nat) : Int) := by rw [w64 (by omega)]; omega
      refine Ev.step ((ih (j + 1) _ (by omega) (by split <;> omega) (by split <;> omega) h).congr fun k => ?_)
      rw [F11_L7, toNat_nat, decide_eq_true (by omega), iteB_t, decide_eq_true hlt, iteB_t, grd_t _ (by omega), toNat_nat, hm, wj]
    · rw [if_neg hlt] at h
      refine Ev.step (h.congr fun k => ?_)
      rw [F11_L7, toNat_nat, decide_eq_true (by omega), iteB_t, decide_eq_false hlt, iteB_f, w64 (n := x + 20) (by omega), w1]
theorem ev_size8 (l : List Stm) (i : Nat) (hi : i < l.length) (hl : l.length ≤ 9223372036854775807) (hs : lenS3 (l.getD i default)) (r : Int) : ∀ (d j : Nat) (x : Int), j + d = (l.getD i default).2.2.2.length → 0 ≤ x → x ≤ 6100 → Ev (fun k => F11_L1 k l (sumT ((l.getD i default).2.2.2.drop j) x + 20) ((i + 1 : Nat) : Int)) r → Ev (fun k => F11_L8 k l (i : Int) x (j : Int)) r := by
  intro d
  have w1 : IntKind.wrap .i64 ((i : Int) + 1) = ((i + 1 : Nat) : Int) := by rw [w64 (by omega)]; omega
  obtain ⟨hs1, hs2, hs3⟩ := hs
  induction d with
  | zero =>
    intro j x hj h0 h1 h
    rw [List.drop_of_length_le (by omega), sumT] at h
    refine Ev.step (h.congr fun k => ?_)
    rw [F11_L8, toNat_nat, decide_eq_false (by omega), iteB_f, w64 (n := x + 20) (by omega), w1]
  | succ d ih =>
    intro j x hj h0 h1 h
    rw [drop_cons (l.getD i default).2.2.2 j default (by omega), sumT] at h
    by_cases hlt : x < 3000
    · rw [if_pos hlt] at h
      have hm : IntKind.wrap .i64 (IntKind.wrap .i64 (x + 5) + (if (3000 : Int) < ((((l.getD i default).2.2.2).getD j default).length : Int) then (3000 : Int) else ((((l.getD i default).2.2.2).getD j default).length : Int))) = x + 5 + (if (3000 : Int) < ((((l.getD i default).2.2.2).getD j default).length : Int) then (3000 : Int) else ((((l.getD i default).2.2.2).getD j default).length : Int)) := by
        split <;> rw [w64 (n := x + 5) (by omega), w64 (by omega)]
      have wj : IntKind.wrap .i64 ((j : Int) + 1) = ((j + 1 : Nat) : Int) := by rw [w64 (by omega)]; omega
      refine Ev.step ((ih (j + 1) _ (by omega) (by split <;> omega) (by split <;> omega) h).congr fun k => ?_)
      rw [F11_L8, toNat_nat, decide_eq_true (by omega), iteB_t, decide_eq_true hlt, iteB_t, grd_t _ (by omega), toNat_nat, hm, wj]
    · rw [if_neg hlt] at h
      refine Ev.step (h.congr fun k => ?_)
      rw [F11_L8, toNat_nat, decide_eq_true (by omega), iteB_t, decide_eq_false hlt, iteB_f, w64 (n := x + 20) (by omega), w1]
theorem ev_size3 (l : List Stm) (i : Nat) (hi : i < l.length) (hl : l.length ≤ 9223372036854775807) (hs : lenS3 (l.getD i default)) (r : Int) : ∀ (d j : Nat) (x : Int), j + d = (l.getD i default).2.2.1.length → 0 ≤ x → x ≤ 6100 → Ev (fun k => F11_L1 k l (sumT (l.getD i default).2.2.2 (sumT ((l.getD i default).2.2.1.drop j) x) + 20) ((i + 1 : Nat) : Int)) r → Ev (fun k => F11_L3 k l (i : Int) x (j : Int)) r := by
  intro d
  have w1 : IntKind.wrap .i64 ((i : Int) + 1) = ((i + 1 : Nat) : Int) := by rw [w64 (by omega)]; omega
  obtain ⟨hs1, hs2, hs3⟩ := hs
  induction d with
  | zero =>
    intro j x hj h0 h1 h
    rw [List.drop_of_length_le (by omega), sumT] at h
    refine Ev.step ((ev_size5 l i hi hl ⟨hs1, hs2, hs3⟩ r _ 0 x (Nat.zero_add _) h0 h1 (by rw [List.drop_zero]; exact h)).congr fun k => ?_)
    rw [F11_L3, toNat_nat, decide_eq_false (by omega), iteB_f, grd_t _ (by omega), grd_t _ (by omega), grd_t _ (by omega)]; rfl
  | succ d ih =>
    intro j x hj h0 h1 h
    rw [drop_cons (l.getD i default).2.2.1 j default (by omega), sumT] at h
    by_cases hlt : x < 3000
    · rw [if_pos hlt] at h
      have hm : IntKind.wrap .i64 (IntKind.wrap .i64 (x + 5) + (if (3000 : Int) < ((((l.getD i default).2.2.1).getD j default).length : Int) then (3000 : Int) else ((((l.getD i default).2.2.1).getD j default).length : Int))) = x + 5 + (if (3000 : Int) < ((((l.getD i default).2.2.1).getD j default).length : Int) then (3000 : Int) else ((((l.getD i default).2.2.1).getD j default).length : Int)) := by
        split <;> rw [w64 (n := x + 5) (by omega), w64 (by omega)]
      have wj : IntKind.wrap .i64 ((j : Int) + 1) = ((j + 1 : Nat) : Int) := by rw [w64 (by omega)]; omega
      refine Ev.step ((ih (j + 1) _ (by omega) (by split <;> omega) (by split <;> omega) h).congr fun k => ?_)
      rw [F11_L3, toNat_nat, decide_eq_true (by omega), iteB_t, decide_eq_true hlt, iteB_t, grd_t _ (by omega), toNat_nat, hm, wj]
    · rw [if_neg hlt] at h
      refine Ev.step ((ev_size4 l i hi hl ⟨hs1, hs2, hs3⟩ r _ 0 x (Nat.zero_add _) h0 h1 (by rw [List.drop_zero]; exact h)).congr fun k => ?_)
      rw [F11_L3, toNat_nat, decide_eq_true (by omega), iteB_t, decide_eq_false hlt, iteB_f, grd_t _ (by omega), grd_t _ (by omega), grd_t _ (by omega)]; rfl
theorem ev_size6 (l : List Stm) (i : Nat) (hi : i < l.length) (hl : l.length ≤ 9223372036854775807) (hs : lenS3 (l.getD i default)) (r : Int) : ∀ (d j : Nat) (x : Int), j + d = (l.getD i default).2.2.1.length → 0 ≤ x → x ≤ 6100 → Ev (fun k => F11_L1 k l (sumT (l.getD i default).2.2.2 (sumT ((l.getD i default).2.2.1.drop j) x) + 20) ((i + 1 : Nat) : Int)) r → Ev (fun k => F11_L6 k l (i : Int) x (j : Int)) r := by
  intro d
  have w1 : IntKind.wrap .i64 ((i : Int) + 1) = ((i + 1 : Nat) : Int) := by rw [w64 (by omega)]; omega
  obtain ⟨hs1, hs2, hs3⟩ := hs
  induction d with
  | zero =>
    intro j x hj h0 h1 h
    rw [List.drop_of_length_le (by omega), sumT] at h
    refine Ev.step ((ev_size8 l i hi hl ⟨hs1, hs2, hs3⟩ r _ 0 x (Nat.zero_add _) h0 h1 (by rw [List.drop_zero]; exact h)).congr fun k => ?_)
    rw [F11_L6, toNat_nat, decide_eq_false (by omega), iteB_f, grd_t _ (by omega), grd_t _ (by omega), grd_t _ (by omega)]; rfl
  | succ d ih =>
    intro j x hj h0 h1 h
    rw [drop_cons (l.getD i default).2.2.1 j default (by omega), sumT] at h
    by_cases hlt : x < 3000
    · rw [if_pos hlt] at h
      have hm : IntKind.wrap .i64 (IntKind.wrap .i64 (x + 5) + (if (3000 : Int) < ((((l.getD i default).2.2.1).getD j default).length : Int) then (3000 : Int) else ((((l.getD i default).2.2.1).getD j default).length : Int))) = x + 5 + (if (3000 : Int) < ((((l.getD i default).2.2.1).getD j default).length : Int) then (3000 : Int) else ((((l.getD i default).2.2.1).getD j default).length : Int)) := by
        split <;> rw [w64 (n := x + 5) (by omega), w64 (by omega)]
      have wj : IntKind.wrap .i64 ((j : Int) + 1) = ((j + 1 : Nat) : Int) := by rw [w64 (by omega)]; omega
      refine Ev.step ((ih (j + 1) _ (by omega) (by split <;> omega) (by split <;> omega) h).congr fun k => ?_)
      rw [F11_L6, toNat_nat, decide_eq_true (by omega), iteB_t, decide_eq_true hlt, iteB_t, grd_t _ (by omega), toNat_nat, hm, wj]
    · rw [if_neg hlt] at h
      refine Ev.step ((ev_size7 l i hi hl ⟨hs1, hs2, hs3⟩ r _ 0 x (Nat.zero_add _) h0 h1 (by rw [List.drop_zero]; exact h)).congr fun k => ?_)
      rw [F11_L6, toNat_nat, decide_eq_true (by omega), iteB_t, decide_eq_false hlt, iteB_f, grd_t _ (by omega), grd_t _ (by omega), grd_t _ (by omega)]; rfl
theorem ev_size2 (l : List Stm) (i : Nat) (hi : i < l.length) (hl : l.length ≤ 9223372036854775807) (hs : lenS3 (l.getD i default)) (r : Int) : ∀ (d j : Nat) (x : Int), j + d = (l.getD i default).2.1.length → 0 ≤ x → x ≤ 6100 → Ev (fun k => F11_L1 k l (sumT (l.getD i default).2.2.2 (sumT (l.getD i default).2.2.1 (sumT ((l.getD i default).2.1.drop j) x)) + 20) ((i + 1 : Nat) : Int)) r → Ev (fun k => F11_L2 k l (i : Int) x (j : Int)) r := by
  intro d
  have w1 : IntKind.wrap .i64 ((i : Int) + 1) = ((i + 1 : Nat) : Int) := by rw [w64 (by omega)]; omega
  obtain ⟨hs1, hs2, hs3⟩ := hs
  induction d with
  | zero =>
    intro j x hj h0 h1 h
    rw [List.drop_of_length_le (by omega), sumT] at h
    refine Ev.step ((ev_size6 l i hi hl ⟨hs1, hs2, hs3⟩ r _ 0 x (Nat.zero_add _) h0 h1 (by rw [List.drop_zero]; exact h)).congr fun k => ?_)
    rw [F11_L2, toNat_nat, decide_eq_false (by omega), iteB_f, grd_t _ (by omega), grd_t _ (by omega), grd_t _ (by omega)]; rfl
  | succ d ih =>
    intro j x hj h0 h1 h
    rw [drop_cons (l.getD i default).2.1 j default (by omega), sumT] at h
    by_cases hlt : x < 3000
    · rw [if_pos hlt] at h
      have hm : IntKind.wrap .i64 (IntKind.wrap .i64 (x + 5) + (if (3000 : Int) < ((((l.getD i default).2.1).getD j default).length : Int) then (3000 : Int) else ((((l.getD i default).2.1).getD j default).length : Int))) = x + 5 + (if (3000 : Int) < ((((l.getD i default).2.1).getD j default).length : Int) then (3000 : Int) else ((((l.getD i default).2.1).getD j default).length : Int)) := by
        split <;> rw [w64 (n := x + 5) (by omega), w64 (by omega)]
      have wj : IntKind.wrap .i64 ((j : Int) + 1) = ((j + 1 : Nat) : Int) := by rw [w64 (by omega)]; omega
      refine Ev.step ((ih (j + 1) _ (by omega) (by split <;> omega) (by split <;> omega) h).congr fun k => ?_)
      rw [F11_L2, toNat_nat, decide_eq_true (by omega), iteB_t, decide_eq_true hlt, iteB_t, grd_t _ (by omega), toNat_nat, hm, wj]
    · rw [if_neg hlt] at h
      refine Ev.step ((ev_size3 l i hi hl ⟨hs1, hs2, hs3⟩ r _ 0 x (Nat.zero_add _) h0 h1 (by rw [List.drop_zero]; exact h)).congr fun k => ?_)
      rw [F11_L2, toNat_nat, decide_eq_true (by omega), iteB_t, decide_eq_false hlt, iteB_f, grd_t _ (by omega), grd_t _ (by omega), grd_t _ (by omega)]; rfl
theorem ev_sizeL (l : List Stm) (hl : l.length ≤ 9223372036854775807) (hs : ∀ s ∈ l, lenS3 s) : ∀ (d i : Nat) (x : Int), i + d = l.length → 0 ≤ x → x ≤ 6200 → Ev (fun k => F11_L1 k l x (i : Int)) (sumL (l.drop i) x) := by
  intro d
  induction d with
  | zero =>
    intro i x hi h0 h1
    rw [List.drop_of_length_le (by omega), sumL]
    refine Ev.step (Ev.pure.congr fun k => ?_)
    rw [F11_L1, decide_eq_false (by omega), iteB_f]
  | succ d ih =>
    intro i x hi h0 h1
    rw [drop_cons l i default (by omega), sumL]
    have hm : l.getD i default ∈ l := by
      rw [List.getD_eq_getElem?_getD, List.getElem?_eq_getElem (by omega)]; exact List.getElem_mem _
    by_cases hlt : x < 3000
    · rw [if_pos hlt]
      have hb := sumS_bd (l.getD i default) x h0 (by omega)
      have hS := ih (i + 1) (sumS (l.getD i default) x) (by omega) (by omega) (by omega)
      refine Ev.step ((ev_size2 l i (by omega) hl (hs _ hm) _ _ 0 x (Nat.zero_add _) h0 (by omega) (by rw [List.drop_zero]; exact hS)).congr fun k => ?_)
      rw [F11_L1, decide_eq_true (by omega), iteB_t, decide_eq_true hlt, iteB_t, grd_t _ (by omega), grd_t _ (by omega), grd_t _ (by omega)]; rfl
    · rw [if_neg hlt]
      refine Ev.step (Ev.pure.congr fun k => ?_)
      rw [F11_L1, decide_eq_true (by omega), iteB_t, decide_eq_false hlt, iteB_f]
theorem ev_size (l : List Stm) (hl : l.length ≤ 9223372036854775807) (hs : ∀ s ∈ l, lenS3 s) : Ev (fun k => F11 k l) (sumL l 0) := (ev_sizeL l hl hs l.length 0 0 (by omega) (by omega) (by omega)).congr fun k => rfl

/-! ### own -/
theorem ev_own_l (l : List Stm) (hl : l.length ≤ 1000000) : ∀ (d i : Nat), i + d = l.length → Ev (fun k => F14_L1 k l (i : Int) (l.take i)) l := by
  intro d
  induction d with
  | zero =>
    intro i hi
    rw [List.take_of_length_le (by omega)]
    refine Ev.step (Ev.pure.congr fun k => ?_)
    rw [F14_L1, decide_eq_false (by omega), iteB_f]
  | succ d ih =>
    intro i hi
    have w1 : IntKind.wrap .i64 ((i : Int) + 1) = ((i + 1 : Nat) : Int) := by rw [w64 (by omega)]; omega
    have e : l.take i ++ [((l.getD i default).1, (l.getD i default).2.1, (l.getD i default).2.2.1, (l.getD i default).2.2.2)] = l.take (i + 1) := by
      rw [List.take_add_one, List.getD_eq_getElem?_getD, List.getElem?_eq_getElem (by omega)]; rfl
    refine Ev.step ((ih (i + 1) (by omega)).congr fun k => ?_)
    rw [F14_L1, decide_eq_true (by omega), iteB_t, grd_t _ (by omega), grd_t _ (by rw [List.length_take]; omega), toNat_nat, w1, e]
theorem ev_own (l : List Stm) (hl : l.length ≤ 1000000) : Ev (fun k => F14 k l) l := (ev_own_l l hl l.length 0 (by omega)).congr fun k => rfl

/-! ### the program's among and Decide -/
def amg (t : List (List UInt8)) (s : List UInt8) : Bool := t.any fun p => gl p s
theorem ev_among_l (t : List (List UInt8)) (s : List UInt8) (ht : t.length ≤ 1000000) (hp : ∀ p ∈ t, p.length ≤ 1000000) (hs : s.length ≤ 1000000) : ∀ (d i : Nat), i + d = t.length → Ev (fun k => F31_L1 k s t (i : Int)) (amg (t.drop i) s) := by
  intro d
  induction d with
  | zero =>
    intro i hi
    rw [List.drop_of_length_le (by omega)]
    refine Ev.step (Ev.pure.congr fun k => ?_)
    rw [F31_L1, decide_eq_false (by omega), iteB_f]; rfl
  | succ d ih =>
    intro i hi
    have w1 : IntKind.wrap .i64 ((i : Int) + 1) = ((i + 1 : Nat) : Int) := by rw [w64 (by omega)]; omega
    have hm : t.getD i default ∈ t := by
      rw [List.getD_eq_getElem?_getD, List.getElem?_eq_getElem (by omega)]; exact List.getElem_mem _
    obtain ⟨N1, k1⟩ := ev_Match (t.getD i default) s (hp _ hm) hs
    obtain ⟨N2, k2⟩ := ih (i + 1) (by omega)
    rw [drop_cons t i default (by omega)]
    refine Ev.step ⟨N1 + N2, fun n hn => ?_⟩
    have e1 : F10 n (t.getD i default) s = some (gl (t.getD i default) s) := k1 n (by omega)
    have e2 : F31_L1 n s t ((i + 1 : Nat) : Int) = some (amg (t.drop (i + 1)) s) := k2 n (by omega)
    show F31_L1 (n + 1) s t (i : Int) = _
    rw [F31_L1, decide_eq_true (by omega), iteB_t, grd_t _ (by omega), toNat_nat, e1, bind_some', w1, e2]
    unfold amg
    rw [List.any_cons]
    cases gl (t.getD i default) s <;> rfl
theorem ev_among (t : List (List UInt8)) (s : List UInt8) (ht : t.length ≤ 1000000) (hp : ∀ p ∈ t, p.length ≤ 1000000) (hs : s.length ≤ 1000000) : Ev (fun k => F31 k t s) (amg t s) := (ev_among_l t s ht hp hs t.length 0 (by omega)).congr fun k => rfl
def hit (s : Stm) (a b c : List UInt8) : Bool := amg s.2.1 a && (amg s.2.2.1 b && amg s.2.2.2 c)
def decP' (a b c : List UInt8) : List Stm → Int → Int
  | [], x => x
  | s :: r, x => if hit s a b c = true then (if s.1 = true then decP' a b c r 1 else 2) else decP' a b c r x
def fewL (l : List Stm) : Prop := l.length ≤ 1000 ∧ ∀ s ∈ l, fewS s
theorem ev_Decide_l (l : List Stm) (a b c : List UInt8) (hl : fewL l) (ha : a.length ≤ 1000000) (hb : b.length ≤ 1000000) (hc : c.length ≤ 1000000) : ∀ (d i : Nat) (x : Int), i + d = l.length → Ev (fun k => F12_L1 k a b c l x (i : Int)) (decP' a b c (l.drop i) x) := by
  intro d
  induction d with
  | zero =>
    intro i x hi
    rw [List.drop_of_length_le (by omega)]
    refine Ev.step (Ev.pure.congr fun k => ?_)
    rw [F12_L1, decide_eq_false (by omega), iteB_f]; rfl
  | succ d ih =>
    intro i x hi
    have hl1 := hl.1
    have w1 : IntKind.wrap .i64 ((i : Int) + 1) = ((i + 1 : Nat) : Int) := by rw [w64 (by omega)]; omega
    have hm : l.getD i default ∈ l := by
      rw [List.getD_eq_getElem?_getD, List.getElem?_eq_getElem (by omega)]; exact List.getElem_mem _
    have hf := hl.2 _ hm
    rw [drop_cons l i default (by omega), decP']
    generalize hs : l.getD i default = s at *
    obtain ⟨N1, k1⟩ := ev_among s.2.1 a (by have := (hf _ (.inl rfl)).1; omega) (fun p h => by have := (hf _ (.inl rfl)).2 p h; omega) ha
    obtain ⟨N2, k2⟩ := ev_among s.2.2.1 b (by have := (hf _ (.inr (.inl rfl))).1; omega) (fun p h => by have := (hf _ (.inr (.inl rfl))).2 p h; omega) hb
    obtain ⟨N3, k3⟩ := ev_among s.2.2.2 c (by have := (hf _ (.inr (.inr rfl))).1; omega) (fun p h => by have := (hf _ (.inr (.inr rfl))).2 p h; omega) hc
    obtain ⟨N4, k4⟩ := ih (i + 1) x (by omega)
    obtain ⟨N5, k5⟩ := ih (i + 1) 1 (by omega)
    refine Ev.step ⟨N1 + N2 + N3 + N4 + N5, fun n hn => ?_⟩
    have e1 : F31 n s.2.1 a = some (amg s.2.1 a) := k1 n (by omega)
    have e2 : F31 n s.2.2.1 b = some (amg s.2.2.1 b) := k2 n (by omega)
    have e3 : F31 n s.2.2.2 c = some (amg s.2.2.2 c) := k3 n (by omega)
    have e4 : F12_L1 n a b c l x ((i + 1 : Nat) : Int) = some (decP' a b c (l.drop (i + 1)) x) := k4 n (by omega)
    have e5 : F12_L1 n a b c l 1 ((i + 1 : Nat) : Int) = some (decP' a b c (l.drop (i + 1)) 1) := k5 n (by omega)
    show F12_L1 (n + 1) a b c l x (i : Int) = _
    rw [F12_L1, decide_eq_true (by omega), iteB_t, grd_t _ (by omega), toNat_nat, hs, e1, bind_some', e2, bind_some', e3, bind_some', w1, e4, e5]
    unfold hit
    cases amg s.2.1 a <;> cases amg s.2.2.1 b <;> cases amg s.2.2.2 c <;> cases s.1 <;> rfl
theorem ev_Decide (l : List Stm) (a b c : List UInt8) (hl : fewL l) (ha : a.length ≤ 1000000) (hb : b.length ≤ 1000000) (hc : c.length ≤ 1000000) : Ev (fun k => F12 k l a b c) (decP' a b c l 0) := (ev_Decide_l l a b c hl ha hb hc l.length 0 0 (by omega)).congr fun k => rfl

/-! ### the reference's Match -/
theorem row_first (s : List UInt8) : (List.replicate (s.length + 1) false).set 0 true = rowG [] s := by
  apply List.ext_getElem?
  intro i
  unfold rowG
  rw [List.getElem?_set, List.getElem?_map, List.getElem?_replicate]
  by_cases h : i < s.length + 1
  · rw [List.getElem?_range h]
    cases i with
    | zero => simp [gl]
    | succ i =>
      have : (s.take (i + 1)).isEmpty = false := by
        cases s with
        | nil => simp at h
        | cons a s => rfl
      rw [if_neg (by omega), if_pos h]
      simp only [Option.map_some, gl, this]
  · have h0 : ¬ (0 = i) := by omega
    rw [if_neg h0, if_neg h, List.getElem?_eq_none (by simp; omega)]; rfl
/-- A row, up to a place; behind it there is nothing yet. -/
def halfG (p s : List UInt8) (k : Nat) : List Bool := (rowG p s).take k ++ List.replicate (s.length + 1 - k) false
theorem half_len (p s : List UInt8) (k : Nat) (h : k ≤ s.length + 1) : (halfG p s k).length = s.length + 1 := by
  unfold halfG; rw [List.length_append, List.length_take, rowG_len, List.length_replicate]; omega
theorem half_set (p s : List UInt8) (k : Nat) (h : k ≤ s.length) : (halfG p s k).set k (gl p (s.take k)) = halfG p s (k + 1) := by
  unfold halfG
  have hl : ((rowG p s).take k).length = k := by rw [List.length_take, rowG_len]; omega
  rw [List.set_append_right _ _ (by omega), hl, Nat.sub_self, show s.length + 1 - k = (s.length + 1 - (k + 1)) + 1 by omega, List.replicate_succ, List.set_cons_zero]
  have ht : (rowG p s).take (k + 1) = (rowG p s).take k ++ [gl p (s.take k)] := by
    rw [List.take_add_one]
    congr 1
    have := rowG_get p s k h
    rw [List.getD_eq_getElem?_getD, List.getElem?_eq_getElem (by rw [rowG_len]; omega)] at this
    rw [List.getElem?_eq_getElem (by rw [rowG_len]; omega)]
    exact congrArg (fun x => [x]) this
  rw [ht, List.append_assoc]; rfl
theorem half_get (p s : List UInt8) (k j : Nat) (hj : j < k) (h : k ≤ s.length + 1) : (halfG p s k).getD j default = gl p (s.take j) := by
  unfold halfG
  rw [List.getD_eq_getElem?_getD, List.getElem?_append_left (by rw [List.length_take, rowG_len]; omega), List.getElem?_take, if_pos hj, ← rowG_get p s j (by omega), List.getD_eq_getElem?_getD]; rfl
theorem half_full (p s : List UInt8) : halfG p s (s.length + 1) = rowG p s := by
  unfold halfG
  rw [List.take_of_length_le (Nat.le_of_eq (rowG_len p s)), Nat.sub_self]; simp
theorem half_none (p s : List UInt8) : halfG p s 0 = List.replicate (s.length + 1) false := by unfold halfG; simp
theorem row_get' (p s : List UInt8) (k : Nat) (h : k ≤ s.length) : (rowG p s).getD k default = gl p (s.take k) := rowG_get p s k h
theorem ev_rows (P S : List UInt8) (hP : P.length ≤ 1000000) (hS : S.length ≤ 1000000) (i : Nat) (hi : i < P.length) (r : Bool) (next : Ev (fun k => F15_L1 k P S ((i + 1 : Nat) : Int) (rowG (P.take (i + 1)) S)) r) :
    ∀ (d k : Nat), k + d = S.length + 1 → Ev (fun n => F15_L2 n P S (rowG (P.take i) S) (i : Int) (k : Int) (halfG (P.take (i + 1)) S k)) r := by
  intro d
  have wi : IntKind.wrap .i64 ((i : Int) + 1) = ((i + 1 : Nat) : Int) := by rw [w64 (by omega)]; omega
  have hlr := rowG_len (P.take i) S
  have hPt : P.take (i + 1) = P.take i ++ [P.getD i 0] := take_snoc P i hi
  induction d with
  | zero =>
    intro k hk
    obtain rfl : k = S.length + 1 := by omega
    rw [half_full]
    refine Ev.step (next.congr fun n => ?_)
    rw [F15_L2, decide_eq_false (by omega), iteB_f, wi]
  | succ d ih =>
    intro k hk
    have hlh := half_len (P.take (i + 1)) S k (by omega)
    have wk : IntKind.wrap .i64 ((k : Int) + 1) = ((k + 1 : Nat) : Int) := by rw [w64 (by omega)]; omega
    have e := ih (k + 1) (by omega)
    rw [← half_set _ _ _ (show k ≤ S.length by omega)] at e
    have d1 : decide ((k : Int) ≤ (S.length : Int)) = true := decide_eq_true (by omega)
    have gp : 0 ≤ (i : Int) ∧ (i : Int) < (P.length : Int) := by omega
    have g1 : 0 ≤ (k : Int) ∧ (k : Int) < ((halfG (P.take (i + 1)) S k).length : Int) := by omega
    have g2 : k < (halfG (P.take (i + 1)) S k).length := by omega
    have g3 : 0 ≤ (k : Int) ∧ (k : Int) < ((rowG (P.take i) S).length : Int) := by omega
    have g4 : k < (rowG (P.take i) S).length := by omega
    have c42 : (((P.getD i 0).toNat : Int) == 42) = (P.getD i 0 == 42) := u8_lit _ 42 (by omega)
    have c63 : (((P.getD i 0).toNat : Int) == 63) = (P.getD i 0 == 63) := u8_lit _ 63 (by omega)
    have rk := row_get' (P.take i) S k (by omega)
    rw [hPt] at e ⊢
    rw [hPt] at g1 g2 hlh
    refine Ev.step ?_
    cases k with
    | zero =>
      have rz := row_zero (P.take i) S (P.getD i 0)
      have dz : decide ((0 : Int) < ((0 : Nat) : Int)) = false := rfl
      by_cases hc : P.getD i 0 = 42
      · rw [hc] at e g1 g2 hlh rz c42 ⊢
        have hz : gl (P.take i ++ [42]) (S.take 0) = gl (P.take i) (S.take 0) := rz
        rw [hz] at e
        refine e.congr fun n => ?_
        rw [F15_L2, d1, iteB_t, grd_t _ gp, toNat_nat, hc, show (((42 : UInt8).toNat : Int) == 42) = true from rfl, iteB_t, grd_t _ g3, toNat_nat, grd_t _ g4, rk, dz, iteB_f, grd_t _ g1, grd_t _ g2, grd_t _ g1, grd_t _ g2, wk]
        cases gl (P.take i) (S.take 0) <;> rfl
      · have hcb : (P.getD i 0 == 42) = false := by rw [beq_eq_false_iff_ne]; exact hc
        rw [hcb, Bool.false_and] at rz
        rw [rz] at e
        have hno : (halfG (P.take i ++ [P.getD i 0]) S 0).set 0 false = halfG (P.take i ++ [P.getD i 0]) S 0 := by
          rw [half_none]; rfl
        rw [hno] at e
        refine e.congr fun n => ?_
        rw [F15_L2, d1, iteB_t, grd_t _ gp, toNat_nat, c42, hcb, iteB_f, dz, iteB_f, wk]
    | succ k =>
      have dz : decide ((0 : Int) < ((k + 1 : Nat) : Int)) = true := decide_eq_true (by omega)
      have wm : IntKind.wrap .i64 (((k + 1 : Nat) : Int) - 1) = (k : Int) := by rw [w64 (by omega)]; omega
      have hk' : k < S.length := by omega
      have gk : 0 ≤ (k : Int) ∧ (k : Int) < ((rowG (P.take i) S).length : Int) := by omega
      have gk' : k < (rowG (P.take i) S).length := by omega
      have gh : 0 ≤ (k : Int) ∧ (k : Int) < ((halfG (P.take i ++ [P.getD i 0]) S (k + 1)).length : Int) := by omega
      have gh' : k < (halfG (P.take i ++ [P.getD i 0]) S (k + 1)).length := by omega
      have gs : 0 ≤ (k : Int) ∧ (k : Int) < (S.length : Int) := by omega
      have rk' := row_get' (P.take i) S k (by omega)
      have cc : (((P.getD i 0).toNat : Int) == ((S.getD k 0).toNat : Int)) = (P.getD i 0 == S.getD k 0) := u8_beq _ _
      by_cases hc : P.getD i 0 = 42
      · rw [hc] at e g1 g2 hlh gh gh' ⊢
        have hr := row_star (P.take i) S k hk'
        have hh := half_get (P.take i ++ [42]) S (k + 1) k (by omega) (by omega)
        rw [hr] at e
        refine e.congr fun n => ?_
        rw [F15_L2, d1, iteB_t, grd_t _ gp, toNat_nat, hc, show (((42 : UInt8).toNat : Int) == 42) = true from rfl, iteB_t, grd_t _ g3, toNat_nat, grd_t _ g4, rk, dz, iteB_t, wm, grd_t _ gh, toNat_nat, grd_t _ gh', hh, grd_t _ g1, grd_t _ g2, grd_t _ g1, grd_t _ g2, wk]
        cases gl (P.take i) (S.take (k + 1)) <;> rfl
      · have hcb : (P.getD i 0 == 42) = false := by rw [beq_eq_false_iff_ne]; exact hc
        have hr := row_other (P.take i) S hcb k hk'
        rw [hr] at e
        by_cases hq : (P.getD i 0 == 63) = true
        · rw [hq, Bool.true_or, Bool.true_and] at e
          refine e.congr fun n => ?_
          rw [F15_L2, d1, iteB_t, grd_t _ gp, toNat_nat, c42, hcb, iteB_f, dz, iteB_t, grd_t _ gp, c63, hq, iteB_t, wm, grd_t _ gk, toNat_nat, grd_t _ gk', grd_t _ g1, toNat_nat, grd_t _ g2, rk', wk]
        · rw [Bool.not_eq_true] at hq
          rw [hq, Bool.false_or] at e
          by_cases hd : (P.getD i 0 == S.getD k 0) = true
          · rw [hd, Bool.true_and] at e
            refine e.congr fun n => ?_
            rw [F15_L2, d1, iteB_t, grd_t _ gp, toNat_nat, c42, hcb, iteB_f, dz, iteB_t, grd_t _ gp, c63, hq, iteB_f, grd_t _ gp, wm, grd_t _ gs, toNat_nat, cc, hd, iteB_t, grd_t _ gk, grd_t _ gk', grd_t _ g1, toNat_nat, grd_t _ g2, rk', wk]
          · rw [Bool.not_eq_true] at hd
            rw [hd, Bool.false_and] at e
            have hno : (halfG (P.take i ++ [P.getD i 0]) S (k + 1)).set (k + 1) false = halfG (P.take i ++ [P.getD i 0]) S (k + 1) := by
              unfold halfG
              have hl : ((rowG (P.take i ++ [P.getD i 0]) S).take (k + 1)).length = k + 1 := by rw [List.length_take, rowG_len]; omega
              rw [List.set_append_right _ _ (by omega), hl, Nat.sub_self, show S.length + 1 - (k + 1) = (S.length + 1 - (k + 2)) + 1 by omega, List.replicate_succ, List.set_cons_zero]
            rw [hno] at e
            refine e.congr fun n => ?_
            rw [F15_L2, d1, iteB_t, grd_t _ gp, toNat_nat, c42, hcb, iteB_f, dz, iteB_t, grd_t _ gp, c63, hq, iteB_f, grd_t _ gp, wm, grd_t _ gs, toNat_nat, cc, hd, iteB_f, wk]
theorem ev_rMatch_l (P S : List UInt8) (hP : P.length ≤ 1000000) (hS : S.length ≤ 1000000) : ∀ (d i : Nat), i + d = P.length → Ev (fun k => F15_L1 k P S (i : Int) (rowG (P.take i) S)) (gl P S) := by
  intro d
  have w1 : IntKind.wrap .i64 ((S.length : Int) + 1) = ((S.length + 1 : Nat) : Int) := by rw [w64 (by omega)]; omega
  induction d with
  | zero =>
    intro i hi
    have hl := rowG_len P S
    rw [List.take_of_length_le (show P.length ≤ i by omega)]
    refine Ev.step (Ev.pure.congr fun k => ?_)
    rw [F15_L1, decide_eq_false (by omega), iteB_f, grd_t _ (by omega), toNat_nat, grd_t _ (by omega), row_get' P S _ (Nat.le_refl _), List.take_length]
  | succ d ih =>
    intro i hi
    refine Ev.step ((ev_rows P S hP hS i (by omega) _ (ih (i + 1) (by omega)) (S.length + 1) 0 (by omega)).congr fun k => ?_)
    rw [F15_L1, decide_eq_true (by omega), iteB_t, w1, grd_t _ (by omega), half_none]; rfl
theorem ev_rMatch (P S : List UInt8) (hP : P.length ≤ 1000000) (hS : S.length ≤ 1000000) : Ev (fun k => F15 k P S) (gl P S) := by
  have w1 : IntKind.wrap .i64 ((S.length : Int) + 1) = ((S.length + 1 : Nat) : Int) := by rw [w64 (by omega)]; omega
  refine (ev_rMatch_l P S hP hS P.length 0 (by omega)).congr fun k => ?_
  rw [F15, w1, grd_t _ (by omega), toNat_nat, grd_t _ (by omega), grd_t _ (by simp), show ((0 : Int)).toNat = 0 from rfl, row_first, List.take_zero]; rfl

/-! ### the reference's among and Decide -/
theorem ev_ramong_l (t : List (List UInt8)) (s : List UInt8) (ht : t.length ≤ 1000000) (hp : ∀ p ∈ t, p.length ≤ 1000000) (hs : s.length ≤ 1000000) : ∀ (d i : Nat), i + d = t.length → Ev (fun k => F32_L1 k t s (i : Int)) (amg (t.drop i) s) := by
  intro d
  induction d with
  | zero =>
    intro i hi
    rw [List.drop_of_length_le (by omega)]
    refine Ev.step (Ev.pure.congr fun k => ?_)
    rw [F32_L1, decide_eq_false (by omega), iteB_f]; rfl
  | succ d ih =>
    intro i hi
    have w1 : IntKind.wrap .i64 ((i : Int) + 1) = ((i + 1 : Nat) : Int) := by rw [w64 (by omega)]; omega
    have hm : t.getD i default ∈ t := by
      rw [List.getD_eq_getElem?_getD, List.getElem?_eq_getElem (by omega)]; exact List.getElem_mem _
    obtain ⟨N1, k1⟩ := ev_rMatch (t.getD i default) s (hp _ hm) hs
    obtain ⟨N2, k2⟩ := ih (i + 1) (by omega)
    rw [drop_cons t i default (by omega)]
    refine Ev.step ⟨N1 + N2, fun n hn => ?_⟩
    have e1 : F15 n (t.getD i default) s = some (gl (t.getD i default) s) := k1 n (by omega)
    have e2 : F32_L1 n t s ((i + 1 : Nat) : Int) = some (amg (t.drop (i + 1)) s) := k2 n (by omega)
    show F32_L1 (n + 1) t s (i : Int) = _
    rw [F32_L1, decide_eq_true (by omega), iteB_t, grd_t _ (by omega), toNat_nat, e1, bind_some', w1, e2]
    unfold amg
    rw [List.any_cons]
    cases gl (t.getD i default) s <;> rfl
theorem ev_ramong (t : List (List UInt8)) (s : List UInt8) (ht : t.length ≤ 1000000) (hp : ∀ p ∈ t, p.length ≤ 1000000) (hs : s.length ≤ 1000000) : Ev (fun k => F32 k t s) (amg t s) := (ev_ramong_l t s ht hp hs t.length 0 (by omega)).congr fun k => rfl
def decR (a b c : List UInt8) : List Stm → Int → Int
  | [], x => x
  | s :: r, x => if hit s a b c = true then (if s.1 = true then decR a b c r (if x = 0 then 1 else x) else decR a b c r 2) else decR a b c r x
theorem decR_two (a b c : List UInt8) : ∀ l, decR a b c l 2 = 2
  | [] => rfl
  | s :: r => by
    rw [decR]
    split
    · split
      · rw [if_neg (by omega)]; exact decR_two a b c r
      · exact decR_two a b c r
    · exact decR_two a b c r
theorem decR_eq (a b c : List UInt8) : ∀ (l : List Stm) (x : Int), x = 0 ∨ x = 1 → decR a b c l x = decP' a b c l x
  | [], x, _ => rfl
  | s :: r, x, hx => by
    rw [decR, decP']
    split
    · split
      · have : (if x = 0 then (1 : Int) else x) = 1 := by split <;> omega
        rw [this]; exact decR_eq a b c r 1 (.inr rfl)
      · exact decR_two a b c r
    · exact decR_eq a b c r x hx
theorem ev_rDecide_l (l : List Stm) (a b c : List UInt8) (hl : fewL l) (ha : a.length ≤ 1000000) (hb : b.length ≤ 1000000) (hc : c.length ≤ 1000000) : ∀ (d i : Nat) (x : Int), i + d = l.length → Ev (fun k => F13_L1 k l a b c x (i : Int)) (decR a b c (l.drop i) x) := by
  intro d
  induction d with
  | zero =>
    intro i x hi
    rw [List.drop_of_length_le (by omega)]
    refine Ev.step (Ev.pure.congr fun k => ?_)
    rw [F13_L1, decide_eq_false (by omega), iteB_f]; rfl
  | succ d ih =>
    intro i x hi
    have hl1 := hl.1
    have w1 : IntKind.wrap .i64 ((i : Int) + 1) = ((i + 1 : Nat) : Int) := by rw [w64 (by omega)]; omega
    have hm : l.getD i default ∈ l := by
      rw [List.getD_eq_getElem?_getD, List.getElem?_eq_getElem (by omega)]; exact List.getElem_mem _
    have hf := hl.2 _ hm
    rw [drop_cons l i default (by omega), decR]
    generalize hs : l.getD i default = s at *
    obtain ⟨N1, k1⟩ := ev_ramong s.2.1 a (by have := (hf _ (.inl rfl)).1; omega) (fun p h => by have := (hf _ (.inl rfl)).2 p h; omega) ha
    obtain ⟨N2, k2⟩ := ev_ramong s.2.2.1 b (by have := (hf _ (.inr (.inl rfl))).1; omega) (fun p h => by have := (hf _ (.inr (.inl rfl))).2 p h; omega) hb
    obtain ⟨N3, k3⟩ := ev_ramong s.2.2.2 c (by have := (hf _ (.inr (.inr rfl))).1; omega) (fun p h => by have := (hf _ (.inr (.inr rfl))).2 p h; omega) hc
    obtain ⟨N4, k4⟩ := ih (i + 1) x (by omega)
    obtain ⟨N5, k5⟩ := ih (i + 1) 1 (by omega)
    obtain ⟨N6, k6⟩ := ih (i + 1) 2 (by omega)
    refine Ev.step ⟨N1 + N2 + N3 + N4 + N5 + N6, fun n hn => ?_⟩
    have e1 : F32 n s.2.1 a = some (amg s.2.1 a) := k1 n (by omega)
    have e2 : F32 n s.2.2.1 b = some (amg s.2.2.1 b) := k2 n (by omega)
    have e3 : F32 n s.2.2.2 c = some (amg s.2.2.2 c) := k3 n (by omega)
    have e4 : F13_L1 n l a b c x ((i + 1 : Nat) : Int) = some (decR a b c (l.drop (i + 1)) x) := k4 n (by omega)
    have e5 : F13_L1 n l a b c 1 ((i + 1 : Nat) : Int) = some (decR a b c (l.drop (i + 1)) 1) := k5 n (by omega)
    have e6 : F13_L1 n l a b c 2 ((i + 1 : Nat) : Int) = some (decR a b c (l.drop (i + 1)) 2) := k6 n (by omega)
    show F13_L1 (n + 1) l a b c x (i : Int) = _
    rw [F13_L1, decide_eq_true (by omega), iteB_t, grd_t _ (by omega), toNat_nat, hs, e1, bind_some', e2, bind_some', e3, bind_some', w1, e4, e5, e6]
    unfold hit
    by_cases hx : x = 0
    · subst hx
      cases amg s.2.1 a <;> cases amg s.2.2.1 b <;> cases amg s.2.2.2 c <;> cases s.1 <;> rfl
    · rw [show (x == (0 : Int)) = false by rw [beq_eq_false_iff_ne]; exact hx, if_neg hx]
      cases amg s.2.1 a <;> cases amg s.2.2.1 b <;> cases amg s.2.2.2 c <;> cases s.1 <;> rfl
theorem ev_rDecide (l : List Stm) (a b c : List UInt8) (hl : fewL l) (ha : a.length ≤ 1000000) (hb : b.length ≤ 1000000) (hc : c.length ≤ 1000000) : Ev (fun k => F13 k l a b c) (decP' a b c l 0) := by
  have := ev_rDecide_l l a b c hl ha hb hc l.length 0 0 (by omega)
  rw [List.drop_zero, decR_eq _ _ _ _ _ (.inl rfl)] at this
  exact this.congr fun k => rfl
end Go.Proofs.YtjkfobmfddfjhaaDoorX

/- The law PolicyDenies, of texts as long as a machine has them. -/
set_option linter.unusedVariables false
set_option linter.unusedSimpArgs false
namespace Go.Proofs.YtjkfobmfddfjhaaDoorX
open Go

theorem sum3 {a b c : Nat} (ha : a ≤ 140737488351232) (hb : b ≤ 140737488351232) (hc : c ≤ 140737488351232) : IntKind.wrap .i64 (IntKind.wrap .i64 ((a : Int) + (b : Int)) + (c : Int)) = (a : Int) + b + c := by
  rw [w64 (n := (a : Int) + b) (by omega), w64 (by omega)]
/-- A statement more. -/
theorem dec_snoc (a b c : List UInt8) (x : Stm) : ∀ (l : List Stm) (y : Int), y = 0 ∨ y = 1 → decP' a b c (l ++ [x]) y = if decP' a b c l y = 2 then 2 else if hit x a b c = true then (if x.1 = true then 1 else 2) else decP' a b c l y
  | [], y, hy => by
    have e : decP' a b c [] y = y := rfl
    have e2 : decP' a b c ([] ++ [x]) y = if hit x a b c = true then (if x.1 = true then 1 else 2) else y := rfl
    rw [e2, e, if_neg (show ¬ y = 2 by omega)]
  | s :: l, y, hy => by
    rw [List.cons_append, decP', decP']
    by_cases h : hit s a b c = true
    · rw [if_pos h, if_pos h]
      by_cases h2 : s.1 = true
      · rw [if_pos h2, if_pos h2]; exact dec_snoc a b c x l 1 (.inr rfl)
      · rw [if_neg h2, if_neg h2, if_pos rfl]
    · rw [if_neg h, if_neg h]; exact dec_snoc a b c x l y hy
theorem dec_vals (a b c : List UInt8) : ∀ (l : List Stm) (y : Int), y = 0 ∨ y = 1 → decP' a b c l y = 0 ∨ decP' a b c l y = 1 ∨ decP' a b c l y = 2
  | [], y, hy => by rw [decP']; omega
  | s :: l, y, hy => by
    rw [decP']
    split
    · split
      · exact dec_vals a b c l 1 (.inr rfl)
      · exact .inr (.inr rfl)
    · exact dec_vals a b c l y hy
def starS : Stm := (true, [[42]], [[42]], [[42]])
theorem star_hit (a b c : List UInt8) : hit starS a b c = true := by
  have : ∀ s, amg [[42]] s = true := fun s => by
    unfold amg
    rw [List.any_cons, gl_one_star]; rfl
  unfold hit starS
  dsimp only
  rw [this, this, this]; rfl
theorem star_dec (a b c : List UInt8) : decP' a b c [starS] 0 = 1 := by
  rw [decP', if_pos (star_hit a b c)]; rfl
theorem star_few : fewL [starS] := by
  refine ⟨by simp, fun s hs => ?_⟩
  simp only [List.mem_singleton] at hs
  subst hs
  intro t ht
  have : t = [[42]] := by rcases ht with h | h | h <;> exact h
  subst this
  exact ⟨by simp, fun p hp => by simp only [List.mem_singleton] at hp; subst hp; simp⟩
theorem law_main (v0 : List Stm) (v1 : Stm) (v2 : List (List UInt8)) (h0 : okT24 v0) (h1 : okT33 v1) (h2 : okT25 v2) (hz : ∀ s ∈ v2, s.length ≤ 140737488351232) : ∃ n, F5 n v0 v1 v2 = some true := by
  obtain ⟨hl, hv⟩ := h2
  have hx : (v1.1, v1.2.1, v1.2.2.1, v1.2.2.2) = v1 := rfl
  obtain ⟨_, x1, x2, x3⟩ := h1
  match v2, hl with
  | [w0, w1, w2], _ =>
    have z0 := hz w0 (by simp)
    have z1 := hz w1 (by simp)
    have z2 := hz w2 (by simp)
    have g0 : ([w0, w1, w2] : List (List UInt8)).getD 0 default = w0 := rfl
    have g1 : ([w0, w1, w2] : List (List UInt8)).getD 1 default = w1 := rfl
    have g2 : ([w0, w1, w2] : List (List UInt8)).getD 2 default = w2 := rfl
    have l0 : 0 < ([w0, w1, w2] : List (List UInt8)).length := by simp
    have l1 : 1 < ([w0, w1, w2] : List (List UInt8)).length := by simp
    have l2 : 2 < ([w0, w1, w2] : List (List UInt8)).length := by simp
    obtain ⟨N1, k1⟩ := ev_size v0 h0.1 (fun s hs => by
      obtain ⟨_, q1, q2, q3⟩ := h0.2 s hs
      exact ⟨q1.1, q2.1, q3.1⟩)
    obtain ⟨N2, k2⟩ := ev_size [v1] (by simp) (fun s hs => by
      simp only [List.mem_singleton] at hs
      subst hs
      exact ⟨x1.1, x2.1, x3.1⟩)
    by_cases hbig : (3000 : Int) ≤ sumL v0 0
    · refine ⟨N1, ?_⟩
      have e1 : F11 N1 v0 = some (sumL v0 0) := k1 N1 (by omega)
      rw [F5, e1, bind_some', decide_eq_true hbig, iteB_t]
    · have hf := sumL_few v0 0 (by omega) (by omega)
      by_cases hbig2 : (3000 : Int) ≤ sumL [v1] 0
      · refine ⟨N1 + N2, ?_⟩
        have e1 : F11 (N1 + N2) v0 = some (sumL v0 0) := k1 _ (by omega)
        have e2 : F11 (N1 + N2) [v1] = some (sumL [v1] 0) := k2 _ (by omega)
        rw [F5, e1, bind_some', decide_eq_false hbig, iteB_f, hx, e2, bind_some', decide_eq_true hbig2, iteB_t]
      · have hf2 := sumL_few [v1] 0 (by omega) (by omega)
        have few : fewL v0 := ⟨by omega, hf.2⟩
        have fewx : fewL (v0 ++ [v1]) := ⟨by simp; omega, fun s hs => by
          rcases List.mem_append.1 hs with h | h
          · exact hf.2 s h
          · exact hf2.2 s h⟩
        by_cases hw : (300 : Int) < (w0.length : Int) + w1.length + w2.length
        · refine ⟨N1 + N2, ?_⟩
          have e1 : F11 (N1 + N2) v0 = some (sumL v0 0) := k1 _ (by omega)
          have e2 : F11 (N1 + N2) [v1] = some (sumL [v1] 0) := k2 _ (by omega)
          rw [F5, e1, bind_some', decide_eq_false hbig, iteB_f, hx, e2, bind_some', decide_eq_false hbig2, iteB_f, grd_t _ l0, grd_t _ l1, grd_t _ l2, g0, g1, g2, sum3 z0 z1 z2, decide_eq_true hw, iteB_t]
        · obtain ⟨N3, k3⟩ := ev_Decide v0 w0 w1 w2 few (by omega) (by omega) (by omega)
          obtain ⟨N4, k4⟩ := ev_Decide (v0 ++ [v1]) w0 w1 w2 fewx (by omega) (by omega) (by omega)
          obtain ⟨N5, k5⟩ := ev_Decide [starS] w0 w1 w2 star_few (by omega) (by omega) (by omega)
          refine ⟨N1 + N2 + N3 + N4 + N5, ?_⟩
          generalize hn : N1 + N2 + N3 + N4 + N5 = n
          have e1 : F11 n v0 = some (sumL v0 0) := k1 n (by omega)
          have e2 : F11 n [v1] = some (sumL [v1] 0) := k2 n (by omega)
          have e3 : F12 n v0 w0 w1 w2 = some (decP' w0 w1 w2 v0 0) := k3 n (by omega)
          have e4 : F12 n (v0 ++ [v1]) w0 w1 w2 = some (decP' w0 w1 w2 (v0 ++ [v1]) 0) := k4 n (by omega)
          have e5 : F12 n ([(true, [([42] : List UInt8)], [([42] : List UInt8)], [([42] : List UInt8)])]) w0 w1 w2 = some 1 := by
            have := k5 n (by omega)
            dsimp only at this
            rw [star_dec] at this; exact this
          have hl0 := hf.1
          rw [F5, e1, bind_some', decide_eq_false hbig, iteB_f, hx, e2, bind_some', decide_eq_false hbig2, iteB_f, grd_t _ l0, grd_t _ l1, grd_t _ l2, g0, g1, g2, sum3 z0 z1 z2, decide_eq_false hw, iteB_f]
          rw [grd_t _ l0, grd_t _ l1, grd_t _ l2, e3, bind_some', grd_t _ (show v0.length ≤ 549755813888 by omega), grd_t _ (show v0.length + 1 ≤ 549755813888 by omega), grd_t _ l0, grd_t _ l1, grd_t _ l2, e4, bind_some', grd_t _ l0, grd_t _ l1, grd_t _ l2, e5, bind_some']
          rw [dec_snoc w0 w1 w2 v1 v0 0 (.inl rfl)]
          have hv := dec_vals w0 w1 w2 v0 0 (.inl rfl)
          generalize decP' w0 w1 w2 v0 0 = d at *
          generalize hit v1 w0 w1 w2 = t
          generalize v1.1 = s
          rcases hv with rfl | rfl | rfl <;> cases t <;> cases s <;> rfl
end Go.Proofs.YtjkfobmfddfjhaaDoorX

set_option linter.unusedVariables false
namespace Go.Proofs.YtjkfobmfddfjhaaDoorX
open Go Go.RowKit Go.Proofs
set_option maxRecDepth 100000
theorem shapedRow (xs : List T) (h : ShapesW Tryd.prog [24, 34, 25] xs) (hsz : ∀ (j : Nat) (t : TypeId) (x : T) (s : ByteArray), ([24, 34, 25] : List TypeId)[j]? = some t → xs[j]? = some x → strIn Tryd.prog t x s → s.size ≤ reachBytes) : FnC Tryd.prog 5 xs (tb true) := shapedPolicyDenies law_main xs h hsz
end Go.Proofs.YtjkfobmfddfjhaaDoorX
namespace Go.Proofs.YtjkfobmfddfjhaaDoor.policyDenies
open Go.ChangeShapes Go.WideShapes Go.ChangeAt Go.RowKit
set_option linter.unusedVariables false
theorem own : ownKnob Tryd.prog.godebug = none := by kernel_rfl
set_option maxRecDepth 100000 in
theorem lifted (os : Os) (started : os.Started) (H : Type) (enc : TypeId × Value → H) :
    ReturnsInHanded {} Tryd.checked os 5 .any (fun w args => (Rows.policyDeniesSpec.pre enc Tryd.prog Tryd.f5 [] false w args ∧ laidMetH Tryd.prog Rows.policyDeniesRow.laid w) ∧ sizedMet enc Tryd.prog Tryd.f5 (OpenSpec.ofChange Rows.policyDeniesSpec) false w args) (Rows.policyDeniesSpec.post enc Tryd.prog Tryd.f5 false true false false) := by
  refine returnsInHanded_of_change_and (C := Tryd.checked) (X := fun w _ => laidMetH Tryd.prog Rows.policyDeniesRow.laid w) (fun _ _ _ hh h => h.of_heap hh) own started (by kernel_rfl) Tryd.func5
    (ChangeSpec.witness_shaped (enc := enc) (C := Tryd.checked) (os := os) (X := fun w _ => laidMetH Tryd.prog Rows.policyDeniesRow.laid w) false (World.laidAll Tryd.prog os Rows.policyDeniesRow.laid) #[.slice none 0 0, .agg #[.bool false, .slice none 0 0, .slice none 0 0, .slice none 0 0], .agg #[.string ByteArray.empty, .string ByteArray.empty, .string ByteArray.empty]] 8 (World.laidAll_os _ _ _)
      (World.shaped_of_ZipB (by kernel_rfl) (by kernel_rfl)) (by kernel_rfl) (by kernel_rfl) (by kernel_rfl)
      (by rw [MakeChecks.laidMetH_plain _ _ _ (by kernel_rfl)]; exact laidMet_laidAll _ (by kernel_rfl) (by kernel_rfl))) ?_
  intro W base args ds gs before hval0 hW _ hz hL _
  exact YtjkfobmfddfjhaaDoorX.row_contract_sz (P := Tryd.prog) (fn := Tryd.f5) (s := Rows.policyDeniesSpec) (ts := [24, 34, 25]) (tb := 4) (L := [24, 34, 25, 33, 9, 4, 32]) (by kernel_rfl) (by kernel_rfl) (by kernel_rfl) (by kernel_rfl) (by kernel_rfl) (by kernel_rfl) rfl
    (fun H ds h => by
      match ds, h with
      | [d0, d1, d2], _ => rfl) YtjkfobmfddfjhaaDoorX.shapedRow W base args ds gs before hval0 hW hz
theorem over : Rows.policyDeniesRow.holds Tryd.pinned (OpenSpec.ofChange Rows.policyDeniesSpec) :=
  OpenClaim.holds_of_wide 5 Tryd.f5 rfl rfl rfl rfl rfl rfl rfl ⟨rfl, rfl, rfl, rfl, rfl⟩ rfl rfl rfl rfl rfl (by kernel_rfl) Tryd.func5 (by kernel_rfl)
    (of_decide_eq_true (by kernel_rfl)) (by unfold Func.isWrapper; first | (rw [if_pos (by decide +kernel)]; kernel_rfl) | (rw [if_neg (by decide +kernel)]; exact ⟨rfl, rfl⟩))
    (fun os started H enc _ => lifted os started H enc)
theorem proved : Rows.PolicyDeniesCardSaid :=
  Claim7.holds_tied_plain_at .later [] [.data, .pinned] true (true, "68c91526864c01bd21db3d054cd1b01b0e6c1d57d872f5e5285f0f1038b5ec8d") false
    over (fun _ h => by cases h) (by kernel_rfl) (fun _ h => by cases h) policyDenies_row_tie rfl ⟨rfl, rfl⟩ (by kernel_rfl) rfl
    (fun f fn hf hfn => by
      obtain rfl : f = 5 := Option.some.inj ((show Tryd.prog.funcNamed "shadowbox/shadowboxlaw42.PolicyDenies" = some 5 by kernel_rfl).symm.trans hf) |>.symm
      obtain rfl : fn = Tryd.f5 := (Option.some.inj (Tryd.func5.symm.trans hfn)).symm
      exact ⟨by kernel_rfl, fun j t ht => by
        rw [Tryd.params5] at ht
        have hm : t ∈ [24, 34, 25] := by simpa using Array.mem_of_getElem? ht
        have hall : ([24, 34, 25].all fun u => !Tryd.prog.wantsStandIn u) = true := by kernel_rfl
        exact (show Tryd.prog.wantsStandIn t = false by simpa using List.all_eq_true.1 hall t hm)⟩)
    (by kernel_rfl)
#print axioms proved
end Go.Proofs.YtjkfobmfddfjhaaDoor.policyDenies
namespace Go.Proofs.YtjkfobmfddfjhaaDoor
/-- The card, under a short name, for the claim. -/
theorem policyDenies_holds : Rows.PolicyDeniesCardSaid := policyDenies.proved
end Go.Proofs.YtjkfobmfddfjhaaDoor
