/- Part of the proof of EtagTells: walks and plain words, merged. -/
import Derived.Test.YtaiapalhdejngaaBEtagTellsb
import Derived.Test.YtaiapalhdejngaaBEtagTellsc
import Derived.Test.YtaiapalhdejngaaBEtagTellsd
import Derived.Handed
set_option linter.unusedVariables false
set_option linter.unusedSimpArgs false

set_option linter.unusedVariables false
set_option linter.unusedSimpArgs false
namespace Go.Proofs.YtaiapalhdejngaaX
open Go Go.RowKit Go.Proofs
set_option maxRecDepth 100000
attribute [local go_sem ↓] stepsK_build stepsK_bs appendS
attribute [local go_sem] String.reduceEq String.reduceNe reduceCtorEq Int.reduceEq Nat.reduceAdd Nat.reduceSub Nat.reduceMul Nat.reduceLT Nat.reduceLeDiff Nat.reduceEqDiff Nat.reduceBEq Int.reduceToNat Int.reduceLT Int.reduceLE Int.reduceGT Int.reduceGE Int.reduceAdd Int.reduceSub Int.reduceMul Int.reduceNeg Int.reduceBEq Int.reduceBNe Int.reducePow Int.reduceDiv Int.reduceMod Int.reduceTDiv Int.reduceTMod Int.reduceNatCast
/-! ### base.Value -/
def F118 (n : Nat) (a0 : Int) : Option (Int) := iteB (decide ((65 : Int) ≤ a0)) (iteB (decide (a0 ≤ (90 : Int))) (some (IntKind.wrap .i64 ((IntKind.wrap .u8 (a0 - (65 : Int)))))) (iteB (decide ((97 : Int) ≤ a0)) (iteB (decide (a0 ≤ (122 : Int))) (some (IntKind.wrap .i64 ((IntKind.wrap .i64 ((IntKind.wrap .u8 (a0 - (97 : Int))))) + (26 : Int)))) (iteB (decide ((48 : Int) ≤ a0)) (iteB (decide (a0 ≤ (57 : Int))) (some (IntKind.wrap .i64 ((IntKind.wrap .i64 ((IntKind.wrap .u8 (a0 - (48 : Int))))) + (52 : Int)))) (iteB (a0 == (43 : Int)) (some (62 : Int)) (iteB (a0 == (47 : Int)) (some (63 : Int)) (some (-1 : Int))))) (iteB (a0 == (43 : Int)) (some (62 : Int)) (iteB (a0 == (47 : Int)) (some (63 : Int)) (some (-1 : Int)))))) (iteB (decide ((48 : Int) ≤ a0)) (iteB (decide (a0 ≤ (57 : Int))) (some (IntKind.wrap .i64 ((IntKind.wrap .i64 ((IntKind.wrap .u8 (a0 - (48 : Int))))) + (52 : Int)))) (iteB (a0 == (43 : Int)) (some (62 : Int)) (iteB (a0 == (47 : Int)) (some (63 : Int)) (some (-1 : Int))))) (iteB (a0 == (43 : Int)) (some (62 : Int)) (iteB (a0 == (47 : Int)) (some (63 : Int)) (some (-1 : Int))))))) (iteB (decide ((97 : Int) ≤ a0)) (iteB (decide (a0 ≤ (122 : Int))) (some (IntKind.wrap .i64 ((IntKind.wrap .i64 ((IntKind.wrap .u8 (a0 - (97 : Int))))) + (26 : Int)))) (iteB (decide ((48 : Int) ≤ a0)) (iteB (decide (a0 ≤ (57 : Int))) (some (IntKind.wrap .i64 ((IntKind.wrap .i64 ((IntKind.wrap .u8 (a0 - (48 : Int))))) + (52 : Int)))) (iteB (a0 == (43 : Int)) (some (62 : Int)) (iteB (a0 == (47 : Int)) (some (63 : Int)) (some (-1 : Int))))) (iteB (a0 == (43 : Int)) (some (62 : Int)) (iteB (a0 == (47 : Int)) (some (63 : Int)) (some (-1 : Int)))))) (iteB (decide ((48 : Int) ≤ a0)) (iteB (decide (a0 ≤ (57 : Int))) (some (IntKind.wrap .i64 ((IntKind.wrap .i64 ((IntKind.wrap .u8 (a0 - (48 : Int))))) + (52 : Int)))) (iteB (a0 == (43 : Int)) (some (62 : Int)) (iteB (a0 == (47 : Int)) (some (63 : Int)) (some (-1 : Int))))) (iteB (a0 == (43 : Int)) (some (62 : Int)) (iteB (a0 == (47 : Int)) (some (63 : Int)) (some (-1 : Int))))))
set_option maxHeartbeats 4000000 in
theorem F118_ok : ∀ (n : Nat) (a0 : Int) (r : Int), F118 n a0 = some r → FnC Try.prog 118 [.imm (.int .u8 a0)] (.imm (.int .i64 r))
 | n, a0, r, h => by
  unfold F118 at h
  refine FnC.goX mixed Try.func118 (by kernel_rfl) rfl ?_
  simp only [Try.ntmps118, List.length_cons, List.length_nil, List.replicate, List.cons_append, List.nil_append, Nat.reduceAdd, Nat.reduceSub]
  refine runX_seq ?_
  refine runX_regionC fun C hC => ?_
  try simp -implicitDefEqProofs (disch := omega) only [go_sem, ↓reduceIte]
  refine toEnd hC ?_
  refine endX_seq ?_
  refine runX_seq ?_
  refine runX_block ?_
  refine runX_seq ?_
  refine runX_regionC fun C hC => ?_
  try simp -implicitDefEqProofs (disch := omega) only [go_sem, ↓reduceIte]
  rcases iteB_some h with ⟨c1, h⟩ | ⟨c1, h⟩
  ·refine guardK_T c1 ?_
   try simp -implicitDefEqProofs (disch := omega) only [go_sem, ↓reduceIte]
   refine toEnd hC ?_
   refine endX_seq ?_
   rcases iteB_some h with ⟨c2, h⟩ | ⟨c2, h⟩
   ·refine runX_condT rfl c2 ?_
    refine runX_seq ?_
    refine runX_regionC fun C hC => ?_
    try simp -implicitDefEqProofs (disch := omega) only [go_sem, ↓reduceIte]
    refine toEnd hC ?_
    refine endX_seq ?_
    refine runX_ret ?_
    refine endX_blkR ?_
    refine endX_seqR ?_
    refine endX_q ?_
    obtain rfl := Option.some.inj h
    show RetW _ _ _ _ _
    simp only [RetW]
    (try simp -implicitDefEqProofs (disch := omega) only [go_sem, ↓reduceIte])
    (try simp (disch := omega) only [if_pos, Nat.sub_zero])
    exact leT_refl _
   ·refine runX_condF rfl c2 ?_
    refine runX_seq ?_
    refine runX_regionC fun C hC => ?_
    try simp -implicitDefEqProofs (disch := omega) only [go_sem, ↓reduceIte]
    rcases iteB_some h with ⟨c3, h⟩ | ⟨c3, h⟩
    ·refine guardK_T c3 ?_
     try simp -implicitDefEqProofs (disch := omega) only [go_sem, ↓reduceIte]
     refine toEnd hC ?_
     refine endX_seq ?_
     rcases iteB_some h with ⟨c4, h⟩ | ⟨c4, h⟩
     ·refine runX_condT rfl c4 ?_
      refine runX_seq ?_
      refine runX_regionC fun C hC => ?_
      try simp -implicitDefEqProofs (disch := omega) only [go_sem, ↓reduceIte]
      refine toEnd hC ?_
      refine endX_seq ?_
      refine runX_ret ?_
      refine endX_blkR ?_
      refine endX_seqR ?_
      refine endX_q ?_
      obtain rfl := Option.some.inj h
      show RetW _ _ _ _ _
      simp only [RetW]
      (try simp -implicitDefEqProofs (disch := omega) only [go_sem, ↓reduceIte])
      (try simp (disch := omega) only [if_pos, Nat.sub_zero])
      exact leT_refl _
     ·refine runX_condF rfl c4 ?_
      refine runX_seq ?_
      refine runX_regionC fun C hC => ?_
      try simp -implicitDefEqProofs (disch := omega) only [go_sem, ↓reduceIte]
      rcases iteB_some h with ⟨c5, h⟩ | ⟨c5, h⟩
      ·refine guardK_T c5 ?_
       try simp -implicitDefEqProofs (disch := omega) only [go_sem, ↓reduceIte]
       refine toEnd hC ?_
       refine endX_seq ?_
       rcases iteB_some h with ⟨c6, h⟩ | ⟨c6, h⟩
       ·refine runX_condT rfl c6 ?_
        refine runX_seq ?_
        refine runX_regionC fun C hC => ?_
        try simp -implicitDefEqProofs (disch := omega) only [go_sem, ↓reduceIte]
        refine toEnd hC ?_
        refine endX_seq ?_
        refine runX_ret ?_
        refine endX_blkR ?_
        refine endX_seqR ?_
        refine endX_q ?_
        obtain rfl := Option.some.inj h
        show RetW _ _ _ _ _
        simp only [RetW]
        (try simp -implicitDefEqProofs (disch := omega) only [go_sem, ↓reduceIte])
        (try simp (disch := omega) only [if_pos, Nat.sub_zero])
        exact leT_refl _
       ·refine runX_condF rfl c6 ?_
        refine runX_seq ?_
        refine runX_regionC fun C hC => ?_
        try simp -implicitDefEqProofs (disch := omega) only [go_sem, ↓reduceIte]
        refine toEnd hC ?_
        refine endX_seq ?_
        rcases iteB_some h with ⟨c7, h⟩ | ⟨c7, h⟩
        ·refine runX_condT rfl c7 ?_
         refine runX_seq ?_
         refine runX_regionC fun C hC => ?_
         try simp -implicitDefEqProofs (disch := omega) only [go_sem, ↓reduceIte]
         refine toEnd hC ?_
         refine endX_seq ?_
         refine runX_ret ?_
         refine endX_blkR ?_
         refine endX_seqR ?_
         refine endX_q ?_
         obtain rfl := Option.some.inj h
         show RetW _ _ _ _ _
         simp only [RetW]
         (try simp -implicitDefEqProofs (disch := omega) only [go_sem, ↓reduceIte])
         (try simp (disch := omega) only [if_pos, Nat.sub_zero])
         exact leT_refl _
        ·refine runX_condF rfl c7 ?_
         refine runX_seq ?_
         refine runX_regionC fun C hC => ?_
         try simp -implicitDefEqProofs (disch := omega) only [go_sem, ↓reduceIte]
         refine toEnd hC ?_
         refine endX_seq ?_
         rcases iteB_some h with ⟨c8, h⟩ | ⟨c8, h⟩
         ·refine runX_condT rfl c8 ?_
          refine runX_seq ?_
          refine runX_regionC fun C hC => ?_
          try simp -implicitDefEqProofs (disch := omega) only [go_sem, ↓reduceIte]
          refine toEnd hC ?_
          refine endX_seq ?_
          refine runX_ret ?_
          refine endX_blkR ?_
          refine endX_seqR ?_
          refine endX_q ?_
          obtain rfl := Option.some.inj h
          show RetW _ _ _ _ _
          simp only [RetW]
          (try simp -implicitDefEqProofs (disch := omega) only [go_sem, ↓reduceIte])
          (try simp (disch := omega) only [if_pos, Nat.sub_zero])
          exact leT_refl _
         ·refine runX_condF rfl c8 ?_
          refine runX_skip ?_
          refine endX_blk ?_
          refine endX_seq ?_
          refine runX_seq ?_
          refine runX_regionC fun C hC => ?_
          try simp -implicitDefEqProofs (disch := omega) only [go_sem, ↓reduceIte]
          refine toEnd hC ?_
          refine endX_seq ?_
          refine runX_ret ?_
          refine endX_q ?_
          obtain rfl := Option.some.inj h
          show RetW _ _ _ _ _
          simp only [RetW]
          (try simp -implicitDefEqProofs (disch := omega) only [go_sem, ↓reduceIte])
          (try simp (disch := omega) only [if_pos, Nat.sub_zero])
          exact leT_refl _
      ·refine guardK_F c5 ?_
       try simp -implicitDefEqProofs (disch := omega) only [go_sem, ↓reduceIte]
       refine toEnd hC ?_
       refine endX_seq ?_
       refine runX_condF rfl rfl ?_
       refine runX_seq ?_
       refine runX_regionC fun C hC => ?_
       try simp -implicitDefEqProofs (disch := omega) only [go_sem, ↓reduceIte]
       refine toEnd hC ?_
       refine endX_seq ?_
       rcases iteB_some h with ⟨c9, h⟩ | ⟨c9, h⟩
       ·refine runX_condT rfl c9 ?_
        refine runX_seq ?_
        refine runX_regionC fun C hC => ?_
        try simp -implicitDefEqProofs (disch := omega) only [go_sem, ↓reduceIte]
        refine toEnd hC ?_
        refine endX_seq ?_
        refine runX_ret ?_
        refine endX_blkR ?_
        refine endX_seqR ?_
        refine endX_q ?_
        obtain rfl := Option.some.inj h
        show RetW _ _ _ _ _
        simp only [RetW]
        (try simp -implicitDefEqProofs (disch := omega) only [go_sem, ↓reduceIte])
        (try simp (disch := omega) only [if_pos, Nat.sub_zero])
        exact leT_refl _
       ·refine runX_condF rfl c9 ?_
        refine runX_seq ?_
        refine runX_regionC fun C hC => ?_
        try simp -implicitDefEqProofs (disch := omega) only [go_sem, ↓reduceIte]
        refine toEnd hC ?_
        refine endX_seq ?_
        rcases iteB_some h with ⟨c10, h⟩ | ⟨c10, h⟩
        ·refine runX_condT rfl c10 ?_
         refine runX_seq ?_
         refine runX_regionC fun C hC => ?_
         try simp -implicitDefEqProofs (disch := omega) only [go_sem, ↓reduceIte]
         refine toEnd hC ?_
         refine endX_seq ?_
         refine runX_ret ?_
         refine endX_blkR ?_
         refine endX_seqR ?_
         refine endX_q ?_
         obtain rfl := Option.some.inj h
         show RetW _ _ _ _ _
         simp only [RetW]
         (try simp -implicitDefEqProofs (disch := omega) only [go_sem, ↓reduceIte])
         (try simp (disch := omega) only [if_pos, Nat.sub_zero])
         exact leT_refl _
        ·refine runX_condF rfl c10 ?_
         refine runX_skip ?_
         refine endX_blk ?_
         refine endX_seq ?_
         refine runX_seq ?_
         refine runX_regionC fun C hC => ?_
         try simp -implicitDefEqProofs (disch := omega) only [go_sem, ↓reduceIte]
         refine toEnd hC ?_
         refine endX_seq ?_
         refine runX_ret ?_
         refine endX_q ?_
         obtain rfl := Option.some.inj h
         show RetW _ _ _ _ _
         simp only [RetW]
         (try simp -implicitDefEqProofs (disch := omega) only [go_sem, ↓reduceIte])
         (try simp (disch := omega) only [if_pos, Nat.sub_zero])
         exact leT_refl _
    ·refine guardK_F c3 ?_
     try simp -implicitDefEqProofs (disch := omega) only [go_sem, ↓reduceIte]
     refine toEnd hC ?_
     refine endX_seq ?_
     refine runX_condF rfl rfl ?_
     refine runX_seq ?_
     refine runX_regionC fun C hC => ?_
     try simp -implicitDefEqProofs (disch := omega) only [go_sem, ↓reduceIte]
     rcases iteB_some h with ⟨c11, h⟩ | ⟨c11, h⟩
     ·refine guardK_T c11 ?_
      try simp -implicitDefEqProofs (disch := omega) only [go_sem, ↓reduceIte]
      refine toEnd hC ?_
      refine endX_seq ?_
      rcases iteB_some h with ⟨c12, h⟩ | ⟨c12, h⟩
      ·refine runX_condT rfl c12 ?_
       refine runX_seq ?_
       refine runX_regionC fun C hC => ?_
       try simp -implicitDefEqProofs (disch := omega) only [go_sem, ↓reduceIte]
       refine toEnd hC ?_
       refine endX_seq ?_
       refine runX_ret ?_
       refine endX_blkR ?_
       refine endX_seqR ?_
       refine endX_q ?_
       obtain rfl := Option.some.inj h
       show RetW _ _ _ _ _
       simp only [RetW]
       (try simp -implicitDefEqProofs (disch := omega) only [go_sem, ↓reduceIte])
       (try simp (disch := omega) only [if_pos, Nat.sub_zero])
       exact leT_refl _
      ·refine runX_condF rfl c12 ?_
       refine runX_seq ?_
       refine runX_regionC fun C hC => ?_
       try simp -implicitDefEqProofs (disch := omega) only [go_sem, ↓reduceIte]
       refine toEnd hC ?_
       refine endX_seq ?_
       rcases iteB_some h with ⟨c13, h⟩ | ⟨c13, h⟩
       ·refine runX_condT rfl c13 ?_
        refine runX_seq ?_
        refine runX_regionC fun C hC => ?_
        try simp -implicitDefEqProofs (disch := omega) only [go_sem, ↓reduceIte]
        refine toEnd hC ?_
        refine endX_seq ?_
        refine runX_ret ?_
        refine endX_blkR ?_
        refine endX_seqR ?_
        refine endX_q ?_
        obtain rfl := Option.some.inj h
        show RetW _ _ _ _ _
        simp only [RetW]
        (try simp -implicitDefEqProofs (disch := omega) only [go_sem, ↓reduceIte])
        (try simp (disch := omega) only [if_pos, Nat.sub_zero])
        exact leT_refl _
       ·refine runX_condF rfl c13 ?_
        refine runX_seq ?_
        refine runX_regionC fun C hC => ?_
        try simp -implicitDefEqProofs (disch := omega) only [go_sem, ↓reduceIte]
        refine toEnd hC ?_
        refine endX_seq ?_
        rcases iteB_some h with ⟨c14, h⟩ | ⟨c14, h⟩
        ·refine runX_condT rfl c14 ?_
         refine runX_seq ?_
         refine runX_regionC fun C hC => ?_
         try simp -implicitDefEqProofs (disch := omega) only [go_sem, ↓reduceIte]
         refine toEnd hC ?_
         refine endX_seq ?_
         refine runX_ret ?_
         refine endX_blkR ?_
         refine endX_seqR ?_
         refine endX_q ?_
         obtain rfl := Option.some.inj h
         show RetW _ _ _ _ _
         simp only [RetW]
         (try simp -implicitDefEqProofs (disch := omega) only [go_sem, ↓reduceIte])
         (try simp (disch := omega) only [if_pos, Nat.sub_zero])
         exact leT_refl _
        ·refine runX_condF rfl c14 ?_
         refine runX_skip ?_
         refine endX_blk ?_
         refine endX_seq ?_
         refine runX_seq ?_
         refine runX_regionC fun C hC => ?_
         try simp -implicitDefEqProofs (disch := omega) only [go_sem, ↓reduceIte]
         refine toEnd hC ?_
         refine endX_seq ?_
         refine runX_ret ?_
         refine endX_q ?_
         obtain rfl := Option.some.inj h
         show RetW _ _ _ _ _
         simp only [RetW]
         (try simp -implicitDefEqProofs (disch := omega) only [go_sem, ↓reduceIte])
         (try simp (disch := omega) only [if_pos, Nat.sub_zero])
         exact leT_refl _
     ·refine guardK_F c11 ?_
      try simp -implicitDefEqProofs (disch := omega) only [go_sem, ↓reduceIte]
      refine toEnd hC ?_
      refine endX_seq ?_
      refine runX_condF rfl rfl ?_
      refine runX_seq ?_
      refine runX_regionC fun C hC => ?_
      try simp -implicitDefEqProofs (disch := omega) only [go_sem, ↓reduceIte]
      refine toEnd hC ?_
      refine endX_seq ?_
      rcases iteB_some h with ⟨c15, h⟩ | ⟨c15, h⟩
      ·refine runX_condT rfl c15 ?_
       refine runX_seq ?_
       refine runX_regionC fun C hC => ?_
       try simp -implicitDefEqProofs (disch := omega) only [go_sem, ↓reduceIte]
       refine toEnd hC ?_
       refine endX_seq ?_
       refine runX_ret ?_
       refine endX_blkR ?_
       refine endX_seqR ?_
       refine endX_q ?_
       obtain rfl := Option.some.inj h
       show RetW _ _ _ _ _
       simp only [RetW]
       (try simp -implicitDefEqProofs (disch := omega) only [go_sem, ↓reduceIte])
       (try simp (disch := omega) only [if_pos, Nat.sub_zero])
       exact leT_refl _
      ·refine runX_condF rfl c15 ?_
       refine runX_seq ?_
       refine runX_regionC fun C hC => ?_
       try simp -implicitDefEqProofs (disch := omega) only [go_sem, ↓reduceIte]
       refine toEnd hC ?_
       refine endX_seq ?_
       rcases iteB_some h with ⟨c16, h⟩ | ⟨c16, h⟩
       ·refine runX_condT rfl c16 ?_
        refine runX_seq ?_
        refine runX_regionC fun C hC => ?_
        try simp -implicitDefEqProofs (disch := omega) only [go_sem, ↓reduceIte]
        refine toEnd hC ?_
        refine endX_seq ?_
        refine runX_ret ?_
        refine endX_blkR ?_
        refine endX_seqR ?_
        refine endX_q ?_
        obtain rfl := Option.some.inj h
        show RetW _ _ _ _ _
        simp only [RetW]
        (try simp -implicitDefEqProofs (disch := omega) only [go_sem, ↓reduceIte])
        (try simp (disch := omega) only [if_pos, Nat.sub_zero])
        exact leT_refl _
       ·refine runX_condF rfl c16 ?_
        refine runX_skip ?_
        refine endX_blk ?_
        refine endX_seq ?_
        refine runX_seq ?_
        refine runX_regionC fun C hC => ?_
        try simp -implicitDefEqProofs (disch := omega) only [go_sem, ↓reduceIte]
        refine toEnd hC ?_
        refine endX_seq ?_
        refine runX_ret ?_
        refine endX_q ?_
        obtain rfl := Option.some.inj h
        show RetW _ _ _ _ _
        simp only [RetW]
        (try simp -implicitDefEqProofs (disch := omega) only [go_sem, ↓reduceIte])
        (try simp (disch := omega) only [if_pos, Nat.sub_zero])
        exact leT_refl _
  ·refine guardK_F c1 ?_
   try simp -implicitDefEqProofs (disch := omega) only [go_sem, ↓reduceIte]
   refine toEnd hC ?_
   refine endX_seq ?_
   refine runX_condF rfl rfl ?_
   refine runX_seq ?_
   refine runX_regionC fun C hC => ?_
   try simp -implicitDefEqProofs (disch := omega) only [go_sem, ↓reduceIte]
   rcases iteB_some h with ⟨c17, h⟩ | ⟨c17, h⟩
   ·refine guardK_T c17 ?_
    try simp -implicitDefEqProofs (disch := omega) only [go_sem, ↓reduceIte]
    refine toEnd hC ?_
    refine endX_seq ?_
    rcases iteB_some h with ⟨c18, h⟩ | ⟨c18, h⟩
    ·refine runX_condT rfl c18 ?_
     refine runX_seq ?_
     refine runX_regionC fun C hC => ?_
     try simp -implicitDefEqProofs (disch := omega) only [go_sem, ↓reduceIte]
     refine toEnd hC ?_
     refine endX_seq ?_
     refine runX_ret ?_
     refine endX_blkR ?_
     refine endX_seqR ?_
     refine endX_q ?_
     obtain rfl := Option.some.inj h
     show RetW _ _ _ _ _
     simp only [RetW]
     (try simp -implicitDefEqProofs (disch := omega) only [go_sem, ↓reduceIte])
     (try simp (disch := omega) only [if_pos, Nat.sub_zero])
     exact leT_refl _
    ·refine runX_condF rfl c18 ?_
     refine runX_seq ?_
     refine runX_regionC fun C hC => ?_
     try simp -implicitDefEqProofs (disch := omega) only [go_sem, ↓reduceIte]
     rcases iteB_some h with ⟨c19, h⟩ | ⟨c19, h⟩
     ·refine guardK_T c19 ?_
      try simp -implicitDefEqProofs (disch := omega) only [go_sem, ↓reduceIte]
      refine toEnd hC ?_
      refine endX_seq ?_
      rcases iteB_some h with ⟨c20, h⟩ | ⟨c20, h⟩
      ·refine runX_condT rfl c20 ?_
       refine runX_seq ?_
       refine runX_regionC fun C hC => ?_
       try simp -implicitDefEqProofs (disch := omega) only [go_sem, ↓reduceIte]
       refine toEnd hC ?_
       refine endX_seq ?_
       refine runX_ret ?_
       refine endX_blkR ?_
       refine endX_seqR ?_
       refine endX_q ?_
       obtain rfl := Option.some.inj h
       show RetW _ _ _ _ _
       simp only [RetW]
       (try simp -implicitDefEqProofs (disch := omega) only [go_sem, ↓reduceIte])
       (try simp (disch := omega) only [if_pos, Nat.sub_zero])
       exact leT_refl _
      ·refine runX_condF rfl c20 ?_
       refine runX_seq ?_
       refine runX_regionC fun C hC => ?_
       try simp -implicitDefEqProofs (disch := omega) only [go_sem, ↓reduceIte]
       refine toEnd hC ?_
       refine endX_seq ?_
       rcases iteB_some h with ⟨c21, h⟩ | ⟨c21, h⟩
       ·refine runX_condT rfl c21 ?_
        refine runX_seq ?_
        refine runX_regionC fun C hC => ?_
        try simp -implicitDefEqProofs (disch := omega) only [go_sem, ↓reduceIte]
        refine toEnd hC ?_
        refine endX_seq ?_
        refine runX_ret ?_
        refine endX_blkR ?_
        refine endX_seqR ?_
        refine endX_q ?_
        obtain rfl := Option.some.inj h
        show RetW _ _ _ _ _
        simp only [RetW]
        (try simp -implicitDefEqProofs (disch := omega) only [go_sem, ↓reduceIte])
        (try simp (disch := omega) only [if_pos, Nat.sub_zero])
        exact leT_refl _
       ·refine runX_condF rfl c21 ?_
        refine runX_seq ?_
        refine runX_regionC fun C hC => ?_
        try simp -implicitDefEqProofs (disch := omega) only [go_sem, ↓reduceIte]
        refine toEnd hC ?_
        refine endX_seq ?_
        rcases iteB_some h with ⟨c22, h⟩ | ⟨c22, h⟩
        ·refine runX_condT rfl c22 ?_
         refine runX_seq ?_
         refine runX_regionC fun C hC => ?_
         try simp -implicitDefEqProofs (disch := omega) only [go_sem, ↓reduceIte]
         refine toEnd hC ?_
         refine endX_seq ?_
         refine runX_ret ?_
         refine endX_blkR ?_
         refine endX_seqR ?_
         refine endX_q ?_
         obtain rfl := Option.some.inj h
         show RetW _ _ _ _ _
         simp only [RetW]
         (try simp -implicitDefEqProofs (disch := omega) only [go_sem, ↓reduceIte])
         (try simp (disch := omega) only [if_pos, Nat.sub_zero])
         exact leT_refl _
        ·refine runX_condF rfl c22 ?_
         refine runX_skip ?_
         refine endX_blk ?_
         refine endX_seq ?_
         refine runX_seq ?_
         refine runX_regionC fun C hC => ?_
         try simp -implicitDefEqProofs (disch := omega) only [go_sem, ↓reduceIte]
         refine toEnd hC ?_
         refine endX_seq ?_
         refine runX_ret ?_
         refine endX_q ?_
         obtain rfl := Option.some.inj h
         show RetW _ _ _ _ _
         simp only [RetW]
         (try simp -implicitDefEqProofs (disch := omega) only [go_sem, ↓reduceIte])
         (try simp (disch := omega) only [if_pos, Nat.sub_zero])
         exact leT_refl _
     ·refine guardK_F c19 ?_
      try simp -implicitDefEqProofs (disch := omega) only [go_sem, ↓reduceIte]
      refine toEnd hC ?_
      refine endX_seq ?_
      refine runX_condF rfl rfl ?_
      refine runX_seq ?_
      refine runX_regionC fun C hC => ?_
      try simp -implicitDefEqProofs (disch := omega) only [go_sem, ↓reduceIte]
      refine toEnd hC ?_
      refine endX_seq ?_
      rcases iteB_some h with ⟨c23, h⟩ | ⟨c23, h⟩
      ·refine runX_condT rfl c23 ?_
       refine runX_seq ?_
       refine runX_regionC fun C hC => ?_
       try simp -implicitDefEqProofs (disch := omega) only [go_sem, ↓reduceIte]
       refine toEnd hC ?_
       refine endX_seq ?_
       refine runX_ret ?_
       refine endX_blkR ?_
       refine endX_seqR ?_
       refine endX_q ?_
       obtain rfl := Option.some.inj h
       show RetW _ _ _ _ _
       simp only [RetW]
       (try simp -implicitDefEqProofs (disch := omega) only [go_sem, ↓reduceIte])
       (try simp (disch := omega) only [if_pos, Nat.sub_zero])
       exact leT_refl _
      ·refine runX_condF rfl c23 ?_
       refine runX_seq ?_
       refine runX_regionC fun C hC => ?_
       try simp -implicitDefEqProofs (disch := omega) only [go_sem, ↓reduceIte]
       refine toEnd hC ?_
       refine endX_seq ?_
       rcases iteB_some h with ⟨c24, h⟩ | ⟨c24, h⟩
       ·refine runX_condT rfl c24 ?_
        refine runX_seq ?_
        refine runX_regionC fun C hC => ?_
        try simp -implicitDefEqProofs (disch := omega) only [go_sem, ↓reduceIte]
        refine toEnd hC ?_
        refine endX_seq ?_
        refine runX_ret ?_
        refine endX_blkR ?_
        refine endX_seqR ?_
        refine endX_q ?_
        obtain rfl := Option.some.inj h
        show RetW _ _ _ _ _
        simp only [RetW]
        (try simp -implicitDefEqProofs (disch := omega) only [go_sem, ↓reduceIte])
        (try simp (disch := omega) only [if_pos, Nat.sub_zero])
        exact leT_refl _
       ·refine runX_condF rfl c24 ?_
        refine runX_skip ?_
        refine endX_blk ?_
        refine endX_seq ?_
        refine runX_seq ?_
        refine runX_regionC fun C hC => ?_
        try simp -implicitDefEqProofs (disch := omega) only [go_sem, ↓reduceIte]
        refine toEnd hC ?_
        refine endX_seq ?_
        refine runX_ret ?_
        refine endX_q ?_
        obtain rfl := Option.some.inj h
        show RetW _ _ _ _ _
        simp only [RetW]
        (try simp -implicitDefEqProofs (disch := omega) only [go_sem, ↓reduceIte])
        (try simp (disch := omega) only [if_pos, Nat.sub_zero])
        exact leT_refl _
   ·refine guardK_F c17 ?_
    try simp -implicitDefEqProofs (disch := omega) only [go_sem, ↓reduceIte]
    refine toEnd hC ?_
    refine endX_seq ?_
    refine runX_condF rfl rfl ?_
    refine runX_seq ?_
    refine runX_regionC fun C hC => ?_
    try simp -implicitDefEqProofs (disch := omega) only [go_sem, ↓reduceIte]
    rcases iteB_some h with ⟨c25, h⟩ | ⟨c25, h⟩
    ·refine guardK_T c25 ?_
     try simp -implicitDefEqProofs (disch := omega) only [go_sem, ↓reduceIte]
     refine toEnd hC ?_
     refine endX_seq ?_
     rcases iteB_some h with ⟨c26, h⟩ | ⟨c26, h⟩
     ·refine runX_condT rfl c26 ?_
      refine runX_seq ?_
      refine runX_regionC fun C hC => ?_
      try simp -implicitDefEqProofs (disch := omega) only [go_sem, ↓reduceIte]
      refine toEnd hC ?_
      refine endX_seq ?_
      refine runX_ret ?_
      refine endX_blkR ?_
      refine endX_seqR ?_
      refine endX_q ?_
      obtain rfl := Option.some.inj h
      show RetW _ _ _ _ _
      simp only [RetW]
      (try simp -implicitDefEqProofs (disch := omega) only [go_sem, ↓reduceIte])
      (try simp (disch := omega) only [if_pos, Nat.sub_zero])
      exact leT_refl _
     ·refine runX_condF rfl c26 ?_
      refine runX_seq ?_
      refine runX_regionC fun C hC => ?_
      try simp -implicitDefEqProofs (disch := omega) only [go_sem, ↓reduceIte]
      refine toEnd hC ?_
      refine endX_seq ?_
      rcases iteB_some h with ⟨c27, h⟩ | ⟨c27, h⟩
      ·refine runX_condT rfl c27 ?_
       refine runX_seq ?_
       refine runX_regionC fun C hC => ?_
       try simp -implicitDefEqProofs (disch := omega) only [go_sem, ↓reduceIte]
       refine toEnd hC ?_
       refine endX_seq ?_
       refine runX_ret ?_
       refine endX_blkR ?_
       refine endX_seqR ?_
       refine endX_q ?_
       obtain rfl := Option.some.inj h
       show RetW _ _ _ _ _
       simp only [RetW]
       (try simp -implicitDefEqProofs (disch := omega) only [go_sem, ↓reduceIte])
       (try simp (disch := omega) only [if_pos, Nat.sub_zero])
       exact leT_refl _
      ·refine runX_condF rfl c27 ?_
       refine runX_seq ?_
       refine runX_regionC fun C hC => ?_
       try simp -implicitDefEqProofs (disch := omega) only [go_sem, ↓reduceIte]
       refine toEnd hC ?_
       refine endX_seq ?_
       rcases iteB_some h with ⟨c28, h⟩ | ⟨c28, h⟩
       ·refine runX_condT rfl c28 ?_
        refine runX_seq ?_
        refine runX_regionC fun C hC => ?_
        try simp -implicitDefEqProofs (disch := omega) only [go_sem, ↓reduceIte]
        refine toEnd hC ?_
        refine endX_seq ?_
        refine runX_ret ?_
        refine endX_blkR ?_
        refine endX_seqR ?_
        refine endX_q ?_
        obtain rfl := Option.some.inj h
        show RetW _ _ _ _ _
        simp only [RetW]
        (try simp -implicitDefEqProofs (disch := omega) only [go_sem, ↓reduceIte])
        (try simp (disch := omega) only [if_pos, Nat.sub_zero])
        exact leT_refl _
       ·refine runX_condF rfl c28 ?_
        refine runX_skip ?_
        refine endX_blk ?_
        refine endX_seq ?_
        refine runX_seq ?_
        refine runX_regionC fun C hC => ?_
        try simp -implicitDefEqProofs (disch := omega) only [go_sem, ↓reduceIte]
        refine toEnd hC ?_
        refine endX_seq ?_
        refine runX_ret ?_
        refine endX_q ?_
        obtain rfl := Option.some.inj h
        show RetW _ _ _ _ _
        simp only [RetW]
        (try simp -implicitDefEqProofs (disch := omega) only [go_sem, ↓reduceIte])
        (try simp (disch := omega) only [if_pos, Nat.sub_zero])
        exact leT_refl _
    ·refine guardK_F c25 ?_
     try simp -implicitDefEqProofs (disch := omega) only [go_sem, ↓reduceIte]
     refine toEnd hC ?_
     refine endX_seq ?_
     refine runX_condF rfl rfl ?_
     refine runX_seq ?_
     refine runX_regionC fun C hC => ?_
     try simp -implicitDefEqProofs (disch := omega) only [go_sem, ↓reduceIte]
     refine toEnd hC ?_
     refine endX_seq ?_
     rcases iteB_some h with ⟨c29, h⟩ | ⟨c29, h⟩
     ·refine runX_condT rfl c29 ?_
      refine runX_seq ?_
      refine runX_regionC fun C hC => ?_
      try simp -implicitDefEqProofs (disch := omega) only [go_sem, ↓reduceIte]
      refine toEnd hC ?_
      refine endX_seq ?_
      refine runX_ret ?_
      refine endX_blkR ?_
      refine endX_seqR ?_
      refine endX_q ?_
      obtain rfl := Option.some.inj h
      show RetW _ _ _ _ _
      simp only [RetW]
      (try simp -implicitDefEqProofs (disch := omega) only [go_sem, ↓reduceIte])
      (try simp (disch := omega) only [if_pos, Nat.sub_zero])
      exact leT_refl _
     ·refine runX_condF rfl c29 ?_
      refine runX_seq ?_
      refine runX_regionC fun C hC => ?_
      try simp -implicitDefEqProofs (disch := omega) only [go_sem, ↓reduceIte]
      refine toEnd hC ?_
      refine endX_seq ?_
      rcases iteB_some h with ⟨c30, h⟩ | ⟨c30, h⟩
      ·refine runX_condT rfl c30 ?_
       refine runX_seq ?_
       refine runX_regionC fun C hC => ?_
       try simp -implicitDefEqProofs (disch := omega) only [go_sem, ↓reduceIte]
       refine toEnd hC ?_
       refine endX_seq ?_
       refine runX_ret ?_
       refine endX_blkR ?_
       refine endX_seqR ?_
       refine endX_q ?_
       obtain rfl := Option.some.inj h
       show RetW _ _ _ _ _
       simp only [RetW]
       (try simp -implicitDefEqProofs (disch := omega) only [go_sem, ↓reduceIte])
       (try simp (disch := omega) only [if_pos, Nat.sub_zero])
       exact leT_refl _
      ·refine runX_condF rfl c30 ?_
       refine runX_skip ?_
       refine endX_blk ?_
       refine endX_seq ?_
       refine runX_seq ?_
       refine runX_regionC fun C hC => ?_
       try simp -implicitDefEqProofs (disch := omega) only [go_sem, ↓reduceIte]
       refine toEnd hC ?_
       refine endX_seq ?_
       refine runX_ret ?_
       refine endX_q ?_
       obtain rfl := Option.some.inj h
       show RetW _ _ _ _ _
       simp only [RetW]
       (try simp -implicitDefEqProofs (disch := omega) only [go_sem, ↓reduceIte])
       (try simp (disch := omega) only [if_pos, Nat.sub_zero])
       exact leT_refl _
end Go.Proofs.YtaiapalhdejngaaX

set_option linter.unusedVariables false
set_option linter.unusedSimpArgs false
namespace Go.Proofs.YtaiapalhdejngaaX
open Go Go.RowKit Go.Proofs
set_option maxRecDepth 100000
attribute [local go_sem ↓] stepsK_build stepsK_bs appendS
attribute [local go_sem] String.reduceEq String.reduceNe reduceCtorEq Int.reduceEq Nat.reduceAdd Nat.reduceSub Nat.reduceMul Nat.reduceLT Nat.reduceLeDiff Nat.reduceEqDiff Nat.reduceBEq Int.reduceToNat Int.reduceLT Int.reduceLE Int.reduceGT Int.reduceGE Int.reduceAdd Int.reduceSub Int.reduceMul Int.reduceNeg Int.reduceBEq Int.reduceBNe Int.reducePow Int.reduceDiv Int.reduceMod Int.reduceTDiv Int.reduceTMod Int.reduceNatCast
/-! ### base.trio -/
def F103_S2 (a0 : List UInt8) (v2 : Int) : St := ⟨[.imm (.string (bs a0)), .junk, .junk, .junk, .imm (.int .i64 (0 : Int)), .imm (.int .i64 (3 : Int)), .imm (.int .i64 (0 : Int)), .imm (.int .i64 v2), .junk, .junk, .junk, .imm (.int .i64 (0 : Int)), .junk, .junk, .junk, .junk, .junk, .junk, .junk, .junk, .junk, .junk, .junk, .junk, .junk, .junk, .junk, .junk, .junk, .junk, .junk, .junk, .junk, .junk, .junk, .junk, .junk, .junk, .junk, .junk, .junk, .junk, .junk, .junk, .junk, .junk, .junk, .junk, .junk, .junk, .junk, .junk, .junk, .junk, .junk, .junk, .junk, .junk, .junk, .junk, .junk, .junk, .junk, .junk, .junk, .junk, .junk, .junk, .junk, .junk, .junk, .junk, .junk, .junk, .junk], []⟩
def F103_S4 (a0 : List UInt8) (x6 : Int) (v8 : Int) : St := ⟨[.imm (.string (bs a0)), .junk, .junk, .junk, .imm (.int .i64 x6), .imm (.int .i64 (3 : Int)), .imm (.int .i64 (1 : Int)), .imm (.int .i64 v8), .junk, .junk, .junk, .imm (.int .i64 (1 : Int)), .junk, .junk, .junk, .junk, .junk, .junk, .junk, .junk, .junk, .junk, .junk, .junk, .junk, .junk, .junk, .junk, .junk, .junk, .junk, .junk, .junk, .junk, .junk, .junk, .junk, .junk, .junk, .junk, .junk, .junk, .junk, .junk, .junk, .junk, .junk, .junk, .junk, .junk, .junk, .junk, .junk, .junk, .junk, .junk, .junk, .junk, .junk, .junk, .junk, .junk, .junk, .junk, .junk, .junk, .junk, .junk, .junk, .junk, .junk, .junk, .junk, .junk, .junk], []⟩
def F103_S6 (a0 : List UInt8) (x12 : Int) (x19 : Int) (x20 : Int) : St := ⟨[.imm (.string (bs a0)), .junk, .junk, .junk, .imm (.int .i64 x12), .imm (.int .i64 x19), .imm (.int .i64 (2 : Int)), .imm (.int .i64 x20), .junk, .junk, .junk, .imm (.int .i64 (2 : Int)), .junk, .junk, .junk, .junk, .junk, .junk, .junk, .junk, .junk, .junk, .junk, .junk, .junk, .junk, .junk, .junk, .junk, .junk, .junk, .junk, .junk, .junk, .junk, .junk, .junk, .junk, .junk, .junk, .junk, .junk, .junk, .junk, .junk, .junk, .junk, .junk, .junk, .junk, .junk, .junk, .junk, .junk, .junk, .junk, .junk, .junk, .junk, .junk, .junk, .junk, .junk, .junk, .junk, .junk, .junk, .junk, .junk, .junk, .junk, .junk, .junk, .junk, .junk], []⟩
def F103_S8 (a0 : List UInt8) (x25 : Int) (x33 : Int) (x34 : Int) : St := ⟨[.imm (.string (bs a0)), .junk, .junk, .junk, .imm (.int .i64 x25), .imm (.int .i64 x33), .imm (.int .i64 (3 : Int)), .imm (.int .i64 x34), .junk, .junk, .junk, .imm (.int .i64 (3 : Int)), .junk, .junk, .junk, .junk, .junk, .junk, .junk, .junk, .junk, .junk, .junk, .junk, .junk, .junk, .junk, .junk, .junk, .junk, .junk, .junk, .junk, .junk, .junk, .junk, .junk, .junk, .junk, .junk, .junk, .junk, .junk, .junk, .junk, .junk, .junk, .junk, .junk, .junk, .junk, .junk, .junk, .junk, .junk, .junk, .junk, .junk, .junk, .junk, .junk, .junk, .junk, .junk, .junk, .junk, .junk, .junk, .junk, .junk, .junk, .junk, .junk, .junk, .junk], []⟩
def F103_S9 (x40 : Int) (x39 : Int) (x43 : Int) : St := ⟨[.junk, .junk, .junk, .junk, .junk, .imm (.int .i64 x40), .junk, .junk, .sl 1 true (List.map byteT [(IntKind.wrap .u8 ((bShr .i64 x39 16))), (IntKind.wrap .u8 ((bShr .i64 x39 8))), (IntKind.wrap .u8 (x39))]), .junk, .junk, .junk, .junk, .junk, .junk, .junk, .junk, .junk, .junk, .junk, .junk, .junk, .junk, .junk, .junk, .junk, .junk, .junk, .junk, .junk, .junk, .junk, .junk, .junk, .junk, .junk, .junk, .junk, .junk, .junk, .junk, .junk, .junk, .junk, .junk, .junk, .junk, .junk, .junk, .junk, .junk, .junk, .junk, .junk, .junk, .junk, .junk, .junk, .junk, .junk, .junk, .junk, .junk, .sl 1 true (List.map byteT ([(IntKind.wrap .u8 ((bShr .i64 x39 16))), (IntKind.wrap .u8 ((bShr .i64 x39 8))), (IntKind.wrap .u8 (x39))].drop x40.toNat)), .imm (.int .i64 (([(IntKind.wrap .u8 ((bShr .i64 x39 16))), (IntKind.wrap .u8 ((bShr .i64 x39 8))), (IntKind.wrap .u8 (x39))].drop x40.toNat).length : Int)), .imm (.int .i64 x43), .junk, .junk, .junk, .junk, .junk, .junk, .junk, .junk, .junk], []⟩
def F103_S7 (a0 : List UInt8) (x39 : Int) (x40 : Int) : St := ⟨[.imm (.string (bs a0)), .junk, .junk, .junk, .imm (.int .i64 x39), .imm (.int .i64 x40), .junk, .junk, .junk, .junk, .junk, .imm (.int .i64 (3 : Int)), .junk, .junk, .junk, .junk, .junk, .junk, .junk, .junk, .junk, .junk, .junk, .junk, .junk, .junk, .junk, .junk, .junk, .junk, .junk, .junk, .junk, .junk, .junk, .junk, .junk, .junk, .junk, .junk, .junk, .junk, .junk, .junk, .junk, .junk, .junk, .junk, .junk, .junk, .junk, .junk, .junk, .junk, .junk, .junk, .junk, .junk, .junk, .junk, .junk, .junk, .junk, .junk, .junk, .junk, .junk, .junk, .junk, .junk, .junk, .junk, .junk, .junk, .junk], []⟩
def F103_S5 (a0 : List UInt8) (x25 : Int) (x26 : Int) : St := ⟨[.imm (.string (bs a0)), .junk, .junk, .junk, .imm (.int .i64 x25), .imm (.int .i64 x26), .junk, .junk, .junk, .junk, .junk, .imm (.int .i64 (2 : Int)), .junk, .junk, .junk, .junk, .junk, .junk, .junk, .junk, .junk, .junk, .junk, .junk, .junk, .junk, .junk, .junk, .junk, .junk, .junk, .junk, .junk, .junk, .junk, .junk, .junk, .junk, .junk, .junk, .junk, .junk, .junk, .junk, .junk, .junk, .junk, .junk, .junk, .junk, .junk, .junk, .junk, .junk, .junk, .junk, .junk, .junk, .junk, .junk, .junk, .junk, .junk, .junk, .junk, .junk, .junk, .junk, .junk, .junk, .junk, .junk, .junk, .junk, .junk], []⟩
def F103_S3 (a0 : List UInt8) (x12 : Int) : St := ⟨[.imm (.string (bs a0)), .junk, .junk, .junk, .imm (.int .i64 x12), .imm (.int .i64 (3 : Int)), .junk, .junk, .junk, .junk, .junk, .imm (.int .i64 (1 : Int)), .junk, .junk, .junk, .junk, .junk, .junk, .junk, .junk, .junk, .junk, .junk, .junk, .junk, .junk, .junk, .junk, .junk, .junk, .junk, .junk, .junk, .junk, .junk, .junk, .junk, .junk, .junk, .junk, .junk, .junk, .junk, .junk, .junk, .junk, .junk, .junk, .junk, .junk, .junk, .junk, .junk, .junk, .junk, .junk, .junk, .junk, .junk, .junk, .junk, .junk, .junk, .junk, .junk, .junk, .junk, .junk, .junk, .junk, .junk, .junk, .junk, .junk, .junk], []⟩
def F103_S1 (a0 : List UInt8) (x6 : Int) : St := ⟨[.imm (.string (bs a0)), .junk, .junk, .junk, .imm (.int .i64 x6), .imm (.int .i64 (3 : Int)), .junk, .junk, .junk, .junk, .junk, .imm (.int .i64 (0 : Int)), .junk, .junk, .junk, .junk, .junk, .junk, .junk, .junk, .junk, .junk, .junk, .junk, .junk, .junk, .junk, .junk, .junk, .junk, .junk, .junk, .junk, .junk, .junk, .junk, .junk, .junk, .junk, .junk, .junk, .junk, .junk, .junk, .junk, .junk, .junk, .junk, .junk, .junk, .junk, .junk, .junk, .junk, .junk, .junk, .junk, .junk, .junk, .junk, .junk, .junk, .junk, .junk, .junk, .junk, .junk, .junk, .junk, .junk, .junk, .junk, .junk, .junk, .junk], []⟩
mutual
def F103_J2 (n : Nat) (a0 : List UInt8) (v2 : Int) : Option ((List (Int)) × (Bool)) := iteB (decide (v2 < (0 : Int))) (some ([], false)) (F103_J1 n a0 (IntKind.wrap .i64 (bOr .i64 (IntKind.wrap .i64 (bShl .i64 (0 : Int) 6)) v2)))
def F103_J4 (n : Nat) (a0 : List UInt8) (x6 : Int) (v8 : Int) : Option ((List (Int)) × (Bool)) := iteB (decide (v8 < (0 : Int))) (some ([], false)) (F103_J3 n a0 (IntKind.wrap .i64 (bOr .i64 (IntKind.wrap .i64 (bShl .i64 x6 6)) v8)))
def F103_J6 (n : Nat) (a0 : List UInt8) (x12 : Int) (x19 : Int) (x20 : Int) : Option ((List (Int)) × (Bool)) := iteB (decide (x20 < (0 : Int))) (some ([], false)) (iteB (decide (x19 < (3 : Int))) (grd ((2 : Int) < (a0.length : Int)) (iteB (((a0.getD (2 : Int).toNat 0).toNat : Int) != (61 : Int)) (some ([], false)) (F103_J5 n a0 (IntKind.wrap .i64 (bOr .i64 (IntKind.wrap .i64 (bShl .i64 x12 6)) x20)) x19))) (F103_J5 n a0 (IntKind.wrap .i64 (bOr .i64 (IntKind.wrap .i64 (bShl .i64 x12 6)) x20)) x19))
def F103_J8 (n : Nat) (a0 : List UInt8) (x25 : Int) (x33 : Int) (x34 : Int) : Option ((List (Int)) × (Bool)) := iteB (decide (x34 < (0 : Int))) (some ([], false)) (iteB (decide (x33 < (3 : Int))) (grd ((3 : Int) < (a0.length : Int)) (iteB (((a0.getD (3 : Int).toNat 0).toNat : Int) != (61 : Int)) (some ([], false)) (F103_J7 n a0 (IntKind.wrap .i64 (bOr .i64 (IntKind.wrap .i64 (bShl .i64 x25 6)) x34)) x33))) (F103_J7 n a0 (IntKind.wrap .i64 (bOr .i64 (IntKind.wrap .i64 (bShl .i64 x25 6)) x34)) x33))
def F103_L9 : Nat → (Int) → (Int) → (Int) → Option ((List (Int)) × (Bool))
 | 0, _, _, _ => none
 | m9 + 1, x40, x39, x43 => iteB (decide (x43 < (([(IntKind.wrap .u8 ((bShr .i64 x39 16))), (IntKind.wrap .u8 ((bShr .i64 x39 8))), (IntKind.wrap .u8 (x39))].drop x40.toNat).length : Int))) (grd (0 ≤ x43 ∧ x43 < (([(IntKind.wrap .u8 ((bShr .i64 x39 16))), (IntKind.wrap .u8 ((bShr .i64 x39 8))), (IntKind.wrap .u8 (x39))].drop x40.toNat).length : Int)) (iteB ((([(IntKind.wrap .u8 ((bShr .i64 x39 16))), (IntKind.wrap .u8 ((bShr .i64 x39 8))), (IntKind.wrap .u8 (x39))].drop x40.toNat).getD x43.toNat default) != (0 : Int)) (some ([], false)) (F103_L9 m9 x40 x39 (IntKind.wrap .i64 (x43 + (1 : Int)))))) (grd (0 ≤ x40 ∧ x40 ≤ (3 : Int)) (some (([(IntKind.wrap .u8 ((bShr .i64 x39 16))), (IntKind.wrap .u8 ((bShr .i64 x39 8))), (IntKind.wrap .u8 (x39))].take x40.toNat), true)))
def F103_J7 (n : Nat) (a0 : List UInt8) (x39 : Int) (x40 : Int) : Option ((List (Int)) × (Bool)) := grd (0 ≤ x40 ∧ x40 ≤ (3 : Int)) (F103_L9 n x40 x39 (0 : Int))
def F103_J5 (n : Nat) (a0 : List UInt8) (x25 : Int) (x26 : Int) : Option ((List (Int)) × (Bool)) := grd ((3 : Int) < (a0.length : Int)) ((F118 n ((a0.getD (3 : Int).toNat 0).toNat : Int)).bind fun v28 => grd ((3 : Int) < (a0.length : Int)) (iteB (((a0.getD (3 : Int).toNat 0).toNat : Int) == (61 : Int)) (grd ((3 : Int) < (a0.length : Int)) (iteB (((a0.getD (3 : Int).toNat 0).toNat : Int) == (61 : Int)) (F103_J8 n a0 x25 (if (2 : Int) < x26 then (2 : Int) else x26) (0 : Int)) (F103_J8 n a0 x25 x26 v28))) (F103_J8 n a0 x25 x26 v28)))
def F103_J3 (n : Nat) (a0 : List UInt8) (x12 : Int) : Option ((List (Int)) × (Bool)) := grd ((2 : Int) < (a0.length : Int)) ((F118 n ((a0.getD (2 : Int).toNat 0).toNat : Int)).bind fun v14 => grd ((2 : Int) < (a0.length : Int)) (iteB (((a0.getD (2 : Int).toNat 0).toNat : Int) == (61 : Int)) (grd ((3 : Int) < (a0.length : Int)) (iteB (((a0.getD (3 : Int).toNat 0).toNat : Int) == (61 : Int)) (F103_J6 n a0 x12 (if (1 : Int) < (3 : Int) then (1 : Int) else (3 : Int)) (0 : Int)) (F103_J6 n a0 x12 (3 : Int) v14))) (F103_J6 n a0 x12 (3 : Int) v14)))
def F103_J1 (n : Nat) (a0 : List UInt8) (x6 : Int) : Option ((List (Int)) × (Bool)) := grd ((1 : Int) < (a0.length : Int)) ((F118 n ((a0.getD (1 : Int).toNat 0).toNat : Int)).bind fun v8 => grd ((1 : Int) < (a0.length : Int)) (iteB (((a0.getD (1 : Int).toNat 0).toNat : Int) == (61 : Int)) (F103_J4 n a0 x6 v8) (F103_J4 n a0 x6 v8)))
end
def F103 (n : Nat) (a0 : List UInt8) : Option ((List (Int)) × (Bool)) := grd ((0 : Int) < (a0.length : Int)) ((F118 n ((a0.getD (0 : Int).toNat 0).toNat : Int)).bind fun v2 => grd ((0 : Int) < (a0.length : Int)) (iteB (((a0.getD (0 : Int).toNat 0).toNat : Int) == (61 : Int)) (F103_J2 n a0 v2) (F103_J2 n a0 v2)))
set_option maxHeartbeats 4000000 in
theorem F103_ok : ∀ (n : Nat) (a0 : List UInt8) (r : (List (Int)) × (Bool)), F103 n a0 = some r → FnC Try.prog 103 [.imm (.string (bs a0))] (.tup [.sl 1 false (List.map byteT r.1), .imm (.bool r.2)])
 | n, a0, r, h => by
  unfold F103 at h
  refine FnC.goX mixed Try.func103 (by kernel_rfl) rfl ?_
  simp only [Try.ntmps103, List.length_cons, List.length_nil, List.replicate, List.cons_append, List.nil_append, Nat.reduceAdd, Nat.reduceSub]
  refine runX_seq ?_
  refine runX_regionC fun C hC => ?_
  try simp -implicitDefEqProofs (maxSteps := 4000000) (disch := first | omega | decide | (simp only [go_sem]; omega)) only [go_sem, ↓reduceIte]
  repeat (with_reducible refine And.intro (by first | assumption | omega | (simp; done) | (simp; omega)) ?_)
  refine toEnd hC ?_
  refine endX_seq ?_
  refine runX_seq ?_
  refine runX_regionC fun C hC => ?_
  try simp -implicitDefEqProofs (disch := omega) only [go_sem, ↓reduceIte]
  refine toEnd hC ?_
  refine endX_seq ?_
  refine runX_seq ?_
  refine runX_seq ?_
  refine runX_regionC fun C hC => ?_
  try simp -implicitDefEqProofs (disch := omega) only [go_sem, ↓reduceIte]
  refine toEnd hC ?_
  refine endX_seq ?_
  refine runX_block ?_
  refine runX_unroll 4 ?_
  refine runX_seq ?_
  refine runX_regionC fun C hC => ?_
  try simp -implicitDefEqProofs (disch := omega) only [go_sem, ↓reduceIte]
  refine toEnd hC ?_
  refine endX_seq ?_
  refine runX_seq ?_
  refine runX_condT rfl rfl ?_
  refine runX_skip ?_
  refine endX_seq ?_
  refine runX_meet [0, 4, 5, 11] (fun S => ∃ (x6 : Int), S = F103_S1 a0 x6 ∧ F103_J1 n a0 x6 = some r) ?_ ?_
  ·refine runX_block ?_
   refine runX_seq ?_
   refine runX_regionC fun C hC => ?_
   try simp -implicitDefEqProofs (disch := omega) only [go_sem, ↓reduceIte]
   refine toEnd hC ?_
   refine endX_seq ?_
   refine runX_seq ?_
   refine runX_regionC fun C hC => ?_
   obtain ⟨g1, h⟩ := grd_some h
   obtain ⟨v2, h2, h⟩ := bnd_some h
   try simp -implicitDefEqProofs (maxSteps := 4000000) (disch := first | omega | decide | (simp only [go_sem]; omega)) only [go_sem, ↓reduceIte]
   repeat (with_reducible refine And.intro (by first | assumption | omega | (simp; done) | (simp; omega)) ?_)
   refine callG_X (by first | rfl | (simp only [go_sem]; done) | (simp only [closedL, closedT, Bool.and_true]; exact closedL_map _ (fun _ => by first | rfl | (simp only [go_sem]; done)) _)) (F118_ok n ((a0.getD (0 : Int).toNat 0).toNat : Int) _ h2) (by repeat (first | exact leL_refl _ | refine leL_cons (by first | exact leT_refl _ | exact leT_virt | exact leT_junk _ | exact leT_sl | exact leT_sln | exact leT_nil | (refine leT_agg (by repeat (first | exact leL_refl _ | refine leL_cons (by first | exact leT_refl _ | exact leT_sl | exact leT_sln | exact leT_nil) ?_)))) ?_)) ?_
   try simp -implicitDefEqProofs (maxSteps := 4000000) (disch := first | omega | decide | (simp only [go_sem]; omega)) only [go_sem, ↓reduceIte]
   repeat (with_reducible refine And.intro (by first | assumption | omega | (simp; done) | (simp; omega)) ?_)
   refine toEnd hC ?_
   refine endX_seq ?_
   refine runX_meet [0, 4, 5, 6, 7, 11] (fun S => S = F103_S2 a0 v2 ∧ F103_J2 n a0 v2 = some r) ?_ ?_
   ·refine runX_seq ?_
    refine runX_regionC fun C hC => ?_
    obtain ⟨g3, h⟩ := grd_some h
    try simp -implicitDefEqProofs (maxSteps := 4000000) (disch := first | omega | decide | (simp only [go_sem]; omega)) only [go_sem, ↓reduceIte]
    repeat (with_reducible refine And.intro (by first | assumption | omega | (simp; done) | (simp; omega)) ?_)
    rcases iteB_some h with ⟨c4, h⟩ | ⟨c4, h⟩
    ·refine guardK_T c4 ?_
     try simp -implicitDefEqProofs (maxSteps := 4000000) (disch := first | omega | decide | (simp only [go_sem]; omega)) only [go_sem, ↓reduceIte]
     repeat (with_reducible refine And.intro (by first | assumption | omega | (simp; done) | (simp; omega)) ?_)
     refine toEnd hC ?_
     refine endX_seq ?_
     refine runX_condF rfl rfl ?_
     refine runX_skip ?_
     refine endX_q (meetQ_normal ⟨F103_S2 a0 v2, ?_, rfl, h⟩)
     simp only [F103_S2]
     (try simp -implicitDefEqProofs (maxSteps := 4000000) (disch := first | omega | decide | (simp only [go_sem]; omega)) only [go_sem, ↓reduceIte])
     exact leS_le (leL_refl _) (leOs_refl _)
    ·refine guardK_F c4 ?_
     try simp -implicitDefEqProofs (maxSteps := 4000000) (disch := first | omega | decide | (simp only [go_sem]; omega)) only [go_sem, ↓reduceIte]
     repeat (with_reducible refine And.intro (by first | assumption | omega | (simp; done) | (simp; omega)) ?_)
     refine toEnd hC ?_
     refine endX_seq ?_
     refine runX_condF rfl rfl ?_
     refine runX_skip ?_
     refine endX_q (meetQ_normal ⟨F103_S2 a0 v2, ?_, rfl, h⟩)
     simp only [F103_S2]
     (try simp -implicitDefEqProofs (disch := omega) only [go_sem, ↓reduceIte])
     exact leS_refl _
   ·clear h
    rintro S ⟨rfl, h⟩
    rw [F103_J2] at h
    simp only [F103_S2]
    refine runX_seq ?_
    refine runX_seq ?_
    refine runX_regionC fun C hC => ?_
    try simp -implicitDefEqProofs (disch := omega) only [go_sem, ↓reduceIte]
    rcases iteB_some h with ⟨c5, h⟩ | ⟨c5, h⟩
    ·refine guardK_F c5 ?_
     try simp -implicitDefEqProofs (disch := omega) only [go_sem, ↓reduceIte]
     refine toEnd hC ?_
     refine endX_seq ?_
     refine runX_condT rfl rfl ?_
     refine runX_seq ?_
     refine runX_regionC fun C hC => ?_
     try simp -implicitDefEqProofs (disch := omega) only [go_sem, ↓reduceIte]
     refine toEnd hC ?_
     refine endX_seq ?_
     refine runX_ret ?_
     refine endX_seqR ?_
     refine endX_blkR ?_
     refine endX_q (meetQ_ret ?_)
     refine endX_seqR ?_
     refine endX_lpR ?_
     refine endX_blkR ?_
     refine endX_seqR ?_
     refine endX_q ?_
     obtain rfl := Option.some.inj h
     show RetW _ _ _ _ _
     simp only [RetW]
     (try simp -implicitDefEqProofs (disch := omega) only [go_sem, ↓reduceIte])
     (try simp (disch := omega) only [if_pos, Nat.sub_zero])
     first | exact leT_refl _ | (refine ⟨rfl, ?_⟩; first | exact leT_refl _ | exact leT_sl | exact leT_sln | exact leT_nil | (refine leT_tup (by repeat (first | exact leL_refl _ | refine leL_cons (by first | exact leT_refl _ | exact leT_virt | exact leT_junk _ | exact leT_sl | exact leT_sln | exact leT_nil | (refine leT_agg (by repeat (first | exact leL_refl _ | refine leL_cons (by first | exact leT_refl _ | exact leT_sl | exact leT_sln | exact leT_nil) ?_)))) ?_))) | (refine leT_agg (by repeat (first | exact leL_refl _ | refine leL_cons (by first | exact leT_refl _ | exact leT_virt | exact leT_junk _ | exact leT_sl | exact leT_sln | exact leT_nil | (refine leT_agg (by repeat (first | exact leL_refl _ | refine leL_cons (by first | exact leT_refl _ | exact leT_sl | exact leT_sln | exact leT_nil) ?_)))) ?_)))) | (first | exact leT_refl _ | exact leT_sl | exact leT_sln | exact leT_nil | (refine leT_tup (by repeat (first | exact leL_refl _ | refine leL_cons (by first | exact leT_refl _ | exact leT_virt | exact leT_junk _ | exact leT_sl | exact leT_sln | exact leT_nil | (refine leT_agg (by repeat (first | exact leL_refl _ | refine leL_cons (by first | exact leT_refl _ | exact leT_sl | exact leT_sln | exact leT_nil) ?_)))) ?_))) | (refine leT_agg (by repeat (first | exact leL_refl _ | refine leL_cons (by first | exact leT_refl _ | exact leT_virt | exact leT_junk _ | exact leT_sl | exact leT_sln | exact leT_nil | (refine leT_agg (by repeat (first | exact leL_refl _ | refine leL_cons (by first | exact leT_refl _ | exact leT_sl | exact leT_sln | exact leT_nil) ?_)))) ?_)))) | (simp only [List.append_assoc, List.cons_append, List.nil_append]; exact leT_refl _) | (rw [List.take_of_length_le (by simp)]; (try simp only [List.append_assoc, List.cons_append, List.nil_append]); exact leT_refl _)
    ·refine guardK_T c5 ?_
     try simp -implicitDefEqProofs (disch := omega) only [go_sem, ↓reduceIte]
     refine toEnd hC ?_
     refine endX_seq ?_
     refine runX_condF rfl rfl ?_
     refine runX_skip ?_
     refine endX_seq ?_
     refine runX_regionC fun C hC => ?_
     try simp -implicitDefEqProofs (disch := omega) only [go_sem, ↓reduceIte]
     refine toEnd hC ?_
     refine endX_blk ?_
     refine endX_q (meetQ_normal ⟨F103_S1 a0 (IntKind.wrap .i64 (bOr .i64 (IntKind.wrap .i64 (bShl .i64 (0 : Int) 6)) v2)), ?_, (IntKind.wrap .i64 (bOr .i64 (IntKind.wrap .i64 (bShl .i64 (0 : Int) 6)) v2)), rfl, h⟩)
     simp only [F103_S1]
     (try simp -implicitDefEqProofs (maxSteps := 4000000) (disch := first | omega | decide | (simp only [go_sem]; omega)) only [go_sem, ↓reduceIte])
     first | exact leS_refl _ | (refine leS_le ?_ ?_ <;> first | exact leL_refl _ | exact leOs_refl _ | (simp only [List.append_assoc, List.cons_append, List.nil_append]; exact leOs_refl _) | (repeat (first | exact leL_refl _ | refine leL_cons (by first | exact leT_refl _ | exact leT_virt | exact leT_junk _ | exact leT_sl | exact leT_sln | exact leT_nil | (refine leT_agg (by repeat (first | exact leL_refl _ | refine leL_cons (by first | exact leT_refl _ | exact leT_sl | exact leT_sln | exact leT_nil) ?_)))) ?_)))
  ·clear h
   rintro S ⟨x6, rfl, h⟩
   rw [F103_J1] at h
   simp only [F103_S1]
   refine runX_regionC fun C hC => ?_
   try simp -implicitDefEqProofs (maxSteps := 4000000) (disch := first | omega | decide | (simp only [go_sem]; omega)) only [go_sem, ↓reduceIte]
   repeat (with_reducible refine And.intro (by first | assumption | omega | (simp; done) | (simp; omega)) ?_)
   refine toEnd hC ?_
   refine endX_lp ?_
   refine runX_seq ?_
   refine runX_regionC fun C hC => ?_
   try simp -implicitDefEqProofs (disch := omega) only [go_sem, ↓reduceIte]
   refine toEnd hC ?_
   refine endX_seq ?_
   refine runX_seq ?_
   refine runX_condT rfl rfl ?_
   refine runX_skip ?_
   refine endX_seq ?_
   refine runX_meet [0, 4, 5, 11] (fun S => ∃ (x12 : Int), S = F103_S3 a0 x12 ∧ F103_J3 n a0 x12 = some r) ?_ ?_
   ·refine runX_block ?_
    refine runX_seq ?_
    refine runX_regionC fun C hC => ?_
    try simp -implicitDefEqProofs (disch := omega) only [go_sem, ↓reduceIte]
    refine toEnd hC ?_
    refine endX_seq ?_
    refine runX_seq ?_
    refine runX_regionC fun C hC => ?_
    obtain ⟨g7, h⟩ := grd_some h
    obtain ⟨v8, h8, h⟩ := bnd_some h
    try simp -implicitDefEqProofs (maxSteps := 4000000) (disch := first | omega | decide | (simp only [go_sem]; omega)) only [go_sem, ↓reduceIte]
    repeat (with_reducible refine And.intro (by first | assumption | omega | (simp; done) | (simp; omega)) ?_)
    refine callG_X (by first | rfl | (simp only [go_sem]; done) | (simp only [closedL, closedT, Bool.and_true]; exact closedL_map _ (fun _ => by first | rfl | (simp only [go_sem]; done)) _)) (F118_ok n ((a0.getD (1 : Int).toNat 0).toNat : Int) _ h8) (by repeat (first | exact leL_refl _ | refine leL_cons (by first | exact leT_refl _ | exact leT_virt | exact leT_junk _ | exact leT_sl | exact leT_sln | exact leT_nil | (refine leT_agg (by repeat (first | exact leL_refl _ | refine leL_cons (by first | exact leT_refl _ | exact leT_sl | exact leT_sln | exact leT_nil) ?_)))) ?_)) ?_
    try simp -implicitDefEqProofs (maxSteps := 4000000) (disch := first | omega | decide | (simp only [go_sem]; omega)) only [go_sem, ↓reduceIte]
    repeat (with_reducible refine And.intro (by first | assumption | omega | (simp; done) | (simp; omega)) ?_)
    refine toEnd hC ?_
    refine endX_seq ?_
    refine runX_meet [0, 4, 5, 6, 7, 11] (fun S => S = F103_S4 a0 x6 v8 ∧ F103_J4 n a0 x6 v8 = some r) ?_ ?_
    ·refine runX_seq ?_
     refine runX_regionC fun C hC => ?_
     obtain ⟨g9, h⟩ := grd_some h
     try simp -implicitDefEqProofs (maxSteps := 4000000) (disch := first | omega | decide | (simp only [go_sem]; omega)) only [go_sem, ↓reduceIte]
     repeat (with_reducible refine And.intro (by first | assumption | omega | (simp; done) | (simp; omega)) ?_)
     rcases iteB_some h with ⟨c10, h⟩ | ⟨c10, h⟩
     ·refine guardK_T c10 ?_
      try simp -implicitDefEqProofs (maxSteps := 4000000) (disch := first | omega | decide | (simp only [go_sem]; omega)) only [go_sem, ↓reduceIte]
      repeat (with_reducible refine And.intro (by first | assumption | omega | (simp; done) | (simp; omega)) ?_)
      refine toEnd hC ?_
      refine endX_seq ?_
      refine runX_condF rfl rfl ?_
      refine runX_skip ?_
      refine endX_q (meetQ_normal ⟨F103_S4 a0 x6 v8, ?_, rfl, h⟩)
      simp only [F103_S4]
      (try simp -implicitDefEqProofs (maxSteps := 4000000) (disch := first | omega | decide | (simp only [go_sem]; omega)) only [go_sem, ↓reduceIte])
      exact leS_le (leL_refl _) (leOs_refl _)
     ·refine guardK_F c10 ?_
      try simp -implicitDefEqProofs (maxSteps := 4000000) (disch := first | omega | decide | (simp only [go_sem]; omega)) only [go_sem, ↓reduceIte]
      repeat (with_reducible refine And.intro (by first | assumption | omega | (simp; done) | (simp; omega)) ?_)
      refine toEnd hC ?_
      refine endX_seq ?_
      refine runX_condF rfl rfl ?_
      refine runX_skip ?_
      refine endX_q (meetQ_normal ⟨F103_S4 a0 x6 v8, ?_, rfl, h⟩)
      simp only [F103_S4]
      (try simp -implicitDefEqProofs (disch := omega) only [go_sem, ↓reduceIte])
      exact leS_refl _
    ·clear h
     rintro S ⟨rfl, h⟩
     rw [F103_J4] at h
     simp only [F103_S4]
     refine runX_seq ?_
     refine runX_seq ?_
     refine runX_regionC fun C hC => ?_
     try simp -implicitDefEqProofs (disch := omega) only [go_sem, ↓reduceIte]
     rcases iteB_some h with ⟨c11, h⟩ | ⟨c11, h⟩
     ·refine guardK_F c11 ?_
      try simp -implicitDefEqProofs (disch := omega) only [go_sem, ↓reduceIte]
      refine toEnd hC ?_
      refine endX_seq ?_
      refine runX_condT rfl rfl ?_
      refine runX_seq ?_
      refine runX_regionC fun C hC => ?_
      try simp -implicitDefEqProofs (disch := omega) only [go_sem, ↓reduceIte]
      refine toEnd hC ?_
      refine endX_seq ?_
      refine runX_ret ?_
      refine endX_seqR ?_
      refine endX_blkR ?_
      refine endX_q (meetQ_ret ?_)
      refine endX_seqR ?_
      refine endX_lpR ?_
      refine endX_blkR ?_
      refine endX_seqR ?_
      refine endX_q ?_
      obtain rfl := Option.some.inj h
      show RetW _ _ _ _ _
      simp only [RetW]
      (try simp -implicitDefEqProofs (disch := omega) only [go_sem, ↓reduceIte])
      (try simp (disch := omega) only [if_pos, Nat.sub_zero])
      first | exact leT_refl _ | (refine ⟨rfl, ?_⟩; first | exact leT_refl _ | exact leT_sl | exact leT_sln | exact leT_nil | (refine leT_tup (by repeat (first | exact leL_refl _ | refine leL_cons (by first | exact leT_refl _ | exact leT_virt | exact leT_junk _ | exact leT_sl | exact leT_sln | exact leT_nil | (refine leT_agg (by repeat (first | exact leL_refl _ | refine leL_cons (by first | exact leT_refl _ | exact leT_sl | exact leT_sln | exact leT_nil) ?_)))) ?_))) | (refine leT_agg (by repeat (first | exact leL_refl _ | refine leL_cons (by first | exact leT_refl _ | exact leT_virt | exact leT_junk _ | exact leT_sl | exact leT_sln | exact leT_nil | (refine leT_agg (by repeat (first | exact leL_refl _ | refine leL_cons (by first | exact leT_refl _ | exact leT_sl | exact leT_sln | exact leT_nil) ?_)))) ?_)))) | (first | exact leT_refl _ | exact leT_sl | exact leT_sln | exact leT_nil | (refine leT_tup (by repeat (first | exact leL_refl _ | refine leL_cons (by first | exact leT_refl _ | exact leT_virt | exact leT_junk _ | exact leT_sl | exact leT_sln | exact leT_nil | (refine leT_agg (by repeat (first | exact leL_refl _ | refine leL_cons (by first | exact leT_refl _ | exact leT_sl | exact leT_sln | exact leT_nil) ?_)))) ?_))) | (refine leT_agg (by repeat (first | exact leL_refl _ | refine leL_cons (by first | exact leT_refl _ | exact leT_virt | exact leT_junk _ | exact leT_sl | exact leT_sln | exact leT_nil | (refine leT_agg (by repeat (first | exact leL_refl _ | refine leL_cons (by first | exact leT_refl _ | exact leT_sl | exact leT_sln | exact leT_nil) ?_)))) ?_)))) | (simp only [List.append_assoc, List.cons_append, List.nil_append]; exact leT_refl _) | (rw [List.take_of_length_le (by simp)]; (try simp only [List.append_assoc, List.cons_append, List.nil_append]); exact leT_refl _)
     ·refine guardK_T c11 ?_
      try simp -implicitDefEqProofs (disch := omega) only [go_sem, ↓reduceIte]
      refine toEnd hC ?_
      refine endX_seq ?_
      refine runX_condF rfl rfl ?_
      refine runX_skip ?_
      refine endX_seq ?_
      refine runX_regionC fun C hC => ?_
      try simp -implicitDefEqProofs (disch := omega) only [go_sem, ↓reduceIte]
      refine toEnd hC ?_
      refine endX_blk ?_
      refine endX_q (meetQ_normal ⟨F103_S3 a0 (IntKind.wrap .i64 (bOr .i64 (IntKind.wrap .i64 (bShl .i64 x6 6)) v8)), ?_, (IntKind.wrap .i64 (bOr .i64 (IntKind.wrap .i64 (bShl .i64 x6 6)) v8)), rfl, h⟩)
      simp only [F103_S3]
      (try simp -implicitDefEqProofs (maxSteps := 4000000) (disch := first | omega | decide | (simp only [go_sem]; omega)) only [go_sem, ↓reduceIte])
      first | exact leS_refl _ | (refine leS_le ?_ ?_ <;> first | exact leL_refl _ | exact leOs_refl _ | (simp only [List.append_assoc, List.cons_append, List.nil_append]; exact leOs_refl _) | (repeat (first | exact leL_refl _ | refine leL_cons (by first | exact leT_refl _ | exact leT_virt | exact leT_junk _ | exact leT_sl | exact leT_sln | exact leT_nil | (refine leT_agg (by repeat (first | exact leL_refl _ | refine leL_cons (by first | exact leT_refl _ | exact leT_sl | exact leT_sln | exact leT_nil) ?_)))) ?_)))
   ·clear h
    rintro S ⟨x12, rfl, h⟩
    rw [F103_J3] at h
    simp only [F103_S3]
    refine runX_regionC fun C hC => ?_
    try simp -implicitDefEqProofs (maxSteps := 4000000) (disch := first | omega | decide | (simp only [go_sem]; omega)) only [go_sem, ↓reduceIte]
    repeat (with_reducible refine And.intro (by first | assumption | omega | (simp; done) | (simp; omega)) ?_)
    refine toEnd hC ?_
    refine endX_lp ?_
    refine runX_seq ?_
    refine runX_regionC fun C hC => ?_
    try simp -implicitDefEqProofs (disch := omega) only [go_sem, ↓reduceIte]
    refine toEnd hC ?_
    refine endX_seq ?_
    refine runX_seq ?_
    refine runX_condT rfl rfl ?_
    refine runX_skip ?_
    refine endX_seq ?_
    refine runX_meet [0, 4, 5, 11] (fun S => ∃ (x25 : Int) (x26 : Int), S = F103_S5 a0 x25 x26 ∧ F103_J5 n a0 x25 x26 = some r) ?_ ?_
    ·refine runX_block ?_
     refine runX_seq ?_
     refine runX_regionC fun C hC => ?_
     try simp -implicitDefEqProofs (disch := omega) only [go_sem, ↓reduceIte]
     refine toEnd hC ?_
     refine endX_seq ?_
     refine runX_seq ?_
     refine runX_regionC fun C hC => ?_
     obtain ⟨g13, h⟩ := grd_some h
     obtain ⟨v14, h14, h⟩ := bnd_some h
     try simp -implicitDefEqProofs (maxSteps := 4000000) (disch := first | omega | decide | (simp only [go_sem]; omega)) only [go_sem, ↓reduceIte]
     repeat (with_reducible refine And.intro (by first | assumption | omega | (simp; done) | (simp; omega)) ?_)
     refine callG_X (by first | rfl | (simp only [go_sem]; done) | (simp only [closedL, closedT, Bool.and_true]; exact closedL_map _ (fun _ => by first | rfl | (simp only [go_sem]; done)) _)) (F118_ok n ((a0.getD (2 : Int).toNat 0).toNat : Int) _ h14) (by repeat (first | exact leL_refl _ | refine leL_cons (by first | exact leT_refl _ | exact leT_virt | exact leT_junk _ | exact leT_sl | exact leT_sln | exact leT_nil | (refine leT_agg (by repeat (first | exact leL_refl _ | refine leL_cons (by first | exact leT_refl _ | exact leT_sl | exact leT_sln | exact leT_nil) ?_)))) ?_)) ?_
     try simp -implicitDefEqProofs (maxSteps := 4000000) (disch := first | omega | decide | (simp only [go_sem]; omega)) only [go_sem, ↓reduceIte]
     repeat (with_reducible refine And.intro (by first | assumption | omega | (simp; done) | (simp; omega)) ?_)
     refine toEnd hC ?_
     refine endX_seq ?_
     refine runX_meet [0, 4, 5, 6, 7, 11] (fun S => ∃ (x19 : Int) (x20 : Int), S = F103_S6 a0 x12 x19 x20 ∧ F103_J6 n a0 x12 x19 x20 = some r) ?_ ?_
     ·refine runX_seq ?_
      refine runX_regionC fun C hC => ?_
      obtain ⟨g15, h⟩ := grd_some h
      try simp -implicitDefEqProofs (maxSteps := 4000000) (disch := first | omega | decide | (simp only [go_sem]; omega)) only [go_sem, ↓reduceIte]
      repeat (with_reducible refine And.intro (by first | assumption | omega | (simp; done) | (simp; omega)) ?_)
      rcases iteB_some h with ⟨c16, h⟩ | ⟨c16, h⟩
      ·refine guardK_T c16 ?_
       obtain ⟨g17, h⟩ := grd_some h
       try simp -implicitDefEqProofs (maxSteps := 4000000) (disch := first | omega | decide | (simp only [go_sem]; omega)) only [go_sem, ↓reduceIte]
       repeat (with_reducible refine And.intro (by first | assumption | omega | (simp; done) | (simp; omega)) ?_)
       refine toEnd hC ?_
       refine endX_seq ?_
       rcases iteB_some h with ⟨c18, h⟩ | ⟨c18, h⟩
       ·refine runX_condT rfl c18 ?_
        refine runX_regionC fun C hC => ?_
        try simp -implicitDefEqProofs (disch := omega) only [go_sem, ↓reduceIte]
        refine toEnd hC ?_
        refine endX_q (meetQ_normal ⟨F103_S6 a0 x12 (if (1 : Int) < (3 : Int) then (1 : Int) else (3 : Int)) (0 : Int), ?_, (if (1 : Int) < (3 : Int) then (1 : Int) else (3 : Int)), (0 : Int), rfl, h⟩)
        simp only [F103_S6]
        (try simp -implicitDefEqProofs (maxSteps := 4000000) (disch := first | omega | decide | (simp only [go_sem]; omega)) only [go_sem, ↓reduceIte])
        first | exact leS_refl _ | (refine leS_le ?_ ?_ <;> first | exact leL_refl _ | exact leOs_refl _ | (simp only [List.append_assoc, List.cons_append, List.nil_append]; exact leOs_refl _) | (repeat (first | exact leL_refl _ | refine leL_cons (by first | exact leT_refl _ | exact leT_virt | exact leT_junk _ | exact leT_sl | exact leT_sln | exact leT_nil | (refine leT_agg (by repeat (first | exact leL_refl _ | refine leL_cons (by first | exact leT_refl _ | exact leT_sl | exact leT_sln | exact leT_nil) ?_)))) ?_)))
       ·refine runX_condF rfl c18 ?_
        refine runX_skip ?_
        refine endX_q (meetQ_normal ⟨F103_S6 a0 x12 (3 : Int) v14, ?_, (3 : Int), v14, rfl, h⟩)
        simp only [F103_S6]
        (try simp -implicitDefEqProofs (maxSteps := 4000000) (disch := first | omega | decide | (simp only [go_sem]; omega)) only [go_sem, ↓reduceIte])
        first | exact leS_refl _ | (refine leS_le ?_ ?_ <;> first | exact leL_refl _ | exact leOs_refl _ | (simp only [List.append_assoc, List.cons_append, List.nil_append]; exact leOs_refl _) | (repeat (first | exact leL_refl _ | refine leL_cons (by first | exact leT_refl _ | exact leT_virt | exact leT_junk _ | exact leT_sl | exact leT_sln | exact leT_nil | (refine leT_agg (by repeat (first | exact leL_refl _ | refine leL_cons (by first | exact leT_refl _ | exact leT_sl | exact leT_sln | exact leT_nil) ?_)))) ?_)))
      ·refine guardK_F c16 ?_
       try simp -implicitDefEqProofs (maxSteps := 4000000) (disch := first | omega | decide | (simp only [go_sem]; omega)) only [go_sem, ↓reduceIte]
       repeat (with_reducible refine And.intro (by first | assumption | omega | (simp; done) | (simp; omega)) ?_)
       refine toEnd hC ?_
       refine endX_seq ?_
       refine runX_condF rfl rfl ?_
       refine runX_skip ?_
       refine endX_q (meetQ_normal ⟨F103_S6 a0 x12 (3 : Int) v14, ?_, (3 : Int), v14, rfl, h⟩)
       simp only [F103_S6]
       (try simp -implicitDefEqProofs (disch := omega) only [go_sem, ↓reduceIte])
       exact leS_refl _
     ·clear h
      rintro S ⟨x19, x20, rfl, h⟩
      rw [F103_J6] at h
      simp only [F103_S6]
      refine runX_seq ?_
      refine runX_seq ?_
      refine runX_regionC fun C hC => ?_
      try simp -implicitDefEqProofs (disch := omega) only [go_sem, ↓reduceIte]
      rcases iteB_some h with ⟨c21, h⟩ | ⟨c21, h⟩
      ·refine guardK_F c21 ?_
       try simp -implicitDefEqProofs (disch := omega) only [go_sem, ↓reduceIte]
       refine toEnd hC ?_
       refine endX_seq ?_
       refine runX_condT rfl rfl ?_
       refine runX_seq ?_
       refine runX_regionC fun C hC => ?_
       try simp -implicitDefEqProofs (disch := omega) only [go_sem, ↓reduceIte]
       refine toEnd hC ?_
       refine endX_seq ?_
       refine runX_ret ?_
       refine endX_seqR ?_
       refine endX_blkR ?_
       refine endX_q (meetQ_ret ?_)
       refine endX_seqR ?_
       refine endX_lpR ?_
       refine endX_blkR ?_
       refine endX_seqR ?_
       refine endX_q ?_
       obtain rfl := Option.some.inj h
       show RetW _ _ _ _ _
       simp only [RetW]
       (try simp -implicitDefEqProofs (maxSteps := 4000000) (disch := first | omega | decide | (simp only [go_sem]; omega)) only [go_sem, ↓reduceIte])
       (try simp (disch := omega) only [if_pos, Nat.sub_zero])
       first | exact leT_refl _ | (refine ⟨rfl, ?_⟩; first | exact leT_refl _ | exact leT_sl | exact leT_sln | exact leT_nil | (refine leT_tup (by repeat (first | exact leL_refl _ | refine leL_cons (by first | exact leT_refl _ | exact leT_virt | exact leT_junk _ | exact leT_sl | exact leT_sln | exact leT_nil | (refine leT_agg (by repeat (first | exact leL_refl _ | refine leL_cons (by first | exact leT_refl _ | exact leT_sl | exact leT_sln | exact leT_nil) ?_)))) ?_))) | (refine leT_agg (by repeat (first | exact leL_refl _ | refine leL_cons (by first | exact leT_refl _ | exact leT_virt | exact leT_junk _ | exact leT_sl | exact leT_sln | exact leT_nil | (refine leT_agg (by repeat (first | exact leL_refl _ | refine leL_cons (by first | exact leT_refl _ | exact leT_sl | exact leT_sln | exact leT_nil) ?_)))) ?_)))) | (first | exact leT_refl _ | exact leT_sl | exact leT_sln | exact leT_nil | (refine leT_tup (by repeat (first | exact leL_refl _ | refine leL_cons (by first | exact leT_refl _ | exact leT_virt | exact leT_junk _ | exact leT_sl | exact leT_sln | exact leT_nil | (refine leT_agg (by repeat (first | exact leL_refl _ | refine leL_cons (by first | exact leT_refl _ | exact leT_sl | exact leT_sln | exact leT_nil) ?_)))) ?_))) | (refine leT_agg (by repeat (first | exact leL_refl _ | refine leL_cons (by first | exact leT_refl _ | exact leT_virt | exact leT_junk _ | exact leT_sl | exact leT_sln | exact leT_nil | (refine leT_agg (by repeat (first | exact leL_refl _ | refine leL_cons (by first | exact leT_refl _ | exact leT_sl | exact leT_sln | exact leT_nil) ?_)))) ?_)))) | (simp only [List.append_assoc, List.cons_append, List.nil_append]; exact leT_refl _) | (rw [List.take_of_length_le (by simp)]; (try simp only [List.append_assoc, List.cons_append, List.nil_append]); exact leT_refl _)
      ·refine guardK_T c21 ?_
       try simp -implicitDefEqProofs (maxSteps := 4000000) (disch := first | omega | decide | (simp only [go_sem]; omega)) only [go_sem, ↓reduceIte]
       repeat (with_reducible refine And.intro (by first | assumption | omega | (simp; done) | (simp; omega)) ?_)
       rcases iteB_some h with ⟨c22, h⟩ | ⟨c22, h⟩
       ·refine guardK_T c22 ?_
        obtain ⟨g23, h⟩ := grd_some h
        try simp -implicitDefEqProofs (maxSteps := 4000000) (disch := first | omega | decide | (simp only [go_sem]; omega)) only [go_sem, ↓reduceIte]
        repeat (with_reducible refine And.intro (by first | assumption | omega | (simp; done) | (simp; omega)) ?_)
        refine toEnd hC ?_
        refine endX_seq ?_
        rcases iteB_some h with ⟨c24, h⟩ | ⟨c24, h⟩
        ·refine runX_condT rfl c24 ?_
         refine runX_seq ?_
         refine runX_regionC fun C hC => ?_
         try simp -implicitDefEqProofs (disch := omega) only [go_sem, ↓reduceIte]
         refine toEnd hC ?_
         refine endX_seq ?_
         refine runX_ret ?_
         refine endX_seqR ?_
         refine endX_blkR ?_
         refine endX_q (meetQ_ret ?_)
         refine endX_seqR ?_
         refine endX_lpR ?_
         refine endX_blkR ?_
         refine endX_seqR ?_
         refine endX_q ?_
         obtain rfl := Option.some.inj h
         show RetW _ _ _ _ _
         simp only [RetW]
         (try simp -implicitDefEqProofs (disch := omega) only [go_sem, ↓reduceIte])
         (try simp (disch := omega) only [if_pos, Nat.sub_zero])
         first | exact leT_refl _ | (refine ⟨rfl, ?_⟩; first | exact leT_refl _ | exact leT_sl | exact leT_sln | exact leT_nil | (refine leT_tup (by repeat (first | exact leL_refl _ | refine leL_cons (by first | exact leT_refl _ | exact leT_virt | exact leT_junk _ | exact leT_sl | exact leT_sln | exact leT_nil | (refine leT_agg (by repeat (first | exact leL_refl _ | refine leL_cons (by first | exact leT_refl _ | exact leT_sl | exact leT_sln | exact leT_nil) ?_)))) ?_))) | (refine leT_agg (by repeat (first | exact leL_refl _ | refine leL_cons (by first | exact leT_refl _ | exact leT_virt | exact leT_junk _ | exact leT_sl | exact leT_sln | exact leT_nil | (refine leT_agg (by repeat (first | exact leL_refl _ | refine leL_cons (by first | exact leT_refl _ | exact leT_sl | exact leT_sln | exact leT_nil) ?_)))) ?_)))) | (first | exact leT_refl _ | exact leT_sl | exact leT_sln | exact leT_nil | (refine leT_tup (by repeat (first | exact leL_refl _ | refine leL_cons (by first | exact leT_refl _ | exact leT_virt | exact leT_junk _ | exact leT_sl | exact leT_sln | exact leT_nil | (refine leT_agg (by repeat (first | exact leL_refl _ | refine leL_cons (by first | exact leT_refl _ | exact leT_sl | exact leT_sln | exact leT_nil) ?_)))) ?_))) | (refine leT_agg (by repeat (first | exact leL_refl _ | refine leL_cons (by first | exact leT_refl _ | exact leT_virt | exact leT_junk _ | exact leT_sl | exact leT_sln | exact leT_nil | (refine leT_agg (by repeat (first | exact leL_refl _ | refine leL_cons (by first | exact leT_refl _ | exact leT_sl | exact leT_sln | exact leT_nil) ?_)))) ?_)))) | (simp only [List.append_assoc, List.cons_append, List.nil_append]; exact leT_refl _) | (rw [List.take_of_length_le (by simp)]; (try simp only [List.append_assoc, List.cons_append, List.nil_append]); exact leT_refl _)
        ·refine runX_condF rfl c24 ?_
         refine runX_skip ?_
         refine endX_seq ?_
         refine runX_regionC fun C hC => ?_
         try simp -implicitDefEqProofs (disch := omega) only [go_sem, ↓reduceIte]
         refine toEnd hC ?_
         refine endX_blk ?_
         refine endX_q (meetQ_normal ⟨F103_S5 a0 (IntKind.wrap .i64 (bOr .i64 (IntKind.wrap .i64 (bShl .i64 x12 6)) x20)) x19, ?_, (IntKind.wrap .i64 (bOr .i64 (IntKind.wrap .i64 (bShl .i64 x12 6)) x20)), x19, rfl, h⟩)
         simp only [F103_S5]
         (try simp -implicitDefEqProofs (disch := omega) only [go_sem, ↓reduceIte])
         exact leS_refl _
       ·refine guardK_F c22 ?_
        try simp -implicitDefEqProofs (disch := omega) only [go_sem, ↓reduceIte]
        refine toEnd hC ?_
        refine endX_seq ?_
        refine runX_condF rfl rfl ?_
        refine runX_skip ?_
        refine endX_seq ?_
        refine runX_regionC fun C hC => ?_
        try simp -implicitDefEqProofs (disch := omega) only [go_sem, ↓reduceIte]
        refine toEnd hC ?_
        refine endX_blk ?_
        refine endX_q (meetQ_normal ⟨F103_S5 a0 (IntKind.wrap .i64 (bOr .i64 (IntKind.wrap .i64 (bShl .i64 x12 6)) x20)) x19, ?_, (IntKind.wrap .i64 (bOr .i64 (IntKind.wrap .i64 (bShl .i64 x12 6)) x20)), x19, rfl, h⟩)
        simp only [F103_S5]
        (try simp -implicitDefEqProofs (maxSteps := 4000000) (disch := first | omega | decide | (simp only [go_sem]; omega)) only [go_sem, ↓reduceIte])
        first | exact leS_refl _ | (refine leS_le ?_ ?_ <;> first | exact leL_refl _ | exact leOs_refl _ | (simp only [List.append_assoc, List.cons_append, List.nil_append]; exact leOs_refl _) | (repeat (first | exact leL_refl _ | refine leL_cons (by first | exact leT_refl _ | exact leT_virt | exact leT_junk _ | exact leT_sl | exact leT_sln | exact leT_nil | (refine leT_agg (by repeat (first | exact leL_refl _ | refine leL_cons (by first | exact leT_refl _ | exact leT_sl | exact leT_sln | exact leT_nil) ?_)))) ?_)))
    ·clear h
     rintro S ⟨x25, x26, rfl, h⟩
     rw [F103_J5] at h
     simp only [F103_S5]
     refine runX_regionC fun C hC => ?_
     try simp -implicitDefEqProofs (maxSteps := 4000000) (disch := first | omega | decide | (simp only [go_sem]; omega)) only [go_sem, ↓reduceIte]
     repeat (with_reducible refine And.intro (by first | assumption | omega | (simp; done) | (simp; omega)) ?_)
     refine toEnd hC ?_
     refine endX_lp ?_
     refine runX_seq ?_
     refine runX_regionC fun C hC => ?_
     try simp -implicitDefEqProofs (disch := omega) only [go_sem, ↓reduceIte]
     refine toEnd hC ?_
     refine endX_seq ?_
     refine runX_seq ?_
     refine runX_condT rfl rfl ?_
     refine runX_skip ?_
     refine endX_seq ?_
     refine runX_meet [0, 4, 5, 11] (fun S => ∃ (x39 : Int) (x40 : Int), S = F103_S7 a0 x39 x40 ∧ F103_J7 n a0 x39 x40 = some r) ?_ ?_
     ·refine runX_block ?_
      refine runX_seq ?_
      refine runX_regionC fun C hC => ?_
      try simp -implicitDefEqProofs (disch := omega) only [go_sem, ↓reduceIte]
      refine toEnd hC ?_
      refine endX_seq ?_
      refine runX_seq ?_
      refine runX_regionC fun C hC => ?_
      obtain ⟨g27, h⟩ := grd_some h
      obtain ⟨v28, h28, h⟩ := bnd_some h
      try simp -implicitDefEqProofs (maxSteps := 4000000) (disch := first | omega | decide | (simp only [go_sem]; omega)) only [go_sem, ↓reduceIte]
      repeat (with_reducible refine And.intro (by first | assumption | omega | (simp; done) | (simp; omega)) ?_)
      refine callG_X (by first | rfl | (simp only [go_sem]; done) | (simp only [closedL, closedT, Bool.and_true]; exact closedL_map _ (fun _ => by first | rfl | (simp only [go_sem]; done)) _)) (F118_ok n ((a0.getD (3 : Int).toNat 0).toNat : Int) _ h28) (by repeat (first | exact leL_refl _ | refine leL_cons (by first | exact leT_refl _ | exact leT_virt | exact leT_junk _ | exact leT_sl | exact leT_sln | exact leT_nil | (refine leT_agg (by repeat (first | exact leL_refl _ | refine leL_cons (by first | exact leT_refl _ | exact leT_sl | exact leT_sln | exact leT_nil) ?_)))) ?_)) ?_
      try simp -implicitDefEqProofs (maxSteps := 4000000) (disch := first | omega | decide | (simp only [go_sem]; omega)) only [go_sem, ↓reduceIte]
      repeat (with_reducible refine And.intro (by first | assumption | omega | (simp; done) | (simp; omega)) ?_)
      refine toEnd hC ?_
      refine endX_seq ?_
      refine runX_meet [0, 4, 5, 6, 7, 11] (fun S => ∃ (x33 : Int) (x34 : Int), S = F103_S8 a0 x25 x33 x34 ∧ F103_J8 n a0 x25 x33 x34 = some r) ?_ ?_
      ·refine runX_seq ?_
       refine runX_regionC fun C hC => ?_
       obtain ⟨g29, h⟩ := grd_some h
       try simp -implicitDefEqProofs (maxSteps := 4000000) (disch := first | omega | decide | (simp only [go_sem]; omega)) only [go_sem, ↓reduceIte]
       repeat (with_reducible refine And.intro (by first | assumption | omega | (simp; done) | (simp; omega)) ?_)
       rcases iteB_some h with ⟨c30, h⟩ | ⟨c30, h⟩
       ·refine guardK_T c30 ?_
        obtain ⟨g31, h⟩ := grd_some h
        try simp -implicitDefEqProofs (maxSteps := 4000000) (disch := first | omega | decide | (simp only [go_sem]; omega)) only [go_sem, ↓reduceIte]
        repeat (with_reducible refine And.intro (by first | assumption | omega | (simp; done) | (simp; omega)) ?_)
        refine toEnd hC ?_
        refine endX_seq ?_
        rcases iteB_some h with ⟨c32, h⟩ | ⟨c32, h⟩
        ·refine runX_condT rfl c32 ?_
         refine runX_regionC fun C hC => ?_
         try simp -implicitDefEqProofs (disch := omega) only [go_sem, ↓reduceIte]
         refine toEnd hC ?_
         refine endX_q (meetQ_normal ⟨F103_S8 a0 x25 (if (2 : Int) < x26 then (2 : Int) else x26) (0 : Int), ?_, (if (2 : Int) < x26 then (2 : Int) else x26), (0 : Int), rfl, h⟩)
         simp only [F103_S8]
         (try simp -implicitDefEqProofs (maxSteps := 4000000) (disch := first | omega | decide | (simp only [go_sem]; omega)) only [go_sem, ↓reduceIte])
         first | exact leS_refl _ | (refine leS_le ?_ ?_ <;> first | exact leL_refl _ | exact leOs_refl _ | (simp only [List.append_assoc, List.cons_append, List.nil_append]; exact leOs_refl _) | (repeat (first | exact leL_refl _ | refine leL_cons (by first | exact leT_refl _ | exact leT_virt | exact leT_junk _ | exact leT_sl | exact leT_sln | exact leT_nil | (refine leT_agg (by repeat (first | exact leL_refl _ | refine leL_cons (by first | exact leT_refl _ | exact leT_sl | exact leT_sln | exact leT_nil) ?_)))) ?_)))
        ·refine runX_condF rfl c32 ?_
         refine runX_skip ?_
         refine endX_q (meetQ_normal ⟨F103_S8 a0 x25 x26 v28, ?_, x26, v28, rfl, h⟩)
         simp only [F103_S8]
         (try simp -implicitDefEqProofs (maxSteps := 4000000) (disch := first | omega | decide | (simp only [go_sem]; omega)) only [go_sem, ↓reduceIte])
         first | exact leS_refl _ | (refine leS_le ?_ ?_ <;> first | exact leL_refl _ | exact leOs_refl _ | (simp only [List.append_assoc, List.cons_append, List.nil_append]; exact leOs_refl _) | (repeat (first | exact leL_refl _ | refine leL_cons (by first | exact leT_refl _ | exact leT_virt | exact leT_junk _ | exact leT_sl | exact leT_sln | exact leT_nil | (refine leT_agg (by repeat (first | exact leL_refl _ | refine leL_cons (by first | exact leT_refl _ | exact leT_sl | exact leT_sln | exact leT_nil) ?_)))) ?_)))
       ·refine guardK_F c30 ?_
        try simp -implicitDefEqProofs (maxSteps := 4000000) (disch := first | omega | decide | (simp only [go_sem]; omega)) only [go_sem, ↓reduceIte]
        repeat (with_reducible refine And.intro (by first | assumption | omega | (simp; done) | (simp; omega)) ?_)
        refine toEnd hC ?_
        refine endX_seq ?_
        refine runX_condF rfl rfl ?_
        refine runX_skip ?_
        refine endX_q (meetQ_normal ⟨F103_S8 a0 x25 x26 v28, ?_, x26, v28, rfl, h⟩)
        simp only [F103_S8]
        (try simp -implicitDefEqProofs (disch := omega) only [go_sem, ↓reduceIte])
        exact leS_refl _
      ·clear h
       rintro S ⟨x33, x34, rfl, h⟩
       rw [F103_J8] at h
       simp only [F103_S8]
       refine runX_seq ?_
       refine runX_seq ?_
       refine runX_regionC fun C hC => ?_
       try simp -implicitDefEqProofs (disch := omega) only [go_sem, ↓reduceIte]
       rcases iteB_some h with ⟨c35, h⟩ | ⟨c35, h⟩
       ·refine guardK_F c35 ?_
        try simp -implicitDefEqProofs (disch := omega) only [go_sem, ↓reduceIte]
        refine toEnd hC ?_
        refine endX_seq ?_
        refine runX_condT rfl rfl ?_
        refine runX_seq ?_
        refine runX_regionC fun C hC => ?_
        try simp -implicitDefEqProofs (disch := omega) only [go_sem, ↓reduceIte]
        refine toEnd hC ?_
        refine endX_seq ?_
        refine runX_ret ?_
        refine endX_seqR ?_
        refine endX_blkR ?_
        refine endX_q (meetQ_ret ?_)
        refine endX_seqR ?_
        refine endX_lpR ?_
        refine endX_blkR ?_
        refine endX_seqR ?_
        refine endX_q ?_
        obtain rfl := Option.some.inj h
        show RetW _ _ _ _ _
        simp only [RetW]
        (try simp -implicitDefEqProofs (maxSteps := 4000000) (disch := first | omega | decide | (simp only [go_sem]; omega)) only [go_sem, ↓reduceIte])
        (try simp (disch := omega) only [if_pos, Nat.sub_zero])
        first | exact leT_refl _ | (refine ⟨rfl, ?_⟩; first | exact leT_refl _ | exact leT_sl | exact leT_sln | exact leT_nil | (refine leT_tup (by repeat (first | exact leL_refl _ | refine leL_cons (by first | exact leT_refl _ | exact leT_virt | exact leT_junk _ | exact leT_sl | exact leT_sln | exact leT_nil | (refine leT_agg (by repeat (first | exact leL_refl _ | refine leL_cons (by first | exact leT_refl _ | exact leT_sl | exact leT_sln | exact leT_nil) ?_)))) ?_))) | (refine leT_agg (by repeat (first | exact leL_refl _ | refine leL_cons (by first | exact leT_refl _ | exact leT_virt | exact leT_junk _ | exact leT_sl | exact leT_sln | exact leT_nil | (refine leT_agg (by repeat (first | exact leL_refl _ | refine leL_cons (by first | exact leT_refl _ | exact leT_sl | exact leT_sln | exact leT_nil) ?_)))) ?_)))) | (first | exact leT_refl _ | exact leT_sl | exact leT_sln | exact leT_nil | (refine leT_tup (by repeat (first | exact leL_refl _ | refine leL_cons (by first | exact leT_refl _ | exact leT_virt | exact leT_junk _ | exact leT_sl | exact leT_sln | exact leT_nil | (refine leT_agg (by repeat (first | exact leL_refl _ | refine leL_cons (by first | exact leT_refl _ | exact leT_sl | exact leT_sln | exact leT_nil) ?_)))) ?_))) | (refine leT_agg (by repeat (first | exact leL_refl _ | refine leL_cons (by first | exact leT_refl _ | exact leT_virt | exact leT_junk _ | exact leT_sl | exact leT_sln | exact leT_nil | (refine leT_agg (by repeat (first | exact leL_refl _ | refine leL_cons (by first | exact leT_refl _ | exact leT_sl | exact leT_sln | exact leT_nil) ?_)))) ?_)))) | (simp only [List.append_assoc, List.cons_append, List.nil_append]; exact leT_refl _) | (rw [List.take_of_length_le (by simp)]; (try simp only [List.append_assoc, List.cons_append, List.nil_append]); exact leT_refl _)
       ·refine guardK_T c35 ?_
        try simp -implicitDefEqProofs (maxSteps := 4000000) (disch := first | omega | decide | (simp only [go_sem]; omega)) only [go_sem, ↓reduceIte]
        repeat (with_reducible refine And.intro (by first | assumption | omega | (simp; done) | (simp; omega)) ?_)
        rcases iteB_some h with ⟨c36, h⟩ | ⟨c36, h⟩
        ·refine guardK_T c36 ?_
         obtain ⟨g37, h⟩ := grd_some h
         try simp -implicitDefEqProofs (maxSteps := 4000000) (disch := first | omega | decide | (simp only [go_sem]; omega)) only [go_sem, ↓reduceIte]
         repeat (with_reducible refine And.intro (by first | assumption | omega | (simp; done) | (simp; omega)) ?_)
         refine toEnd hC ?_
         refine endX_seq ?_
         rcases iteB_some h with ⟨c38, h⟩ | ⟨c38, h⟩
         ·refine runX_condT rfl c38 ?_
          refine runX_seq ?_
          refine runX_regionC fun C hC => ?_
          try simp -implicitDefEqProofs (disch := omega) only [go_sem, ↓reduceIte]
          refine toEnd hC ?_
          refine endX_seq ?_
          refine runX_ret ?_
          refine endX_seqR ?_
          refine endX_blkR ?_
          refine endX_q (meetQ_ret ?_)
          refine endX_seqR ?_
          refine endX_lpR ?_
          refine endX_blkR ?_
          refine endX_seqR ?_
          refine endX_q ?_
          obtain rfl := Option.some.inj h
          show RetW _ _ _ _ _
          simp only [RetW]
          (try simp -implicitDefEqProofs (disch := omega) only [go_sem, ↓reduceIte])
          (try simp (disch := omega) only [if_pos, Nat.sub_zero])
          first | exact leT_refl _ | (refine ⟨rfl, ?_⟩; first | exact leT_refl _ | exact leT_sl | exact leT_sln | exact leT_nil | (refine leT_tup (by repeat (first | exact leL_refl _ | refine leL_cons (by first | exact leT_refl _ | exact leT_virt | exact leT_junk _ | exact leT_sl | exact leT_sln | exact leT_nil | (refine leT_agg (by repeat (first | exact leL_refl _ | refine leL_cons (by first | exact leT_refl _ | exact leT_sl | exact leT_sln | exact leT_nil) ?_)))) ?_))) | (refine leT_agg (by repeat (first | exact leL_refl _ | refine leL_cons (by first | exact leT_refl _ | exact leT_virt | exact leT_junk _ | exact leT_sl | exact leT_sln | exact leT_nil | (refine leT_agg (by repeat (first | exact leL_refl _ | refine leL_cons (by first | exact leT_refl _ | exact leT_sl | exact leT_sln | exact leT_nil) ?_)))) ?_)))) | (first | exact leT_refl _ | exact leT_sl | exact leT_sln | exact leT_nil | (refine leT_tup (by repeat (first | exact leL_refl _ | refine leL_cons (by first | exact leT_refl _ | exact leT_virt | exact leT_junk _ | exact leT_sl | exact leT_sln | exact leT_nil | (refine leT_agg (by repeat (first | exact leL_refl _ | refine leL_cons (by first | exact leT_refl _ | exact leT_sl | exact leT_sln | exact leT_nil) ?_)))) ?_))) | (refine leT_agg (by repeat (first | exact leL_refl _ | refine leL_cons (by first | exact leT_refl _ | exact leT_virt | exact leT_junk _ | exact leT_sl | exact leT_sln | exact leT_nil | (refine leT_agg (by repeat (first | exact leL_refl _ | refine leL_cons (by first | exact leT_refl _ | exact leT_sl | exact leT_sln | exact leT_nil) ?_)))) ?_)))) | (simp only [List.append_assoc, List.cons_append, List.nil_append]; exact leT_refl _) | (rw [List.take_of_length_le (by simp)]; (try simp only [List.append_assoc, List.cons_append, List.nil_append]); exact leT_refl _)
         ·refine runX_condF rfl c38 ?_
          refine runX_skip ?_
          refine endX_seq ?_
          refine runX_regionC fun C hC => ?_
          try simp -implicitDefEqProofs (disch := omega) only [go_sem, ↓reduceIte]
          refine toEnd hC ?_
          refine endX_blk ?_
          refine endX_q (meetQ_normal ⟨F103_S7 a0 (IntKind.wrap .i64 (bOr .i64 (IntKind.wrap .i64 (bShl .i64 x25 6)) x34)) x33, ?_, (IntKind.wrap .i64 (bOr .i64 (IntKind.wrap .i64 (bShl .i64 x25 6)) x34)), x33, rfl, h⟩)
          simp only [F103_S7]
          (try simp -implicitDefEqProofs (disch := omega) only [go_sem, ↓reduceIte])
          exact leS_refl _
        ·refine guardK_F c36 ?_
         try simp -implicitDefEqProofs (disch := omega) only [go_sem, ↓reduceIte]
         refine toEnd hC ?_
         refine endX_seq ?_
         refine runX_condF rfl rfl ?_
         refine runX_skip ?_
         refine endX_seq ?_
         refine runX_regionC fun C hC => ?_
         try simp -implicitDefEqProofs (disch := omega) only [go_sem, ↓reduceIte]
         refine toEnd hC ?_
         refine endX_blk ?_
         refine endX_q (meetQ_normal ⟨F103_S7 a0 (IntKind.wrap .i64 (bOr .i64 (IntKind.wrap .i64 (bShl .i64 x25 6)) x34)) x33, ?_, (IntKind.wrap .i64 (bOr .i64 (IntKind.wrap .i64 (bShl .i64 x25 6)) x34)), x33, rfl, h⟩)
         simp only [F103_S7]
         (try simp -implicitDefEqProofs (disch := omega) only [go_sem, ↓reduceIte])
         exact leS_refl _
     ·clear h
      rintro S ⟨x39, x40, rfl, h⟩
      rw [F103_J7] at h
      simp only [F103_S7]
      refine runX_regionC fun C hC => ?_
      try simp -implicitDefEqProofs (disch := omega) only [go_sem, ↓reduceIte]
      refine toEnd hC ?_
      refine endX_lp ?_
      refine runX_seq ?_
      refine runX_regionC fun C hC => ?_
      try simp -implicitDefEqProofs (disch := omega) only [go_sem, ↓reduceIte]
      refine toEnd hC ?_
      refine endX_seq ?_
      refine runX_seq ?_
      refine runX_condF rfl rfl ?_
      refine runX_exit ?_
      refine endX_seqE ?_
      refine endX_lpE ?_
      refine endX_blkE ?_
      refine endX_seq ?_
      refine runX_seq ?_
      refine runX_regionC fun C hC => ?_
      try simp -implicitDefEqProofs (disch := omega) only [go_sem, ↓reduceIte]
      refine bs_go <| buildX_val ?_
      try simp -implicitDefEqProofs (disch := omega) only [go_sem, ↓reduceIte]
      refine toEnd hC ?_
      refine endX_seq ?_
      refine runX_seq ?_
      refine runX_seq ?_
      refine runX_regionC fun C hC => ?_
      obtain ⟨g41, h⟩ := grd_some h
      have e42 : List.drop x40.toNat ([.imm (.int .u8 (IntKind.wrap .u8 ((bShr .i64 x39 16)))), .imm (.int .u8 (IntKind.wrap .u8 ((bShr .i64 x39 8)))), .imm (.int .u8 (IntKind.wrap .u8 (x39)))] : List T) = List.map byteT (List.drop x40.toNat [(IntKind.wrap .u8 ((bShr .i64 x39 16))), (IntKind.wrap .u8 ((bShr .i64 x39 8))), (IntKind.wrap .u8 (x39))]) := (List.map_drop (f := byteT) (l := [(IntKind.wrap .u8 ((bShr .i64 x39 16))), (IntKind.wrap .u8 ((bShr .i64 x39 8))), (IntKind.wrap .u8 (x39))]) (i := x40.toNat)).symm
      try simp -implicitDefEqProofs (maxSteps := 4000000) (disch := first | omega | decide | (simp only [go_sem]; omega)) only [go_sem, ↓reduceIte, e42]
      repeat (with_reducible refine And.intro (by first | assumption | omega | (simp; done) | (simp; omega)) ?_)
      refine toEnd hC ?_
      refine endX_seq ?_
      refine runX_block ?_
      refine runX_loop [5, 8, 63, 64, 65] (fun m S => ∃ (x43 : Int), S = F103_S9 x40 x39 x43 ∧ m ≤ n ∧ F103_L9 m x40 x39 x43 = some r) n ⟨F103_S9 x40 x39 (0 : Int), ?_, (0 : Int), rfl, Nat.le_refl _, h⟩ ?_
      ·simp only [F103_S9]
       (try simp -implicitDefEqProofs (disch := omega) only [go_sem, ↓reduceIte])
       exact leS_refl _
      ·clear h
       rintro m9 S ⟨x43, rfl, hm9, h⟩
       cases m9 with
       | zero => first | cases (show (none : Option _) = some _ from h) | (rw [F103_L9] at h; cases h)
       | succ m9 =>
        rw [F103_L9] at h
        simp only [F103_S9]
        refine runX_seq ?_
        refine runX_regionC fun C hC => ?_
        try simp -implicitDefEqProofs (disch := omega) only [go_sem, ↓reduceIte]
        refine toEnd hC ?_
        refine endX_seq ?_
        refine runX_seq ?_
        rcases iteB_some h with ⟨c44, h⟩ | ⟨c44, h⟩
        ·refine runX_condT rfl c44 ?_
         refine runX_skip ?_
         refine endX_seq ?_
         refine runX_seq ?_
         refine runX_block ?_
         refine runX_seq ?_
         refine runX_regionC fun C hC => ?_
         obtain ⟨g45, h⟩ := grd_some h
         try simp -implicitDefEqProofs (maxSteps := 4000000) (disch := first | omega | decide | (simp only [go_sem]; omega)) only [go_sem, ↓reduceIte]
         repeat (with_reducible refine And.intro (by first | assumption | omega | (simp; done) | (simp; omega)) ?_)
         refine toEnd hC ?_
         refine endX_seq ?_
         refine runX_seq ?_
         refine runX_regionC fun C hC => ?_
         try simp -implicitDefEqProofs (disch := omega) only [go_sem, ↓reduceIte]
         refine toEnd hC ?_
         refine endX_seq ?_
         rcases iteB_some h with ⟨c46, h⟩ | ⟨c46, h⟩
         ·refine runX_condT rfl c46 ?_
          refine runX_seq ?_
          refine runX_regionC fun C hC => ?_
          try simp -implicitDefEqProofs (disch := omega) only [go_sem, ↓reduceIte]
          refine toEnd hC ?_
          refine endX_seq ?_
          refine runX_ret ?_
          refine endX_blkR ?_
          refine endX_seqR ?_
          refine endX_q (roundQ_ret ?_)
          refine endX_blkR ?_
          refine endX_seqR ?_
          refine endX_q ?_
          obtain rfl := Option.some.inj h
          show RetW _ _ _ _ _
          simp only [RetW]
          (try simp -implicitDefEqProofs (disch := omega) only [go_sem, ↓reduceIte])
          (try simp (disch := omega) only [if_pos, Nat.sub_zero])
          first | exact leT_refl _ | (refine ⟨rfl, ?_⟩; first | exact leT_refl _ | exact leT_sl | exact leT_sln | exact leT_nil | (refine leT_tup (by repeat (first | exact leL_refl _ | refine leL_cons (by first | exact leT_refl _ | exact leT_virt | exact leT_junk _ | exact leT_sl | exact leT_sln | exact leT_nil | (refine leT_agg (by repeat (first | exact leL_refl _ | refine leL_cons (by first | exact leT_refl _ | exact leT_sl | exact leT_sln | exact leT_nil) ?_)))) ?_))) | (refine leT_agg (by repeat (first | exact leL_refl _ | refine leL_cons (by first | exact leT_refl _ | exact leT_virt | exact leT_junk _ | exact leT_sl | exact leT_sln | exact leT_nil | (refine leT_agg (by repeat (first | exact leL_refl _ | refine leL_cons (by first | exact leT_refl _ | exact leT_sl | exact leT_sln | exact leT_nil) ?_)))) ?_)))) | (first | exact leT_refl _ | exact leT_sl | exact leT_sln | exact leT_nil | (refine leT_tup (by repeat (first | exact leL_refl _ | refine leL_cons (by first | exact leT_refl _ | exact leT_virt | exact leT_junk _ | exact leT_sl | exact leT_sln | exact leT_nil | (refine leT_agg (by repeat (first | exact leL_refl _ | refine leL_cons (by first | exact leT_refl _ | exact leT_sl | exact leT_sln | exact leT_nil) ?_)))) ?_))) | (refine leT_agg (by repeat (first | exact leL_refl _ | refine leL_cons (by first | exact leT_refl _ | exact leT_virt | exact leT_junk _ | exact leT_sl | exact leT_sln | exact leT_nil | (refine leT_agg (by repeat (first | exact leL_refl _ | refine leL_cons (by first | exact leT_refl _ | exact leT_sl | exact leT_sln | exact leT_nil) ?_)))) ?_)))) | (simp only [List.append_assoc, List.cons_append, List.nil_append]; exact leT_refl _) | (rw [List.take_of_length_le (by simp)]; (try simp only [List.append_assoc, List.cons_append, List.nil_append]); exact leT_refl _)
         ·refine runX_condF rfl c46 ?_
          refine runX_skip ?_
          refine endX_blk ?_
          refine endX_seq ?_
          refine runX_regionC fun C hC => ?_
          try simp -implicitDefEqProofs (disch := omega) only [go_sem, ↓reduceIte]
          refine toEnd hC ?_
          refine endX_q (roundQ_normal ⟨m9, by omega, F103_S9 x40 x39 (IntKind.wrap .i64 (x43 + (1 : Int))), ?_, (IntKind.wrap .i64 (x43 + (1 : Int))), rfl, by omega, h⟩)
          simp only [F103_S9]
          (try simp -implicitDefEqProofs (maxSteps := 4000000) (disch := first | omega | decide | (simp only [go_sem]; omega)) only [go_sem, ↓reduceIte])
          first | exact leS_refl _ | (refine leS_le ?_ ?_ <;> first | exact leL_refl _ | exact leOs_refl _ | (simp only [List.append_assoc, List.cons_append, List.nil_append]; exact leOs_refl _) | (repeat (first | exact leL_refl _ | refine leL_cons (by first | exact leT_refl _ | exact leT_virt | exact leT_junk _ | exact leT_sl | exact leT_sln | exact leT_nil | (refine leT_agg (by repeat (first | exact leL_refl _ | refine leL_cons (by first | exact leT_refl _ | exact leT_sl | exact leT_sln | exact leT_nil) ?_)))) ?_)))
        ·refine runX_condF rfl c44 ?_
         refine runX_exit ?_
         refine endX_seqE ?_
         refine endX_q (roundQ_exit ?_)
         refine endX_blkE ?_
         refine endX_seq ?_
         refine runX_seq ?_
         refine runX_regionC fun C hC => ?_
         obtain ⟨g47, h⟩ := grd_some h
         have e48 : List.take x40.toNat ([.imm (.int .u8 (IntKind.wrap .u8 ((bShr .i64 x39 16)))), .imm (.int .u8 (IntKind.wrap .u8 ((bShr .i64 x39 8)))), .imm (.int .u8 (IntKind.wrap .u8 (x39)))] : List T) = List.map byteT (List.take x40.toNat [(IntKind.wrap .u8 ((bShr .i64 x39 16))), (IntKind.wrap .u8 ((bShr .i64 x39 8))), (IntKind.wrap .u8 (x39))]) := (List.map_take (f := byteT) (l := [(IntKind.wrap .u8 ((bShr .i64 x39 16))), (IntKind.wrap .u8 ((bShr .i64 x39 8))), (IntKind.wrap .u8 (x39))]) (i := x40.toNat)).symm
         try simp -implicitDefEqProofs (maxSteps := 4000000) (disch := first | omega | decide | (simp only [go_sem]; omega)) only [go_sem, ↓reduceIte, e48]
         repeat (with_reducible refine And.intro (by first | assumption | omega | (simp; done) | (simp; omega)) ?_)
         refine toEnd hC ?_
         refine endX_seq ?_
         refine runX_ret ?_
         refine endX_q ?_
         obtain rfl := Option.some.inj h
         show RetW _ _ _ _ _
         simp only [RetW]
         (try simp -implicitDefEqProofs (disch := omega) only [go_sem, ↓reduceIte])
         (try simp (disch := omega) only [if_pos, Nat.sub_zero])
         first | exact leT_refl _ | (refine ⟨rfl, ?_⟩; first | exact leT_refl _ | exact leT_sl | exact leT_sln | exact leT_nil | (refine leT_tup (by repeat (first | exact leL_refl _ | refine leL_cons (by first | exact leT_refl _ | exact leT_virt | exact leT_junk _ | exact leT_sl | exact leT_sln | exact leT_nil | (refine leT_agg (by repeat (first | exact leL_refl _ | refine leL_cons (by first | exact leT_refl _ | exact leT_sl | exact leT_sln | exact leT_nil) ?_)))) ?_))) | (refine leT_agg (by repeat (first | exact leL_refl _ | refine leL_cons (by first | exact leT_refl _ | exact leT_virt | exact leT_junk _ | exact leT_sl | exact leT_sln | exact leT_nil | (refine leT_agg (by repeat (first | exact leL_refl _ | refine leL_cons (by first | exact leT_refl _ | exact leT_sl | exact leT_sln | exact leT_nil) ?_)))) ?_)))) | (first | exact leT_refl _ | exact leT_sl | exact leT_sln | exact leT_nil | (refine leT_tup (by repeat (first | exact leL_refl _ | refine leL_cons (by first | exact leT_refl _ | exact leT_virt | exact leT_junk _ | exact leT_sl | exact leT_sln | exact leT_nil | (refine leT_agg (by repeat (first | exact leL_refl _ | refine leL_cons (by first | exact leT_refl _ | exact leT_sl | exact leT_sln | exact leT_nil) ?_)))) ?_))) | (refine leT_agg (by repeat (first | exact leL_refl _ | refine leL_cons (by first | exact leT_refl _ | exact leT_virt | exact leT_junk _ | exact leT_sl | exact leT_sln | exact leT_nil | (refine leT_agg (by repeat (first | exact leL_refl _ | refine leL_cons (by first | exact leT_refl _ | exact leT_sl | exact leT_sln | exact leT_nil) ?_)))) ?_)))) | (simp only [List.append_assoc, List.cons_append, List.nil_append]; exact leT_refl _) | (rw [List.take_of_length_le (by simp)]; (try simp only [List.append_assoc, List.cons_append, List.nil_append]); exact leT_refl _)
end Go.Proofs.YtaiapalhdejngaaX

set_option linter.unusedVariables false
set_option linter.unusedSimpArgs false
namespace Go.Proofs.YtaiapalhdejngaaX
open Go Go.RowKit Go.Proofs
set_option maxRecDepth 100000
attribute [local go_sem ↓] stepsK_build stepsK_bs appendS
attribute [local go_sem] String.reduceEq String.reduceNe reduceCtorEq Int.reduceEq Nat.reduceAdd Nat.reduceSub Nat.reduceMul Nat.reduceLT Nat.reduceLeDiff Nat.reduceEqDiff Nat.reduceBEq Int.reduceToNat Int.reduceLT Int.reduceLE Int.reduceGT Int.reduceGE Int.reduceAdd Int.reduceSub Int.reduceMul Int.reduceNeg Int.reduceBEq Int.reduceBNe Int.reducePow Int.reduceDiv Int.reduceMod Int.reduceTDiv Int.reduceTMod Int.reduceNatCast
/-! ### base.Decode -/
def F79_S1 (x2 : List UInt8) (x3 : List (Int)) : St := ⟨[.imm (.string (bs x2)), .junk, .junk, .junk, .rsl 0 1 0 x3.length, .junk, .junk, .junk, .junk, .junk, .junk, .junk, .junk, .junk, .junk, .junk, .junk, .junk, .junk, .junk, .junk, .junk, .junk, .junk, .junk, .junk, .junk, .junk, .junk, .junk, .junk, .junk, .junk, .junk, .junk, .junk, .junk], [some (.buf 5 1 (List.map byteT x3) 0)]⟩
def F79_L1 : Nat → (List UInt8) → (List (Int)) → Option ((List (Int)) × (Bool))
 | 0, _, _ => none
 | m1 + 1, x2, x3 => iteB (!(x2 == [])) (grd ((4 : Int) ≤ (x2.length : Int)) ((F103 m1 (x2.take 4)).bind fun v6 => iteB (!v6.2) (some ([], false)) (iteB (decide ((v6.1.length : Int) < (3 : Int))) (iteB (decide ((4 : Int) < (x2.length : Int))) (some ([], false)) (grd ((x3.length + v6.1.length) ≤ 549755813888) (grd ((4 : Int) ≤ (x2.length : Int)) (F79_L1 m1 (x2.drop 4) (x3 ++ v6.1))))) (grd ((x3.length + v6.1.length) ≤ 549755813888) (grd ((4 : Int) ≤ (x2.length : Int)) (F79_L1 m1 (x2.drop 4) (x3 ++ v6.1))))))) (some (x3, true))
def F79 (n : Nat) (a0 : List UInt8) : Option ((List (Int)) × (Bool)) := iteB (((a0.length : Int).tmod (4 : Int)) != (0 : Int)) (some ([], false)) (F79_L1 n a0 [])
set_option maxHeartbeats 4000000 in
theorem F79_ok : ∀ (n : Nat) (a0 : List UInt8) (r : (List (Int)) × (Bool)), F79 n a0 = some r → FnC Try.prog 79 [.imm (.string (bs a0))] (.tup [.sl 1 false (List.map byteT r.1), .imm (.bool r.2)])
 | n, a0, r, h => by
  unfold F79 at h
  refine FnC.goX mixed Try.func79 (by kernel_rfl) rfl ?_
  simp only [Try.ntmps79, List.length_cons, List.length_nil, List.replicate, List.cons_append, List.nil_append, Nat.reduceAdd, Nat.reduceSub]
  refine runX_seq ?_
  refine runX_regionC fun C hC => ?_
  try simp -implicitDefEqProofs (disch := omega) only [go_sem, ↓reduceIte]
  refine toEnd hC ?_
  refine endX_seq ?_
  refine runX_seq ?_
  refine runX_seq ?_
  refine runX_regionC fun C hC => ?_
  try simp -implicitDefEqProofs (disch := omega) only [go_sem, ↓reduceIte]
  refine toEnd hC ?_
  refine endX_seq ?_
  rcases iteB_some h with ⟨c1, h⟩ | ⟨c1, h⟩
  ·refine runX_condT rfl c1 ?_
   refine runX_seq ?_
   refine runX_regionC fun C hC => ?_
   try simp -implicitDefEqProofs (disch := omega) only [go_sem, ↓reduceIte]
   refine toEnd hC ?_
   refine endX_seq ?_
   refine runX_ret ?_
   refine endX_seqR ?_
   refine endX_q ?_
   obtain rfl := Option.some.inj h
   show RetW _ _ _ _ _
   simp only [RetW]
   (try simp -implicitDefEqProofs (disch := omega) only [go_sem, ↓reduceIte])
   (try simp (disch := omega) only [if_pos, Nat.sub_zero])
   first | exact leT_refl _ | (refine ⟨rfl, ?_⟩; first | exact leT_refl _ | exact leT_sl | exact leT_sln | exact leT_nil | (refine leT_tup (by repeat (first | exact leL_refl _ | refine leL_cons (by first | exact leT_refl _ | exact leT_virt | exact leT_junk _ | exact leT_sl | exact leT_sln | exact leT_nil | (refine leT_agg (by repeat (first | exact leL_refl _ | refine leL_cons (by first | exact leT_refl _ | exact leT_sl | exact leT_sln | exact leT_nil) ?_)))) ?_))) | (refine leT_agg (by repeat (first | exact leL_refl _ | refine leL_cons (by first | exact leT_refl _ | exact leT_virt | exact leT_junk _ | exact leT_sl | exact leT_sln | exact leT_nil | (refine leT_agg (by repeat (first | exact leL_refl _ | refine leL_cons (by first | exact leT_refl _ | exact leT_sl | exact leT_sln | exact leT_nil) ?_)))) ?_)))) | (first | exact leT_refl _ | exact leT_sl | exact leT_sln | exact leT_nil | (refine leT_tup (by repeat (first | exact leL_refl _ | refine leL_cons (by first | exact leT_refl _ | exact leT_virt | exact leT_junk _ | exact leT_sl | exact leT_sln | exact leT_nil | (refine leT_agg (by repeat (first | exact leL_refl _ | refine leL_cons (by first | exact leT_refl _ | exact leT_sl | exact leT_sln | exact leT_nil) ?_)))) ?_))) | (refine leT_agg (by repeat (first | exact leL_refl _ | refine leL_cons (by first | exact leT_refl _ | exact leT_virt | exact leT_junk _ | exact leT_sl | exact leT_sln | exact leT_nil | (refine leT_agg (by repeat (first | exact leL_refl _ | refine leL_cons (by first | exact leT_refl _ | exact leT_sl | exact leT_sln | exact leT_nil) ?_)))) ?_)))) | (simp only [List.append_assoc, List.cons_append, List.nil_append]; exact leT_refl _) | (rw [List.take_of_length_le (by simp)]; (try simp only [List.append_assoc, List.cons_append, List.nil_append]); exact leT_refl _)
  ·refine runX_condF rfl c1 ?_
   refine runX_skip ?_
   refine endX_seq ?_
   refine runX_seq ?_
   refine runX_regionC fun C hC => ?_
   try simp -implicitDefEqProofs (disch := omega) only [go_sem, ↓reduceIte]
   refine toEnd hC ?_
   refine endX_seq ?_
   refine runX_seq ?_
   refine runX_block ?_
   refine runX_loop [0, 4] (fun m S => ∃ (x2 : List UInt8) (x3 : List (Int)), S = F79_S1 x2 x3 ∧ m ≤ n ∧ F79_L1 m x2 x3 = some r) n ⟨F79_S1 a0 [], ?_, a0, [], rfl, Nat.le_refl _, h⟩ ?_
   ·(try simp -implicitDefEqProofs (disch := omega) only [go_sem, ↓reduceIte])
    simp only [F79_S1]
    refine leS_trans (leS_pad _ _ 1) ?_
    simp only [List.replicate, List.cons_append, List.nil_append]
    refine leS_virt 0 5 1 rfl ?_ ?_ rfl
    ·repeat (first | exact leL_refl _ | refine leL_cons (by first | exact leT_refl _ | exact leT_virt | exact leT_junk _ | exact leT_sl | exact leT_sln | exact leT_nil | (refine leT_agg (by repeat (first | exact leL_refl _ | refine leL_cons (by first | exact leT_refl _ | exact leT_sl | exact leT_sln | exact leT_nil) ?_)))) ?_)
    ·repeat (first | exact leOs_refl _ | refine leOs.cons (by first | exact leO.same _ | (refine leO.box (leT_agg (by repeat (first | exact leL_refl _ | refine leL_cons (by first | exact leT_refl _ | exact leT_virt | exact leT_junk _ | exact leT_sl | exact leT_sln | exact leT_nil | (refine leT_agg (by repeat (first | exact leL_refl _ | refine leL_cons (by first | exact leT_refl _ | exact leT_sl | exact leT_sln | exact leT_nil) ?_)))) ?_))) rfl) | (refine leO.box (by first | exact leT_virt | exact leT_sl | exact leT_sln) rfl)) ?_)
   ·clear h
    rintro m1 S ⟨x2, x3, rfl, hm1, h⟩
    cases m1 with
    | zero => first | cases (show (none : Option _) = some _ from h) | (rw [F79_L1] at h; cases h)
    | succ m1 =>
     rw [F79_L1] at h
     simp only [F79_S1]
     refine runX_seq ?_
     refine runX_seq ?_
     refine runX_regionC fun C hC => ?_
     try simp -implicitDefEqProofs (maxSteps := 4000000) (disch := first | omega | decide | (simp only [go_sem]; omega)) only [go_sem, ↓reduceIte]
     repeat (with_reducible refine And.intro (by first | assumption | omega | (simp; done) | (simp; omega)) ?_)
     refine toEnd hC ?_
     refine endX_seq ?_
     rcases iteB_some h with ⟨c4, h⟩ | ⟨c4, h⟩
     ·refine runX_condT rfl c4 ?_
      refine runX_skip ?_
      refine endX_seq ?_
      refine runX_seq ?_
      refine runX_block ?_
      refine runX_seq ?_
      refine runX_regionC fun C hC => ?_
      obtain ⟨g5, h⟩ := grd_some h
      obtain ⟨v6, h6, h⟩ := bnd_some h
      try simp -implicitDefEqProofs (maxSteps := 4000000) (disch := first | omega | decide | (simp only [go_sem]; omega)) only [go_sem, ↓reduceIte]
      repeat (with_reducible refine And.intro (by first | assumption | omega | (simp; done) | (simp; omega)) ?_)
      refine callG_X (by first | rfl | (simp only [go_sem]; done) | (simp only [closedL, closedT, Bool.and_true]; exact closedL_map _ (fun _ => by first | rfl | (simp only [go_sem]; done)) _)) (F103_ok m1 (x2.take 4) _ h6) (by repeat (first | exact leL_refl _ | refine leL_cons (by first | exact leT_refl _ | exact leT_virt | exact leT_junk _ | exact leT_sl | exact leT_sln | exact leT_nil | (refine leT_agg (by repeat (first | exact leL_refl _ | refine leL_cons (by first | exact leT_refl _ | exact leT_sl | exact leT_sln | exact leT_nil) ?_)))) ?_)) ?_
      try simp -implicitDefEqProofs (maxSteps := 4000000) (disch := first | omega | decide | (simp only [go_sem]; omega)) only [go_sem, ↓reduceIte]
      repeat (with_reducible refine And.intro (by first | assumption | omega | (simp; done) | (simp; omega)) ?_)
      refine toEnd hC ?_
      refine endX_seq ?_
      refine runX_seq ?_
      refine runX_seq ?_
      refine runX_regionC fun C hC => ?_
      try simp -implicitDefEqProofs (disch := omega) only [go_sem, ↓reduceIte]
      rcases iteB_some h with ⟨c7, h⟩ | ⟨c7, h⟩
      ·refine guardK_F c7 ?_
       try simp -implicitDefEqProofs (disch := omega) only [go_sem, ↓reduceIte]
       refine toEnd hC ?_
       refine endX_seq ?_
       refine runX_condT rfl rfl ?_
       refine runX_seq ?_
       refine runX_regionC fun C hC => ?_
       try simp -implicitDefEqProofs (disch := omega) only [go_sem, ↓reduceIte]
       refine toEnd hC ?_
       refine endX_seq ?_
       refine runX_ret ?_
       refine endX_seqR ?_
       refine endX_blkR ?_
       refine endX_seqR ?_
       refine endX_q (roundQ_ret ?_)
       refine endX_blkR ?_
       refine endX_seqR ?_
       refine endX_q ?_
       obtain rfl := Option.some.inj h
       show RetW _ _ _ _ _
       simp only [RetW]
       (try simp -implicitDefEqProofs (disch := omega) only [go_sem, ↓reduceIte])
       (try simp (disch := omega) only [if_pos, Nat.sub_zero])
       first | exact leT_refl _ | (refine ⟨rfl, ?_⟩; first | exact leT_refl _ | exact leT_sl | exact leT_sln | exact leT_nil | (refine leT_tup (by repeat (first | exact leL_refl _ | refine leL_cons (by first | exact leT_refl _ | exact leT_virt | exact leT_junk _ | exact leT_sl | exact leT_sln | exact leT_nil | (refine leT_agg (by repeat (first | exact leL_refl _ | refine leL_cons (by first | exact leT_refl _ | exact leT_sl | exact leT_sln | exact leT_nil) ?_)))) ?_))) | (refine leT_agg (by repeat (first | exact leL_refl _ | refine leL_cons (by first | exact leT_refl _ | exact leT_virt | exact leT_junk _ | exact leT_sl | exact leT_sln | exact leT_nil | (refine leT_agg (by repeat (first | exact leL_refl _ | refine leL_cons (by first | exact leT_refl _ | exact leT_sl | exact leT_sln | exact leT_nil) ?_)))) ?_)))) | (first | exact leT_refl _ | exact leT_sl | exact leT_sln | exact leT_nil | (refine leT_tup (by repeat (first | exact leL_refl _ | refine leL_cons (by first | exact leT_refl _ | exact leT_virt | exact leT_junk _ | exact leT_sl | exact leT_sln | exact leT_nil | (refine leT_agg (by repeat (first | exact leL_refl _ | refine leL_cons (by first | exact leT_refl _ | exact leT_sl | exact leT_sln | exact leT_nil) ?_)))) ?_))) | (refine leT_agg (by repeat (first | exact leL_refl _ | refine leL_cons (by first | exact leT_refl _ | exact leT_virt | exact leT_junk _ | exact leT_sl | exact leT_sln | exact leT_nil | (refine leT_agg (by repeat (first | exact leL_refl _ | refine leL_cons (by first | exact leT_refl _ | exact leT_sl | exact leT_sln | exact leT_nil) ?_)))) ?_)))) | (simp only [List.append_assoc, List.cons_append, List.nil_append]; exact leT_refl _) | (rw [List.take_of_length_le (by simp)]; (try simp only [List.append_assoc, List.cons_append, List.nil_append]); exact leT_refl _)
      ·refine guardK_T c7 ?_
       try simp -implicitDefEqProofs (disch := omega) only [go_sem, ↓reduceIte]
       rcases iteB_some h with ⟨c8, h⟩ | ⟨c8, h⟩
       ·refine guardK_T c8 ?_
        try simp -implicitDefEqProofs (disch := omega) only [go_sem, ↓reduceIte]
        refine toEnd hC ?_
        refine endX_seq ?_
        rcases iteB_some h with ⟨c9, h⟩ | ⟨c9, h⟩
        ·refine runX_condT rfl c9 ?_
         refine runX_seq ?_
         refine runX_regionC fun C hC => ?_
         try simp -implicitDefEqProofs (disch := omega) only [go_sem, ↓reduceIte]
         refine toEnd hC ?_
         refine endX_seq ?_
         refine runX_ret ?_
         refine endX_seqR ?_
         refine endX_blkR ?_
         refine endX_seqR ?_
         refine endX_q (roundQ_ret ?_)
         refine endX_blkR ?_
         refine endX_seqR ?_
         refine endX_q ?_
         obtain rfl := Option.some.inj h
         show RetW _ _ _ _ _
         simp only [RetW]
         (try simp -implicitDefEqProofs (maxSteps := 4000000) (disch := first | omega | decide | (simp only [go_sem]; omega)) only [go_sem, ↓reduceIte])
         (try simp (disch := omega) only [if_pos, Nat.sub_zero])
         first | exact leT_refl _ | (refine ⟨rfl, ?_⟩; first | exact leT_refl _ | exact leT_sl | exact leT_sln | exact leT_nil | (refine leT_tup (by repeat (first | exact leL_refl _ | refine leL_cons (by first | exact leT_refl _ | exact leT_virt | exact leT_junk _ | exact leT_sl | exact leT_sln | exact leT_nil | (refine leT_agg (by repeat (first | exact leL_refl _ | refine leL_cons (by first | exact leT_refl _ | exact leT_sl | exact leT_sln | exact leT_nil) ?_)))) ?_))) | (refine leT_agg (by repeat (first | exact leL_refl _ | refine leL_cons (by first | exact leT_refl _ | exact leT_virt | exact leT_junk _ | exact leT_sl | exact leT_sln | exact leT_nil | (refine leT_agg (by repeat (first | exact leL_refl _ | refine leL_cons (by first | exact leT_refl _ | exact leT_sl | exact leT_sln | exact leT_nil) ?_)))) ?_)))) | (first | exact leT_refl _ | exact leT_sl | exact leT_sln | exact leT_nil | (refine leT_tup (by repeat (first | exact leL_refl _ | refine leL_cons (by first | exact leT_refl _ | exact leT_virt | exact leT_junk _ | exact leT_sl | exact leT_sln | exact leT_nil | (refine leT_agg (by repeat (first | exact leL_refl _ | refine leL_cons (by first | exact leT_refl _ | exact leT_sl | exact leT_sln | exact leT_nil) ?_)))) ?_))) | (refine leT_agg (by repeat (first | exact leL_refl _ | refine leL_cons (by first | exact leT_refl _ | exact leT_virt | exact leT_junk _ | exact leT_sl | exact leT_sln | exact leT_nil | (refine leT_agg (by repeat (first | exact leL_refl _ | refine leL_cons (by first | exact leT_refl _ | exact leT_sl | exact leT_sln | exact leT_nil) ?_)))) ?_)))) | (simp only [List.append_assoc, List.cons_append, List.nil_append]; exact leT_refl _) | (rw [List.take_of_length_le (by simp)]; (try simp only [List.append_assoc, List.cons_append, List.nil_append]); exact leT_refl _)
        ·refine runX_condF rfl c9 ?_
         refine runX_skip ?_
         refine endX_seq ?_
         refine runX_regionC fun C hC => ?_
         obtain ⟨g10, h⟩ := grd_some h
         try simp -implicitDefEqProofs (maxSteps := 4000000) (disch := first | omega | decide | (simp only [go_sem]; omega)) only [go_sem, ↓reduceIte]
         repeat (with_reducible refine And.intro (by first | assumption | omega | (simp; done) | (simp; omega)) ?_)
         refine toEnd hC ?_
         refine endX_blk ?_
         refine endX_seq ?_
         refine runX_regionC fun C hC => ?_
         obtain ⟨g11, h⟩ := grd_some h
         try simp -implicitDefEqProofs (maxSteps := 4000000) (disch := first | omega | decide | (simp only [go_sem]; omega)) only [go_sem, ↓reduceIte]
         repeat (with_reducible refine And.intro (by first | assumption | omega | (simp; done) | (simp; omega)) ?_)
         refine toEnd hC ?_
         refine endX_q (roundQ_normal ⟨m1, by omega, F79_S1 (x2.drop 4) (x3 ++ v6.1), ?_, (x2.drop 4), (x3 ++ v6.1), rfl, by omega, h⟩)
         simp only [F79_S1]
         (try simp -implicitDefEqProofs (disch := omega) only [go_sem, ↓reduceIte])
         exact leS_refl _
       ·refine guardK_F c8 ?_
        try simp -implicitDefEqProofs (disch := omega) only [go_sem, ↓reduceIte]
        refine toEnd hC ?_
        refine endX_seq ?_
        refine runX_condF rfl rfl ?_
        refine runX_skip ?_
        refine endX_seq ?_
        refine runX_regionC fun C hC => ?_
        obtain ⟨g12, h⟩ := grd_some h
        try simp -implicitDefEqProofs (maxSteps := 4000000) (disch := first | omega | decide | (simp only [go_sem]; omega)) only [go_sem, ↓reduceIte]
        repeat (with_reducible refine And.intro (by first | assumption | omega | (simp; done) | (simp; omega)) ?_)
        refine toEnd hC ?_
        refine endX_blk ?_
        refine endX_seq ?_
        refine runX_regionC fun C hC => ?_
        obtain ⟨g13, h⟩ := grd_some h
        try simp -implicitDefEqProofs (maxSteps := 4000000) (disch := first | omega | decide | (simp only [go_sem]; omega)) only [go_sem, ↓reduceIte]
        repeat (with_reducible refine And.intro (by first | assumption | omega | (simp; done) | (simp; omega)) ?_)
        refine toEnd hC ?_
        refine endX_q (roundQ_normal ⟨m1, by omega, F79_S1 (x2.drop 4) (x3 ++ v6.1), ?_, (x2.drop 4), (x3 ++ v6.1), rfl, by omega, h⟩)
        simp only [F79_S1]
        (try simp -implicitDefEqProofs (disch := omega) only [go_sem, ↓reduceIte])
        exact leS_refl _
     ·refine runX_condF rfl c4 ?_
      refine runX_exit ?_
      refine endX_seqE ?_
      refine endX_q (roundQ_exit ?_)
      refine endX_blkE ?_
      refine endX_seq ?_
      refine runX_seq ?_
      refine runX_regionC fun C hC => ?_
      try simp -implicitDefEqProofs (disch := omega) only [go_sem, ↓reduceIte]
      refine toEnd hC ?_
      refine endX_seq ?_
      refine runX_ret ?_
      refine endX_q ?_
      obtain rfl := Option.some.inj h
      show RetW _ _ _ _ _
      simp only [RetW]
      (try simp -implicitDefEqProofs (disch := omega) only [go_sem, ↓reduceIte])
      (try simp (disch := omega) only [if_pos, Nat.sub_zero])
      first | exact leT_refl _ | (refine ⟨rfl, ?_⟩; first | exact leT_refl _ | exact leT_sl | exact leT_sln | exact leT_nil | (refine leT_tup (by repeat (first | exact leL_refl _ | refine leL_cons (by first | exact leT_refl _ | exact leT_virt | exact leT_junk _ | exact leT_sl | exact leT_sln | exact leT_nil | (refine leT_agg (by repeat (first | exact leL_refl _ | refine leL_cons (by first | exact leT_refl _ | exact leT_sl | exact leT_sln | exact leT_nil) ?_)))) ?_))) | (refine leT_agg (by repeat (first | exact leL_refl _ | refine leL_cons (by first | exact leT_refl _ | exact leT_virt | exact leT_junk _ | exact leT_sl | exact leT_sln | exact leT_nil | (refine leT_agg (by repeat (first | exact leL_refl _ | refine leL_cons (by first | exact leT_refl _ | exact leT_sl | exact leT_sln | exact leT_nil) ?_)))) ?_)))) | (first | exact leT_refl _ | exact leT_sl | exact leT_sln | exact leT_nil | (refine leT_tup (by repeat (first | exact leL_refl _ | refine leL_cons (by first | exact leT_refl _ | exact leT_virt | exact leT_junk _ | exact leT_sl | exact leT_sln | exact leT_nil | (refine leT_agg (by repeat (first | exact leL_refl _ | refine leL_cons (by first | exact leT_refl _ | exact leT_sl | exact leT_sln | exact leT_nil) ?_)))) ?_))) | (refine leT_agg (by repeat (first | exact leL_refl _ | refine leL_cons (by first | exact leT_refl _ | exact leT_virt | exact leT_junk _ | exact leT_sl | exact leT_sln | exact leT_nil | (refine leT_agg (by repeat (first | exact leL_refl _ | refine leL_cons (by first | exact leT_refl _ | exact leT_sl | exact leT_sln | exact leT_nil) ?_)))) ?_)))) | (simp only [List.append_assoc, List.cons_append, List.nil_append]; exact leT_refl _) | (rw [List.take_of_length_le (by simp)]; (try simp only [List.append_assoc, List.cons_append, List.nil_append]); exact leT_refl _)
end Go.Proofs.YtaiapalhdejngaaX

set_option linter.unusedVariables false
set_option linter.unusedSimpArgs false
namespace Go.Proofs.YtaiapalhdejngaaX
open Go Go.RowKit Go.Proofs
set_option maxRecDepth 100000
attribute [local go_sem ↓] stepsK_build stepsK_bs appendS
attribute [local go_sem] String.reduceEq String.reduceNe reduceCtorEq Int.reduceEq Nat.reduceAdd Nat.reduceSub Nat.reduceMul Nat.reduceLT Nat.reduceLeDiff Nat.reduceEqDiff Nat.reduceBEq Int.reduceToNat Int.reduceLT Int.reduceLE Int.reduceGT Int.reduceGE Int.reduceAdd Int.reduceSub Int.reduceMul Int.reduceNeg Int.reduceBEq Int.reduceBNe Int.reducePow Int.reduceDiv Int.reduceMod Int.reduceTDiv Int.reduceTMod Int.reduceNatCast
/-! ### etag.Given -/
def F43 (n : Nat) (a0 : List UInt8) (a1 : List (Int)) : Option (Bool) := (F79 n a0).bind fun v1 => (F45 n a1).bind fun v2 => grd (v2.length = 16) (iteB v1.2 (grd (v2.length = 16) (some ((v1.1.map toB) == (v2.map toB)))) (some false))
set_option maxHeartbeats 4000000 in
theorem F43_ok : ∀ (n : Nat) (a0 : List UInt8) (a1 : List (Int)) (r : Bool), F43 n a0 a1 = some r → FnC Try.prog 43 [.imm (.string (bs a0)), .sl 1 false (List.map byteT a1)] (.imm (.bool r))
 | n, a0, a1, r, h => by
  unfold F43 at h
  refine FnC.goX mixed Try.func43 (by kernel_rfl) rfl ?_
  simp only [Try.ntmps43, List.length_cons, List.length_nil, List.replicate, List.cons_append, List.nil_append, Nat.reduceAdd, Nat.reduceSub]
  refine runX_seq ?_
  refine runX_regionC fun C hC => ?_
  try simp -implicitDefEqProofs (maxSteps := 4000000) (disch := first | omega | decide | (simp only [go_sem]; omega)) only [go_sem, ↓reduceIte]
  repeat (with_reducible refine And.intro (by first | assumption | omega | (simp; done) | (simp; omega)) ?_)
  refine toEnd hC ?_
  refine endX_seq ?_
  refine runX_seq ?_
  refine runX_regionC fun C hC => ?_
  obtain ⟨v1, h1, h⟩ := bnd_some h
  try simp -implicitDefEqProofs (maxSteps := 4000000) (disch := first | omega | decide | (simp only [go_sem]; omega)) only [go_sem, ↓reduceIte]
  repeat (with_reducible refine And.intro (by first | assumption | omega | (simp; done) | (simp; omega)) ?_)
  refine callG_X (by first | rfl | (simp only [go_sem]; done) | (simp only [closedL, closedT, Bool.and_true]; exact closedL_map _ (fun _ => by first | rfl | (simp only [go_sem]; done)) _)) (F79_ok n a0 _ h1) (by repeat (first | exact leL_refl _ | refine leL_cons (by first | exact leT_refl _ | exact leT_virt | exact leT_junk _ | exact leT_sl | exact leT_sln | exact leT_nil | (refine leT_agg (by repeat (first | exact leL_refl _ | refine leL_cons (by first | exact leT_refl _ | exact leT_sl | exact leT_sln | exact leT_nil) ?_)))) ?_)) ?_
  try simp -implicitDefEqProofs (maxSteps := 4000000) (disch := first | omega | decide | (simp only [go_sem]; omega)) only [go_sem, ↓reduceIte]
  repeat (with_reducible refine And.intro (by first | assumption | omega | (simp; done) | (simp; omega)) ?_)
  refine toEnd hC ?_
  refine endX_seq ?_
  refine runX_seq ?_
  refine runX_regionC fun C hC => ?_
  obtain ⟨v2, h2, h⟩ := bnd_some h
  try simp -implicitDefEqProofs (maxSteps := 4000000) (disch := first | omega | decide | (simp only [go_sem]; omega)) only [go_sem, ↓reduceIte]
  repeat (with_reducible refine And.intro (by first | assumption | omega | (simp; done) | (simp; omega)) ?_)
  refine callG_X (by first | rfl | (simp only [go_sem]; done) | (simp only [closedL, closedT, Bool.and_true]; exact closedL_map _ (fun _ => by first | rfl | (simp only [go_sem]; done)) _)) (F45_ok n a1 _ h2) (by repeat (first | exact leL_refl _ | refine leL_cons (by first | exact leT_refl _ | exact leT_virt | exact leT_junk _ | exact leT_sl | exact leT_sln | exact leT_nil | (refine leT_agg (by repeat (first | exact leL_refl _ | refine leL_cons (by first | exact leT_refl _ | exact leT_sl | exact leT_sln | exact leT_nil) ?_)))) ?_)) ?_
  obtain ⟨g3, h⟩ := grd_some h
  have e4 : List.drop v2.length ([.imm (.int .u8 (0 : Int)), .imm (.int .u8 (0 : Int)), .imm (.int .u8 (0 : Int)), .imm (.int .u8 (0 : Int)), .imm (.int .u8 (0 : Int)), .imm (.int .u8 (0 : Int)), .imm (.int .u8 (0 : Int)), .imm (.int .u8 (0 : Int)), .imm (.int .u8 (0 : Int)), .imm (.int .u8 (0 : Int)), .imm (.int .u8 (0 : Int)), .imm (.int .u8 (0 : Int)), .imm (.int .u8 (0 : Int)), .imm (.int .u8 (0 : Int)), .imm (.int .u8 (0 : Int)), .imm (.int .u8 (0 : Int))] : List T) = [] := drop_all (by first | (simp only [List.length_cons, List.length_nil]; omega) | (simp; omega))
  try simp -implicitDefEqProofs (maxSteps := 4000000) (disch := first | omega | decide | (simp only [go_sem]; omega)) only [go_sem, ↓reduceIte, e4]
  repeat (with_reducible refine And.intro (by first | assumption | omega | (simp; done) | (simp; omega)) ?_)
  refine toEnd hC ?_
  refine endX_seq ?_
  refine runX_seq ?_
  refine runX_le (leS_pp 0 70 (.agg (List.map byteT v2)) false rfl (fun E u h => Rep.close _ _ _ (by first | rfl | (simp only [closedT]; exact closedL_map _ (fun _ => by first | rfl | (simp only [go_sem]; done)) _)) h)) ?_
  simp -implicitDefEqProofs (config := { decide := true }) only [ppL, ppT, ppO, ppL_s, Own.pp, List.set_cons_zero, List.set_cons_succ, List.map_cons, List.map_nil, Option.map_some, Option.map_none, Nat.reduceMul, Nat.reduceAdd, ↓reduceIte]
  refine runX_drawC mixed (by kernel_rfl) fun C hC => ?_
  try simp -implicitDefEqProofs (maxSteps := 4000000) (disch := first | omega | decide | (simp only [go_sem]; omega)) only [go_sem, ↓reduceIte]
  repeat (with_reducible refine And.intro (by first | assumption | omega | (simp; done) | (simp; omega)) ?_)
  rcases iteB_some h with ⟨c5, h⟩ | ⟨c5, h⟩
  ·refine guardD_T c5 ?_
   obtain ⟨g6, h⟩ := grd_some h
   try simp -implicitDefEqProofs (maxSteps := 4000000) (disch := first | omega | decide | (simp only [go_sem]; omega)) only [go_sem, ↓reduceIte]
   repeat (with_reducible refine And.intro (by first | assumption | omega | (simp; done) | (simp; omega)) ?_)
   refine toEnd hC ?_
   refine endX_seq ?_
   refine runX_ret ?_
   refine endX_q ?_
   obtain rfl := Option.some.inj h
   show RetW _ _ _ _ _
   simp only [RetW]
   (try simp -implicitDefEqProofs (maxSteps := 4000000) (disch := first | omega | decide | (simp only [go_sem]; omega)) only [go_sem, ↓reduceIte])
   (try simp (disch := omega) only [if_pos, Nat.sub_zero])
   exact leT_refl _
  ·refine guardD_F c5 ?_
   try simp -implicitDefEqProofs (maxSteps := 4000000) (disch := first | omega | decide | (simp only [go_sem]; omega)) only [go_sem, ↓reduceIte]
   repeat (with_reducible refine And.intro (by first | assumption | omega | (simp; done) | (simp; omega)) ?_)
   refine toEnd hC ?_
   refine endX_seq ?_
   refine runX_ret ?_
   refine endX_q ?_
   obtain rfl := Option.some.inj h
   show RetW _ _ _ _ _
   simp only [RetW]
   (try simp -implicitDefEqProofs (maxSteps := 4000000) (disch := first | omega | decide | (simp only [go_sem]; omega)) only [go_sem, ↓reduceIte])
   (try simp (disch := omega) only [if_pos, Nat.sub_zero])
   exact leT_refl _
end Go.Proofs.YtaiapalhdejngaaX

set_option linter.unusedVariables false
set_option linter.unusedSimpArgs false
namespace Go.Proofs.YtaiapalhdejngaaX
open Go Go.RowKit Go.Proofs
set_option maxRecDepth 100000
attribute [local go_sem ↓] stepsK_build stepsK_bs appendS
attribute [local go_sem] String.reduceEq String.reduceNe reduceCtorEq Int.reduceEq Nat.reduceAdd Nat.reduceSub Nat.reduceMul Nat.reduceLT Nat.reduceLeDiff Nat.reduceEqDiff Nat.reduceBEq Int.reduceToNat Int.reduceLT Int.reduceLE Int.reduceGT Int.reduceGE Int.reduceAdd Int.reduceSub Int.reduceMul Int.reduceNeg Int.reduceBEq Int.reduceBNe Int.reducePow Int.reduceDiv Int.reduceMod Int.reduceTDiv Int.reduceTMod Int.reduceNatCast
/-! ### shadowboxref13.Sign -/
def F104 (n : Nat) (a0 : Int) : Option (Int) := iteB (decide (a0 < (0 : Int))) (some (0 : Int)) (iteB (decide ((63 : Int) < a0)) (some (0 : Int)) (grd (0 ≤ a0 ∧ a0 < (64 : Int)) (some (((65 :: 66 :: 67 :: 68 :: 69 :: 70 :: 71 :: 72 :: 73 :: 74 :: 75 :: 76 :: 77 :: 78 :: 79 :: 80 :: 81 :: 82 :: 83 :: 84 :: 85 :: 86 :: 87 :: 88 :: 89 :: 90 :: 97 :: 98 :: 99 :: 100 :: 101 :: 102 :: 103 :: 104 :: 105 :: 106 :: 107 :: 108 :: 109 :: 110 :: 111 :: 112 :: 113 :: 114 :: 115 :: 116 :: 117 :: 118 :: 119 :: 120 :: 121 :: 122 :: 48 :: 49 :: 50 :: 51 :: 52 :: 53 :: 54 :: 55 :: 56 :: 57 :: 43 :: 47 :: ([] : List UInt8)).getD a0.toNat 0).toNat : Int))))
set_option maxHeartbeats 4000000 in
theorem F104_ok : ∀ (n : Nat) (a0 : Int) (r : Int), F104 n a0 = some r → FnC Try.prog 104 [.imm (.int .i64 a0)] (.imm (.int .u8 r))
 | n, a0, r, h => by
  unfold F104 at h
  refine FnC.goX mixed Try.func104 (by kernel_rfl) rfl ?_
  simp only [Try.ntmps104, List.length_cons, List.length_nil, List.replicate, List.cons_append, List.nil_append, Nat.reduceAdd, Nat.reduceSub]
  refine runX_seq ?_
  refine runX_regionC fun C hC => ?_
  try simp -implicitDefEqProofs (maxSteps := 4000000) (disch := first | omega | decide | (simp only [go_sem]; omega)) only [go_sem, ↓reduceIte]
  repeat (with_reducible refine And.intro (by first | assumption | omega | (simp; done) | (simp; omega)) ?_)
  refine toEnd hC ?_
  refine endX_seq ?_
  refine runX_seq ?_
  refine runX_seq ?_
  refine runX_regionC fun C hC => ?_
  try simp -implicitDefEqProofs (maxSteps := 4000000) (disch := first | omega | decide | (simp only [go_sem]; omega)) only [go_sem, ↓reduceIte]
  repeat (with_reducible refine And.intro (by first | assumption | omega | (simp; done) | (simp; omega)) ?_)
  rcases iteB_some h with ⟨c1, h⟩ | ⟨c1, h⟩
  ·refine guardK_F c1 ?_
   try simp -implicitDefEqProofs (maxSteps := 4000000) (disch := first | omega | decide | (simp only [go_sem]; omega)) only [go_sem, ↓reduceIte]
   repeat (with_reducible refine And.intro (by first | assumption | omega | (simp; done) | (simp; omega)) ?_)
   refine toEnd hC ?_
   refine endX_seq ?_
   refine runX_condT rfl rfl ?_
   refine runX_seq ?_
   refine runX_regionC fun C hC => ?_
   try simp -implicitDefEqProofs (maxSteps := 4000000) (disch := first | omega | decide | (simp only [go_sem]; omega)) only [go_sem, ↓reduceIte]
   repeat (with_reducible refine And.intro (by first | assumption | omega | (simp; done) | (simp; omega)) ?_)
   refine toEnd hC ?_
   refine endX_seq ?_
   refine runX_ret ?_
   refine endX_seqR ?_
   refine endX_q ?_
   obtain rfl := Option.some.inj h
   show RetW _ _ _ _ _
   simp only [RetW]
   (try simp -implicitDefEqProofs (maxSteps := 4000000) (disch := first | omega | decide | (simp only [go_sem]; omega)) only [go_sem, ↓reduceIte])
   (try simp (disch := omega) only [if_pos, Nat.sub_zero])
   exact leT_refl _
  ·refine guardK_T c1 ?_
   try simp -implicitDefEqProofs (maxSteps := 4000000) (disch := first | omega | decide | (simp only [go_sem]; omega)) only [go_sem, ↓reduceIte]
   repeat (with_reducible refine And.intro (by first | assumption | omega | (simp; done) | (simp; omega)) ?_)
   refine toEnd hC ?_
   refine endX_seq ?_
   rcases iteB_some h with ⟨c2, h⟩ | ⟨c2, h⟩
   ·refine runX_condT rfl c2 ?_
    refine runX_seq ?_
    refine runX_regionC fun C hC => ?_
    try simp -implicitDefEqProofs (maxSteps := 4000000) (disch := first | omega | decide | (simp only [go_sem]; omega)) only [go_sem, ↓reduceIte]
    repeat (with_reducible refine And.intro (by first | assumption | omega | (simp; done) | (simp; omega)) ?_)
    refine toEnd hC ?_
    refine endX_seq ?_
    refine runX_ret ?_
    refine endX_seqR ?_
    refine endX_q ?_
    obtain rfl := Option.some.inj h
    show RetW _ _ _ _ _
    simp only [RetW]
    (try simp -implicitDefEqProofs (maxSteps := 4000000) (disch := first | omega | decide | (simp only [go_sem]; omega)) only [go_sem, ↓reduceIte])
    (try simp (disch := omega) only [if_pos, Nat.sub_zero])
    exact leT_refl _
   ·refine runX_condF rfl c2 ?_
    refine runX_skip ?_
    refine endX_seq ?_
    refine runX_seq ?_
    refine runX_regionC fun C hC => ?_
    obtain ⟨g3, h⟩ := grd_some h
    try simp -implicitDefEqProofs (maxSteps := 4000000) (disch := first | omega | decide | (simp only [go_sem]; omega)) only [go_sem, ↓reduceIte]
    repeat (with_reducible refine And.intro (by first | assumption | omega | (simp; done) | (simp; omega)) ?_)
    refine toEnd hC ?_
    refine endX_seq ?_
    refine runX_ret ?_
    refine endX_q ?_
    obtain rfl := Option.some.inj h
    show RetW _ _ _ _ _
    simp only [RetW]
    (try simp -implicitDefEqProofs (maxSteps := 4000000) (disch := first | omega | decide | (simp only [go_sem]; omega)) only [go_sem, ↓reduceIte])
    (try simp (disch := omega) only [if_pos, Nat.sub_zero])
    exact leT_refl _
end Go.Proofs.YtaiapalhdejngaaX

set_option linter.unusedVariables false
set_option linter.unusedSimpArgs false
namespace Go.Proofs.YtaiapalhdejngaaX
open Go Go.RowKit Go.Proofs
set_option maxRecDepth 100000
attribute [local go_sem ↓] stepsK_build stepsK_bs appendS
attribute [local go_sem] String.reduceEq String.reduceNe reduceCtorEq Int.reduceEq Nat.reduceAdd Nat.reduceSub Nat.reduceMul Nat.reduceLT Nat.reduceLeDiff Nat.reduceEqDiff Nat.reduceBEq Int.reduceToNat Int.reduceLT Int.reduceLE Int.reduceGT Int.reduceGE Int.reduceAdd Int.reduceSub Int.reduceMul Int.reduceNeg Int.reduceBEq Int.reduceBNe Int.reducePow Int.reduceDiv Int.reduceMod Int.reduceTDiv Int.reduceTMod Int.reduceNatCast
/-! ### shadowboxref13.Encode -/
def F80_S4 (a0 : List (Int)) (x2 : List (Int)) (x1 : Int) (x18 : List (Int)) : St := ⟨[.sl 1 false (List.map byteT a0), .junk, .junk, .rsl 0 1 0 x2.length, .imm (.int .i64 x1), .junk, .rsl 1 1 0 x18.length, .junk, .junk, .junk, .junk, .junk, .junk, .junk, .junk, .junk, .junk, .junk, .junk, .junk, .junk, .junk, .junk, .junk, .junk, .junk, .junk, .junk, .junk, .junk, .junk, .junk, .junk, .junk, .junk, .junk, .junk, .junk, .junk, .junk, .junk, .junk, .junk, .junk, .junk, .junk, .junk, .junk, .junk, .junk, .junk, .junk, .junk, .junk, .junk, .junk, .junk, .junk, .junk, .junk, .junk, .junk, .junk, .junk, .junk, .junk, .junk, .junk, .junk, .junk, .junk, .junk, .junk, .junk, .junk, .junk, .junk, .junk, .junk, .junk], [some (.buf 5 1 (List.map byteT x2) 0), some (.buf 5 1 (List.map byteT x18) 0)]⟩
def F80_S3 (a0 : List (Int)) (x2 : List (Int)) (x1 : Int) (x10 : Int) : St := ⟨[.sl 1 false (List.map byteT a0), .junk, .junk, .rsl 0 1 0 x2.length, .imm (.int .i64 x1), .imm (.int .i64 x10), .junk, .junk, .junk, .junk, .junk, .junk, .junk, .junk, .junk, .junk, .junk, .junk, .junk, .junk, .junk, .junk, .junk, .junk, .junk, .junk, .junk, .junk, .junk, .junk, .junk, .junk, .junk, .junk, .junk, .junk, .junk, .junk, .junk, .junk, .junk, .junk, .junk, .junk, .junk, .junk, .junk, .junk, .junk, .junk, .junk, .junk, .junk, .junk, .junk, .junk, .junk, .junk, .junk, .junk, .junk, .junk, .junk, .junk, .junk, .junk, .junk, .junk, .junk, .junk, .junk, .junk, .junk, .junk, .junk, .junk, .junk, .junk, .junk, .junk], [some (.buf 5 1 (List.map byteT x2) 0)]⟩
def F80_S2 (a0 : List (Int)) (x2 : List (Int)) (x1 : Int) (x7 : Int) : St := ⟨[.sl 1 false (List.map byteT a0), .junk, .junk, .rsl 0 1 0 x2.length, .imm (.int .i64 x1), .imm (.int .i64 x7), .junk, .junk, .junk, .junk, .junk, .junk, .junk, .junk, .junk, .junk, .junk, .junk, .junk, .junk, .junk, .junk, .junk, .junk, .junk, .junk, .junk, .junk, .junk, .junk, .junk, .junk, .junk, .junk, .junk, .junk, .junk, .junk, .junk, .junk, .junk, .junk, .junk, .junk, .junk, .junk, .junk, .junk, .junk, .junk, .junk, .junk, .junk, .junk, .junk, .junk, .junk, .junk, .junk, .junk, .junk, .junk, .junk, .junk, .junk, .junk, .junk, .junk, .junk, .junk, .junk, .junk, .junk, .junk, .junk, .junk, .junk, .junk, .junk, .junk], [some (.buf 5 1 (List.map byteT x2) 0)]⟩
def F80_S1 (a0 : List (Int)) (x1 : Int) (x2 : List (Int)) : St := ⟨[.sl 1 false (List.map byteT a0), .junk, .junk, .rsl 0 1 0 x2.length, .imm (.int .i64 x1), .junk, .junk, .junk, .junk, .junk, .junk, .junk, .junk, .junk, .junk, .junk, .junk, .junk, .junk, .junk, .junk, .junk, .junk, .junk, .junk, .junk, .junk, .junk, .junk, .junk, .junk, .junk, .junk, .junk, .junk, .junk, .junk, .junk, .junk, .junk, .junk, .junk, .junk, .junk, .junk, .junk, .junk, .junk, .junk, .junk, .junk, .junk, .junk, .junk, .junk, .junk, .junk, .junk, .junk, .junk, .junk, .junk, .junk, .junk, .junk, .junk, .junk, .junk, .junk, .junk, .junk, .junk, .junk, .junk, .junk, .junk, .junk, .junk, .junk, .junk], [some (.buf 5 1 (List.map byteT x2) 0)]⟩
mutual
def F80_J4 (m1 : Nat) (a0 : List (Int)) (x2 : List (Int)) (x1 : Int) (x18 : List (Int)) : Option (List UInt8) := iteB (decide ((a0.length : Int) ≤ (IntKind.wrap .i64 (x1 + (2 : Int))))) (grd ((3 : Int) < (x18.length : Int)) (grd ((3 : Int).toNat < x18.length) (grd ((x2.length + x18.length) ≤ 549755813888) (F80_L1 m1 a0 (IntKind.wrap .i64 (x1 + (3 : Int))) (x2 ++ (List.set x18 ((3 : Int).toNat) (61 : Int))))))) (grd ((x2.length + x18.length) ≤ 549755813888) (F80_L1 m1 a0 (IntKind.wrap .i64 (x1 + (3 : Int))) (x2 ++ x18)))
termination_by (m1, 1)
decreasing_by all_goals first | exact Prod.Lex.left _ _ (Nat.lt_succ_self _) | exact Prod.Lex.right _ (by decide)
def F80_J3 (m1 : Nat) (a0 : List (Int)) (x2 : List (Int)) (x1 : Int) (x10 : Int) : Option (List UInt8) := (F104 m1 (IntKind.wrap .i64 (x10.tdiv (262144 : Int)))).bind fun v11 => (F104 m1 ((IntKind.wrap .i64 (x10.tdiv (4096 : Int))).tmod (64 : Int))).bind fun v12 => (F104 m1 ((IntKind.wrap .i64 (x10.tdiv (64 : Int))).tmod (64 : Int))).bind fun v13 => (F104 m1 (x10.tmod (64 : Int))).bind fun v14 => iteB (decide ((a0.length : Int) ≤ (IntKind.wrap .i64 (x1 + (1 : Int))))) (grd ((2 : Int) < (4 : Int)) (grd ((2 : Int).toNat < 4) (F80_J4 m1 a0 x2 x1 (List.set [v11, v12, v13, v14] ((2 : Int).toNat) (61 : Int))))) (F80_J4 m1 a0 x2 x1 [v11, v12, v13, v14])
termination_by (m1, 2)
decreasing_by all_goals first | exact Prod.Lex.left _ _ (Nat.lt_succ_self _) | exact Prod.Lex.right _ (by decide)
def F80_J2 (m1 : Nat) (a0 : List (Int)) (x2 : List (Int)) (x1 : Int) (x7 : Int) : Option (List UInt8) := iteB (decide ((IntKind.wrap .i64 (x1 + (2 : Int))) < (a0.length : Int))) (grd (0 ≤ (IntKind.wrap .i64 (x1 + (2 : Int))) ∧ (IntKind.wrap .i64 (x1 + (2 : Int))) < (a0.length : Int)) (F80_J3 m1 a0 x2 x1 (IntKind.wrap .i64 (x7 + (IntKind.wrap .i64 ((a0.getD (IntKind.wrap .i64 (x1 + (2 : Int))).toNat default))))))) (F80_J3 m1 a0 x2 x1 x7)
termination_by (m1, 3)
decreasing_by all_goals first | exact Prod.Lex.left _ _ (Nat.lt_succ_self _) | exact Prod.Lex.right _ (by decide)
def F80_L1 : Nat → (List (Int)) → (Int) → (List (Int)) → Option (List UInt8)
 | 0, _, _, _ => none
 | m1 + 1, a0, x1, x2 => iteB (decide (x1 < (a0.length : Int))) (grd (0 ≤ x1 ∧ x1 < (a0.length : Int)) (iteB (decide ((IntKind.wrap .i64 (x1 + (1 : Int))) < (a0.length : Int))) (grd (0 ≤ (IntKind.wrap .i64 (x1 + (1 : Int))) ∧ (IntKind.wrap .i64 (x1 + (1 : Int))) < (a0.length : Int)) (F80_J2 m1 a0 x2 x1 (IntKind.wrap .i64 ((IntKind.wrap .i64 ((IntKind.wrap .i64 ((a0.getD x1.toNat default))) * (65536 : Int))) + (IntKind.wrap .i64 ((IntKind.wrap .i64 ((a0.getD (IntKind.wrap .i64 (x1 + (1 : Int))).toNat default))) * (256 : Int))))))) (F80_J2 m1 a0 x2 x1 (IntKind.wrap .i64 ((IntKind.wrap .i64 ((a0.getD x1.toNat default))) * (65536 : Int)))))) (some (x2.map toB))
termination_by m _ _ _ => (m, 0)
decreasing_by all_goals first | exact Prod.Lex.left _ _ (Nat.lt_succ_self _) | exact Prod.Lex.right _ (by decide)
end
def F80 (n : Nat) (a0 : List (Int)) : Option (List UInt8) := F80_L1 n a0 (0 : Int) []
set_option maxHeartbeats 4000000 in
theorem F80_ok : ∀ (n : Nat) (a0 : List (Int)) (r : List UInt8), F80 n a0 = some r → FnC Try.prog 80 [.sl 1 false (List.map byteT a0)] (.imm (.string (bs r)))
 | n, a0, r, h => by
  unfold F80 at h
  refine FnC.goX mixed Try.func80 (by kernel_rfl) rfl ?_
  simp only [Try.ntmps80, List.length_cons, List.length_nil, List.replicate, List.cons_append, List.nil_append, Nat.reduceAdd, Nat.reduceSub]
  refine runX_seq ?_
  refine runX_regionC fun C hC => ?_
  try simp -implicitDefEqProofs (disch := omega) only [go_sem, ↓reduceIte]
  refine toEnd hC ?_
  refine endX_seq ?_
  refine runX_seq ?_
  refine runX_regionC fun C hC => ?_
  try simp -implicitDefEqProofs (disch := omega) only [go_sem, ↓reduceIte]
  refine toEnd hC ?_
  refine endX_seq ?_
  refine runX_seq ?_
  refine runX_seq ?_
  refine runX_regionC fun C hC => ?_
  try simp -implicitDefEqProofs (disch := omega) only [go_sem, ↓reduceIte]
  refine toEnd hC ?_
  refine endX_seq ?_
  refine runX_block ?_
  refine runX_loop [0, 3, 4] (fun m S => ∃ (x1 : Int) (x2 : List (Int)), S = F80_S1 a0 x1 x2 ∧ m ≤ n ∧ F80_L1 m a0 x1 x2 = some r) n ⟨F80_S1 a0 (0 : Int) [], ?_, (0 : Int), [], rfl, Nat.le_refl _, h⟩ ?_
  ·(try simp -implicitDefEqProofs (disch := omega) only [go_sem, ↓reduceIte])
   simp only [F80_S1]
   refine leS_trans (leS_pad _ _ 1) ?_
   simp only [List.replicate, List.cons_append, List.nil_append]
   refine leS_virt 0 5 1 rfl ?_ ?_ rfl
   ·repeat (first | exact leL_refl _ | refine leL_cons (by first | exact leT_refl _ | exact leT_virt | exact leT_junk _ | exact leT_sl | exact leT_sln | exact leT_nil | (refine leT_agg (by repeat (first | exact leL_refl _ | refine leL_cons (by first | exact leT_refl _ | exact leT_sl | exact leT_sln | exact leT_nil) ?_)))) ?_)
   ·repeat (first | exact leOs_refl _ | refine leOs.cons (by first | exact leO.same _ | (refine leO.box (leT_agg (by repeat (first | exact leL_refl _ | refine leL_cons (by first | exact leT_refl _ | exact leT_virt | exact leT_junk _ | exact leT_sl | exact leT_sln | exact leT_nil | (refine leT_agg (by repeat (first | exact leL_refl _ | refine leL_cons (by first | exact leT_refl _ | exact leT_sl | exact leT_sln | exact leT_nil) ?_)))) ?_))) rfl) | (refine leO.box (by first | exact leT_virt | exact leT_sl | exact leT_sln) rfl)) ?_)
  ·clear h
   rintro m1 S ⟨x1, x2, rfl, hm1, h⟩
   cases m1 with
   | zero => first | cases (show (none : Option _) = some _ from h) | (rw [F80_L1] at h; cases h)
   | succ m1 =>
    rw [F80_L1] at h
    simp only [F80_S1]
    refine runX_seq ?_
    refine runX_seq ?_
    refine runX_regionC fun C hC => ?_
    try simp -implicitDefEqProofs (maxSteps := 4000000) (disch := first | omega | decide | (simp only [go_sem]; omega)) only [go_sem, ↓reduceIte]
    repeat (with_reducible refine And.intro (by first | assumption | omega | (simp; done) | (simp; omega)) ?_)
    refine toEnd hC ?_
    refine endX_seq ?_
    rcases iteB_some h with ⟨c3, h⟩ | ⟨c3, h⟩
    ·refine runX_condT rfl c3 ?_
     refine runX_skip ?_
     refine endX_seq ?_
     refine runX_seq ?_
     refine runX_block ?_
     refine runX_seq ?_
     refine runX_regionC fun C hC => ?_
     obtain ⟨g4, h⟩ := grd_some h
     try simp -implicitDefEqProofs (maxSteps := 4000000) (disch := first | omega | decide | (simp only [go_sem]; omega)) only [go_sem, ↓reduceIte]
     repeat (with_reducible refine And.intro (by first | assumption | omega | (simp; done) | (simp; omega)) ?_)
     refine toEnd hC ?_
     refine endX_seq ?_
     refine runX_meet [0, 3, 4, 5] (fun S => ∃ (x7 : Int), S = F80_S2 a0 x2 x1 x7 ∧ F80_J2 m1 a0 x2 x1 x7 = some r) ?_ ?_
     ·refine runX_seq ?_
      refine runX_regionC fun C hC => ?_
      try simp -implicitDefEqProofs (disch := omega) only [go_sem, ↓reduceIte]
      refine toEnd hC ?_
      refine endX_seq ?_
      rcases iteB_some h with ⟨c5, h⟩ | ⟨c5, h⟩
      ·refine runX_condT rfl c5 ?_
       refine runX_regionC fun C hC => ?_
       obtain ⟨g6, h⟩ := grd_some h
       try simp -implicitDefEqProofs (maxSteps := 4000000) (disch := first | omega | decide | (simp only [go_sem]; omega)) only [go_sem, ↓reduceIte]
       repeat (with_reducible refine And.intro (by first | assumption | omega | (simp; done) | (simp; omega)) ?_)
       refine toEnd hC ?_
       refine endX_q (meetQ_normal ⟨F80_S2 a0 x2 x1 (IntKind.wrap .i64 ((IntKind.wrap .i64 ((IntKind.wrap .i64 ((a0.getD x1.toNat default))) * (65536 : Int))) + (IntKind.wrap .i64 ((IntKind.wrap .i64 ((a0.getD (IntKind.wrap .i64 (x1 + (1 : Int))).toNat default))) * (256 : Int))))), ?_, (IntKind.wrap .i64 ((IntKind.wrap .i64 ((IntKind.wrap .i64 ((a0.getD x1.toNat default))) * (65536 : Int))) + (IntKind.wrap .i64 ((IntKind.wrap .i64 ((a0.getD (IntKind.wrap .i64 (x1 + (1 : Int))).toNat default))) * (256 : Int))))), rfl, h⟩)
       simp only [F80_S2]
       (try simp -implicitDefEqProofs (disch := omega) only [go_sem, ↓reduceIte])
       exact leS_refl _
      ·refine runX_condF rfl c5 ?_
       refine runX_skip ?_
       refine endX_q (meetQ_normal ⟨F80_S2 a0 x2 x1 (IntKind.wrap .i64 ((IntKind.wrap .i64 ((a0.getD x1.toNat default))) * (65536 : Int))), ?_, (IntKind.wrap .i64 ((IntKind.wrap .i64 ((a0.getD x1.toNat default))) * (65536 : Int))), rfl, h⟩)
       simp only [F80_S2]
       (try simp -implicitDefEqProofs (disch := omega) only [go_sem, ↓reduceIte])
       exact leS_refl _
     ·clear h
      rintro S ⟨x7, rfl, h⟩
      rw [F80_J2] at h
      simp only [F80_S2]
      refine runX_meet [0, 3, 4, 5] (fun S => ∃ (x10 : Int), S = F80_S3 a0 x2 x1 x10 ∧ F80_J3 m1 a0 x2 x1 x10 = some r) ?_ ?_
      ·refine runX_seq ?_
       refine runX_regionC fun C hC => ?_
       try simp -implicitDefEqProofs (disch := omega) only [go_sem, ↓reduceIte]
       refine toEnd hC ?_
       refine endX_seq ?_
       rcases iteB_some h with ⟨c8, h⟩ | ⟨c8, h⟩
       ·refine runX_condT rfl c8 ?_
        refine runX_regionC fun C hC => ?_
        obtain ⟨g9, h⟩ := grd_some h
        try simp -implicitDefEqProofs (maxSteps := 4000000) (disch := first | omega | decide | (simp only [go_sem]; omega)) only [go_sem, ↓reduceIte]
        repeat (with_reducible refine And.intro (by first | assumption | omega | (simp; done) | (simp; omega)) ?_)
        refine toEnd hC ?_
        refine endX_q (meetQ_normal ⟨F80_S3 a0 x2 x1 (IntKind.wrap .i64 (x7 + (IntKind.wrap .i64 ((a0.getD (IntKind.wrap .i64 (x1 + (2 : Int))).toNat default))))), ?_, (IntKind.wrap .i64 (x7 + (IntKind.wrap .i64 ((a0.getD (IntKind.wrap .i64 (x1 + (2 : Int))).toNat default))))), rfl, h⟩)
        simp only [F80_S3]
        (try simp -implicitDefEqProofs (disch := omega) only [go_sem, ↓reduceIte])
        exact leS_refl _
       ·refine runX_condF rfl c8 ?_
        refine runX_skip ?_
        refine endX_q (meetQ_normal ⟨F80_S3 a0 x2 x1 x7, ?_, x7, rfl, h⟩)
        simp only [F80_S3]
        (try simp -implicitDefEqProofs (disch := omega) only [go_sem, ↓reduceIte])
        exact leS_refl _
      ·clear h
       rintro S ⟨x10, rfl, h⟩
       rw [F80_J3] at h
       simp only [F80_S3]
       refine runX_seq ?_
       refine runX_regionC fun C hC => ?_
       obtain ⟨v11, h11, h⟩ := bnd_some h
       try simp -implicitDefEqProofs (maxSteps := 4000000) (disch := first | omega | decide | (simp only [go_sem]; omega)) only [go_sem, ↓reduceIte]
       repeat (with_reducible refine And.intro (by first | assumption | omega | (simp; done) | (simp; omega)) ?_)
       refine callG_X (by first | rfl | (simp only [go_sem]; done) | (simp only [closedL, closedT, Bool.and_true]; exact closedL_map _ (fun _ => by first | rfl | (simp only [go_sem]; done)) _)) (F104_ok m1 (IntKind.wrap .i64 (x10.tdiv (262144 : Int))) _ h11) (by repeat (first | exact leL_refl _ | refine leL_cons (by first | exact leT_refl _ | exact leT_virt | exact leT_junk _ | exact leT_sl | exact leT_sln | exact leT_nil | (refine leT_agg (by repeat (first | exact leL_refl _ | refine leL_cons (by first | exact leT_refl _ | exact leT_sl | exact leT_sln | exact leT_nil) ?_)))) ?_)) ?_
       obtain ⟨v12, h12, h⟩ := bnd_some h
       try simp -implicitDefEqProofs (maxSteps := 4000000) (disch := first | omega | decide | (simp only [go_sem]; omega)) only [go_sem, ↓reduceIte]
       repeat (with_reducible refine And.intro (by first | assumption | omega | (simp; done) | (simp; omega)) ?_)
       refine callG_X (by first | rfl | (simp only [go_sem]; done) | (simp only [closedL, closedT, Bool.and_true]; exact closedL_map _ (fun _ => by first | rfl | (simp only [go_sem]; done)) _)) (F104_ok m1 ((IntKind.wrap .i64 (x10.tdiv (4096 : Int))).tmod (64 : Int)) _ h12) (by repeat (first | exact leL_refl _ | refine leL_cons (by first | exact leT_refl _ | exact leT_virt | exact leT_junk _ | exact leT_sl | exact leT_sln | exact leT_nil | (refine leT_agg (by repeat (first | exact leL_refl _ | refine leL_cons (by first | exact leT_refl _ | exact leT_sl | exact leT_sln | exact leT_nil) ?_)))) ?_)) ?_
       obtain ⟨v13, h13, h⟩ := bnd_some h
       try simp -implicitDefEqProofs (maxSteps := 4000000) (disch := first | omega | decide | (simp only [go_sem]; omega)) only [go_sem, ↓reduceIte]
       repeat (with_reducible refine And.intro (by first | assumption | omega | (simp; done) | (simp; omega)) ?_)
       refine callG_X (by first | rfl | (simp only [go_sem]; done) | (simp only [closedL, closedT, Bool.and_true]; exact closedL_map _ (fun _ => by first | rfl | (simp only [go_sem]; done)) _)) (F104_ok m1 ((IntKind.wrap .i64 (x10.tdiv (64 : Int))).tmod (64 : Int)) _ h13) (by repeat (first | exact leL_refl _ | refine leL_cons (by first | exact leT_refl _ | exact leT_virt | exact leT_junk _ | exact leT_sl | exact leT_sln | exact leT_nil | (refine leT_agg (by repeat (first | exact leL_refl _ | refine leL_cons (by first | exact leT_refl _ | exact leT_sl | exact leT_sln | exact leT_nil) ?_)))) ?_)) ?_
       obtain ⟨v14, h14, h⟩ := bnd_some h
       try simp -implicitDefEqProofs (maxSteps := 4000000) (disch := first | omega | decide | (simp only [go_sem]; omega)) only [go_sem, ↓reduceIte]
       repeat (with_reducible refine And.intro (by first | assumption | omega | (simp; done) | (simp; omega)) ?_)
       refine callG_X (by first | rfl | (simp only [go_sem]; done) | (simp only [closedL, closedT, Bool.and_true]; exact closedL_map _ (fun _ => by first | rfl | (simp only [go_sem]; done)) _)) (F104_ok m1 (x10.tmod (64 : Int)) _ h14) (by repeat (first | exact leL_refl _ | refine leL_cons (by first | exact leT_refl _ | exact leT_virt | exact leT_junk _ | exact leT_sl | exact leT_sln | exact leT_nil | (refine leT_agg (by repeat (first | exact leL_refl _ | refine leL_cons (by first | exact leT_refl _ | exact leT_sl | exact leT_sln | exact leT_nil) ?_)))) ?_)) ?_
       try simp -implicitDefEqProofs (maxSteps := 4000000) (disch := first | omega | decide | (simp only [go_sem]; omega)) only [go_sem, ↓reduceIte]
       repeat (with_reducible refine And.intro (by first | assumption | omega | (simp; done) | (simp; omega)) ?_)
       refine bs_go <| buildX_own 5 1 (List.map byteT ([v11, v12, v13, v14] : List (Int))) (by kernel_rfl) (by (try simp -implicitDefEqProofs (maxSteps := 4000000) (disch := first | omega | decide | (simp only [go_sem]; omega)) only [go_sem, ↓reduceIte]); first | done | rfl) ?_
       try simp -implicitDefEqProofs (maxSteps := 4000000) (disch := first | omega | decide | (simp only [go_sem]; omega)) only [go_sem, ↓reduceIte]
       repeat (with_reducible refine And.intro (by first | assumption | omega | (simp; done) | (simp; omega)) ?_)
       refine toEnd hC ?_
       refine endX_seq ?_
       refine runX_meet [0, 3, 4, 6] (fun S => ∃ (x18 : List (Int)), S = F80_S4 a0 x2 x1 x18 ∧ F80_J4 m1 a0 x2 x1 x18 = some r) ?_ ?_
       ·refine runX_seq ?_
        refine runX_regionC fun C hC => ?_
        try simp -implicitDefEqProofs (disch := omega) only [go_sem, ↓reduceIte]
        refine toEnd hC ?_
        refine endX_seq ?_
        rcases iteB_some h with ⟨c15, h⟩ | ⟨c15, h⟩
        ·refine runX_condT rfl c15 ?_
         refine runX_regionC fun C hC => ?_
         obtain ⟨g16, h⟩ := grd_some h
         obtain ⟨g17, h⟩ := grd_some h
         try simp -implicitDefEqProofs (disch := omega) only [go_sem, ↓reduceIte]
         refine toEnd hC ?_
         refine endX_q (meetQ_normal ⟨F80_S4 a0 x2 x1 (List.set [v11, v12, v13, v14] ((2 : Int).toNat) (61 : Int)), ?_, (List.set [v11, v12, v13, v14] ((2 : Int).toNat) (61 : Int)), rfl, h⟩)
         simp only [F80_S4]
         (try simp -implicitDefEqProofs (disch := omega) only [go_sem, ↓reduceIte])
         exact leS_refl _
        ·refine runX_condF rfl c15 ?_
         refine runX_skip ?_
         refine endX_q (meetQ_normal ⟨F80_S4 a0 x2 x1 [v11, v12, v13, v14], ?_, [v11, v12, v13, v14], rfl, h⟩)
         simp only [F80_S4]
         (try simp -implicitDefEqProofs (disch := omega) only [go_sem, ↓reduceIte])
         exact leS_refl _
       ·clear h
        rintro S ⟨x18, rfl, h⟩
        rw [F80_J4] at h
        simp only [F80_S4]
        refine runX_seq ?_
        refine runX_seq ?_
        refine runX_regionC fun C hC => ?_
        try simp -implicitDefEqProofs (disch := omega) only [go_sem, ↓reduceIte]
        refine toEnd hC ?_
        refine endX_seq ?_
        rcases iteB_some h with ⟨c19, h⟩ | ⟨c19, h⟩
        ·refine runX_condT rfl c19 ?_
         refine runX_regionC fun C hC => ?_
         obtain ⟨g20, h⟩ := grd_some h
         obtain ⟨g21, h⟩ := grd_some h
         try simp -implicitDefEqProofs (maxSteps := 4000000) (disch := first | omega | decide | (simp only [go_sem]; omega)) only [go_sem, ↓reduceIte]
         repeat (with_reducible refine And.intro (by first | assumption | omega | (simp; done) | (simp; omega)) ?_)
         refine toEnd hC ?_
         refine endX_seq ?_
         refine runX_regionC fun C hC => ?_
         obtain ⟨g22, h⟩ := grd_some h
         have e23 : List.take x18.length (List.set x18 ((3 : Int).toNat) (61 : Int)) = List.set x18 ((3 : Int).toNat) (61 : Int) := List.take_of_length_le (by simp)
         have e24 : List.take x18.length (List.set x18 (3) (61 : Int)) = List.set x18 (3) (61 : Int) := List.take_of_length_le (by simp)
         try simp -implicitDefEqProofs (maxSteps := 4000000) (disch := first | omega | decide | (simp only [go_sem]; omega)) only [go_sem, ↓reduceIte, e23, e24]
         repeat (with_reducible refine And.intro (by first | assumption | omega | (simp; done) | (simp; omega)) ?_)
         refine toEnd hC ?_
         refine endX_blk ?_
         refine endX_seq ?_
         refine runX_regionC fun C hC => ?_
         try simp -implicitDefEqProofs (disch := omega) only [go_sem, ↓reduceIte]
         refine toEnd hC ?_
         refine endX_q (roundQ_normal ⟨m1, by omega, F80_S1 a0 (IntKind.wrap .i64 (x1 + (3 : Int))) (x2 ++ (List.set x18 ((3 : Int).toNat) (61 : Int))), ?_, (IntKind.wrap .i64 (x1 + (3 : Int))), (x2 ++ (List.set x18 ((3 : Int).toNat) (61 : Int))), rfl, by omega, h⟩)
         simp only [F80_S1]
         (try simp -implicitDefEqProofs (maxSteps := 4000000) (disch := first | omega | decide | (simp only [go_sem]; omega)) only [go_sem, ↓reduceIte])
         exact leS_le (leL_refl _) (leOs_refl _)
        ·refine runX_condF rfl c19 ?_
         refine runX_skip ?_
         refine endX_seq ?_
         refine runX_regionC fun C hC => ?_
         obtain ⟨g25, h⟩ := grd_some h
         try simp -implicitDefEqProofs (maxSteps := 4000000) (disch := first | omega | decide | (simp only [go_sem]; omega)) only [go_sem, ↓reduceIte]
         repeat (with_reducible refine And.intro (by first | assumption | omega | (simp; done) | (simp; omega)) ?_)
         refine toEnd hC ?_
         refine endX_blk ?_
         refine endX_seq ?_
         refine runX_regionC fun C hC => ?_
         try simp -implicitDefEqProofs (disch := omega) only [go_sem, ↓reduceIte]
         refine toEnd hC ?_
         refine endX_q (roundQ_normal ⟨m1, by omega, F80_S1 a0 (IntKind.wrap .i64 (x1 + (3 : Int))) (x2 ++ x18), ?_, (IntKind.wrap .i64 (x1 + (3 : Int))), (x2 ++ x18), rfl, by omega, h⟩)
         simp only [F80_S1]
         (try simp -implicitDefEqProofs (disch := omega) only [go_sem, ↓reduceIte])
         exact leS_refl _
    ·refine runX_condF rfl c3 ?_
     refine runX_exit ?_
     refine endX_seqE ?_
     refine endX_q (roundQ_exit ?_)
     refine endX_blkE ?_
     refine endX_seq ?_
     refine runX_seq ?_
     refine runX_regionC fun C hC => ?_
     try simp -implicitDefEqProofs (disch := omega) only [go_sem, ↓reduceIte]
     refine toEnd hC ?_
     refine endX_seq ?_
     refine runX_ret ?_
     refine endX_q ?_
     obtain rfl := Option.some.inj h
     show RetW _ _ _ _ _
     simp only [RetW]
     (try simp -implicitDefEqProofs (disch := omega) only [go_sem, ↓reduceIte])
     (try simp (disch := omega) only [if_pos, Nat.sub_zero])
     exact leT_refl _
end Go.Proofs.YtaiapalhdejngaaX

set_option linter.unusedVariables false
set_option linter.unusedSimpArgs false
namespace Go.Proofs.YtaiapalhdejngaaX
open Go Go.RowKit Go.Proofs
set_option maxRecDepth 100000
attribute [local go_sem ↓] stepsK_build stepsK_bs appendS
attribute [local go_sem] String.reduceEq String.reduceNe reduceCtorEq Int.reduceEq Nat.reduceAdd Nat.reduceSub Nat.reduceMul Nat.reduceLT Nat.reduceLeDiff Nat.reduceEqDiff Nat.reduceBEq Int.reduceToNat Int.reduceLT Int.reduceLE Int.reduceGT Int.reduceGE Int.reduceAdd Int.reduceSub Int.reduceMul Int.reduceNeg Int.reduceBEq Int.reduceBNe Int.reducePow Int.reduceDiv Int.reduceMod Int.reduceTDiv Int.reduceTMod Int.reduceNatCast
/-! ### shadowboxref37.Given -/
def F44 (n : Nat) (a0 : List UInt8) (a1 : List (Int)) : Option (Bool) := (F77 n a1).bind fun v1 => grd (v1.length = 16) (grd (v1.length = 16) ((F80 n v1).bind fun v5 => some (a0 == v5)))
set_option maxHeartbeats 4000000 in
theorem F44_ok : ∀ (n : Nat) (a0 : List UInt8) (a1 : List (Int)) (r : Bool), F44 n a0 a1 = some r → FnC Try.prog 44 [.imm (.string (bs a0)), .sl 1 false (List.map byteT a1)] (.imm (.bool r))
 | n, a0, a1, r, h => by
  unfold F44 at h
  refine FnC.goX mixed Try.func44 (by kernel_rfl) rfl ?_
  simp only [Try.ntmps44, List.length_cons, List.length_nil, List.replicate, List.cons_append, List.nil_append, Nat.reduceAdd, Nat.reduceSub]
  refine runX_seq ?_
  refine runX_regionC fun C hC => ?_
  try simp -implicitDefEqProofs (maxSteps := 4000000) (disch := first | omega | decide | (simp only [go_sem]; omega)) only [go_sem, ↓reduceIte]
  repeat (with_reducible refine And.intro (by first | assumption | omega | (simp; done) | (simp; omega)) ?_)
  refine toEnd hC ?_
  refine endX_seq ?_
  refine runX_seq ?_
  refine runX_regionC fun C hC => ?_
  obtain ⟨v1, h1, h⟩ := bnd_some h
  try simp -implicitDefEqProofs (maxSteps := 4000000) (disch := first | omega | decide | (simp only [go_sem]; omega)) only [go_sem, ↓reduceIte]
  repeat (with_reducible refine And.intro (by first | assumption | omega | (simp; done) | (simp; omega)) ?_)
  refine callG_X (by first | rfl | (simp only [go_sem]; done) | (simp only [closedL, closedT, Bool.and_true]; exact closedL_map _ (fun _ => by first | rfl | (simp only [go_sem]; done)) _)) (F77_ok n a1 _ h1) (by repeat (first | exact leL_refl _ | refine leL_cons (by first | exact leT_refl _ | exact leT_virt | exact leT_junk _ | exact leT_sl | exact leT_sln | exact leT_nil | (refine leT_agg (by repeat (first | exact leL_refl _ | refine leL_cons (by first | exact leT_refl _ | exact leT_sl | exact leT_sln | exact leT_nil) ?_)))) ?_)) ?_
  obtain ⟨g2, h⟩ := grd_some h
  have e3 : List.drop v1.length ([.imm (.int .u8 (0 : Int)), .imm (.int .u8 (0 : Int)), .imm (.int .u8 (0 : Int)), .imm (.int .u8 (0 : Int)), .imm (.int .u8 (0 : Int)), .imm (.int .u8 (0 : Int)), .imm (.int .u8 (0 : Int)), .imm (.int .u8 (0 : Int)), .imm (.int .u8 (0 : Int)), .imm (.int .u8 (0 : Int)), .imm (.int .u8 (0 : Int)), .imm (.int .u8 (0 : Int)), .imm (.int .u8 (0 : Int)), .imm (.int .u8 (0 : Int)), .imm (.int .u8 (0 : Int)), .imm (.int .u8 (0 : Int))] : List T) = [] := drop_all (by first | (simp only [List.length_cons, List.length_nil]; omega) | (simp; omega))
  try simp -implicitDefEqProofs (maxSteps := 4000000) (disch := first | omega | decide | (simp only [go_sem]; omega)) only [go_sem, ↓reduceIte, e3]
  repeat (with_reducible refine And.intro (by first | assumption | omega | (simp; done) | (simp; omega)) ?_)
  refine toEnd hC ?_
  refine endX_seq ?_
  refine runX_seq ?_
  refine runX_le (leS_pp 0 70 (.agg (List.map byteT v1)) false rfl (fun E u h => Rep.close _ _ _ (by first | rfl | (simp only [closedT]; exact closedL_map _ (fun _ => by first | rfl | (simp only [go_sem]; done)) _)) h)) ?_
  simp -implicitDefEqProofs (config := { decide := true }) only [ppL, ppT, ppO, ppL_s, Own.pp, List.set_cons_zero, List.set_cons_succ, List.map_cons, List.map_nil, Option.map_some, Option.map_none, Nat.reduceMul, Nat.reduceAdd, ↓reduceIte]
  refine runX_regionC fun C hC => ?_
  obtain ⟨g4, h⟩ := grd_some h
  obtain ⟨v5, h5, h⟩ := bnd_some h
  try simp -implicitDefEqProofs (maxSteps := 4000000) (disch := first | omega | decide | (simp only [go_sem]; omega)) only [go_sem, ↓reduceIte]
  repeat (with_reducible refine And.intro (by first | assumption | omega | (simp; done) | (simp; omega)) ?_)
  refine callG_X (by first | rfl | (simp only [go_sem]; done) | (simp only [closedL, closedT, Bool.and_true]; exact closedL_map _ (fun _ => by first | rfl | (simp only [go_sem]; done)) _)) (F80_ok n v1 _ h5) (by repeat (first | exact leL_refl _ | refine leL_cons (by first | exact leT_refl _ | exact leT_virt | exact leT_junk _ | exact leT_sl | exact leT_sln | exact leT_nil | (refine leT_agg (by repeat (first | exact leL_refl _ | refine leL_cons (by first | exact leT_refl _ | exact leT_sl | exact leT_sln | exact leT_nil) ?_)))) ?_)) ?_
  try simp -implicitDefEqProofs (maxSteps := 4000000) (disch := first | omega | decide | (simp only [go_sem]; omega)) only [go_sem, ↓reduceIte]
  repeat (with_reducible refine And.intro (by first | assumption | omega | (simp; done) | (simp; omega)) ?_)
  refine toEnd hC ?_
  refine endX_seq ?_
  refine runX_ret ?_
  refine endX_q ?_
  obtain rfl := Option.some.inj h
  show RetW _ _ _ _ _
  simp only [RetW]
  (try simp -implicitDefEqProofs (maxSteps := 4000000) (disch := first | omega | decide | (simp only [go_sem]; omega)) only [go_sem, ↓reduceIte])
  (try simp (disch := omega) only [if_pos, Nat.sub_zero])
  exact leT_refl _
end Go.Proofs.YtaiapalhdejngaaX

set_option linter.unusedVariables false
set_option linter.unusedSimpArgs false
namespace Go.Proofs.YtaiapalhdejngaaX
open Go Go.RowKit Go.Proofs
set_option maxRecDepth 100000
attribute [local go_sem ↓] stepsK_build stepsK_bs appendS
attribute [local go_sem] String.reduceEq String.reduceNe reduceCtorEq Int.reduceEq Nat.reduceAdd Nat.reduceSub Nat.reduceMul Nat.reduceLT Nat.reduceLeDiff Nat.reduceEqDiff Nat.reduceBEq Int.reduceToNat Int.reduceLT Int.reduceLE Int.reduceGT Int.reduceGE Int.reduceAdd Int.reduceSub Int.reduceMul Int.reduceNeg Int.reduceBEq Int.reduceBNe Int.reducePow Int.reduceDiv Int.reduceMod Int.reduceTDiv Int.reduceTMod Int.reduceNatCast
/-! ### shadowboxlaw37.EtagTells -/
def F11 (n : Nat) (a0 : List (Int)) (a1 : List UInt8) : Option (Bool) := iteB (decide ((900 : Int) < (IntKind.wrap .i64 ((a0.length : Int) + (a1.length : Int))))) (some true) ((F37 n a1).bind fun v2 => (F38 n a1).bind fun v3 => (F39 n a0).bind fun v4 => (F40 n a0).bind fun v5 => iteB (v4 == v5) (iteB ((v2.1.map toB) == (v3.1.map toB)) (iteB (v2.2 == v3.2) ((F41 n a1).bind fun v9 => (F42 n a1).bind fun v10 => iteB (v9 == v10) ((F43 n a1 a0).bind fun v12 => (F44 n a1 a0).bind fun v13 => iteB (v12 == v13) ((F39 n [(97 : Int), (98 : Int), (99 : Int)]).bind fun v15 => some (v15 == (57 :: 48 :: 48 :: 49 :: 53 :: 48 :: 57 :: 56 :: 51 :: 99 :: 100 :: 50 :: 52 :: 102 :: 98 :: 48 :: 100 :: 54 :: 57 :: 54 :: 51 :: 102 :: 55 :: 100 :: 50 :: 56 :: 101 :: 49 :: 55 :: 102 :: 55 :: 50 :: ([] : List UInt8)))) (some false)) (some false)) (some false)) (some false)) (some false))
set_option maxHeartbeats 4000000 in
theorem F11_ok : ∀ (n : Nat) (a0 : List (Int)) (a1 : List UInt8) (r : Bool), F11 n a0 a1 = some r → FnC Try.prog 11 [.sl 1 false (List.map byteT a0), .imm (.string (bs a1))] (.imm (.bool r))
 | n, a0, a1, r, h => by
  unfold F11 at h
  refine FnC.goX mixed Try.func11 (by kernel_rfl) rfl ?_
  simp only [Try.ntmps11, List.length_cons, List.length_nil, List.replicate, List.cons_append, List.nil_append, Nat.reduceAdd, Nat.reduceSub]
  refine runX_seq ?_
  refine runX_regionC fun C hC => ?_
  try simp -implicitDefEqProofs (disch := omega) only [go_sem, ↓reduceIte]
  refine toEnd hC ?_
  refine endX_seq ?_
  refine runX_seq ?_
  refine runX_seq ?_
  refine runX_regionC fun C hC => ?_
  try simp -implicitDefEqProofs (disch := omega) only [go_sem, ↓reduceIte]
  refine toEnd hC ?_
  refine endX_seq ?_
  rcases iteB_some h with ⟨c1, h⟩ | ⟨c1, h⟩
  ·refine runX_condT rfl c1 ?_
   refine runX_seq ?_
   refine runX_regionC fun C hC => ?_
   try simp -implicitDefEqProofs (disch := omega) only [go_sem, ↓reduceIte]
   refine toEnd hC ?_
   refine endX_seq ?_
   refine runX_ret ?_
   refine endX_seqR ?_
   refine endX_q ?_
   obtain rfl := Option.some.inj h
   show RetW _ _ _ _ _
   simp only [RetW]
   (try simp -implicitDefEqProofs (maxSteps := 4000000) (disch := first | omega | decide | (simp only [go_sem]; omega)) only [go_sem, ↓reduceIte])
   (try simp (disch := omega) only [if_pos, Nat.sub_zero])
   exact leT_refl _
  ·refine runX_condF rfl c1 ?_
   refine runX_skip ?_
   refine endX_seq ?_
   refine runX_seq ?_
   refine runX_regionC fun C hC => ?_
   obtain ⟨v2, h2, h⟩ := bnd_some h
   try simp -implicitDefEqProofs (maxSteps := 4000000) (disch := first | omega | decide | (simp only [go_sem]; omega)) only [go_sem, ↓reduceIte]
   repeat (with_reducible refine And.intro (by first | assumption | omega | (simp; done) | (simp; omega)) ?_)
   refine callG_X (by first | rfl | (simp only [go_sem]; done) | (simp only [closedL, closedT, Bool.and_true]; exact closedL_map _ (fun _ => by first | rfl | (simp only [go_sem]; done)) _)) (F37_ok n a1 _ h2) (by repeat (first | exact leL_refl _ | refine leL_cons (by first | exact leT_refl _ | exact leT_virt | exact leT_junk _ | exact leT_sl | exact leT_sln | exact leT_nil | (refine leT_agg (by repeat (first | exact leL_refl _ | refine leL_cons (by first | exact leT_refl _ | exact leT_sl | exact leT_sln | exact leT_nil) ?_)))) ?_)) ?_
   try simp -implicitDefEqProofs (maxSteps := 4000000) (disch := first | omega | decide | (simp only [go_sem]; omega)) only [go_sem, ↓reduceIte]
   repeat (with_reducible refine And.intro (by first | assumption | omega | (simp; done) | (simp; omega)) ?_)
   refine toEnd hC ?_
   refine endX_seq ?_
   refine runX_seq ?_
   refine runX_regionC fun C hC => ?_
   obtain ⟨v3, h3, h⟩ := bnd_some h
   try simp -implicitDefEqProofs (maxSteps := 4000000) (disch := first | omega | decide | (simp only [go_sem]; omega)) only [go_sem, ↓reduceIte]
   repeat (with_reducible refine And.intro (by first | assumption | omega | (simp; done) | (simp; omega)) ?_)
   refine callG_X (by first | rfl | (simp only [go_sem]; done) | (simp only [closedL, closedT, Bool.and_true]; exact closedL_map _ (fun _ => by first | rfl | (simp only [go_sem]; done)) _)) (F38_ok n a1 _ h3) (by repeat (first | exact leL_refl _ | refine leL_cons (by first | exact leT_refl _ | exact leT_virt | exact leT_junk _ | exact leT_sl | exact leT_sln | exact leT_nil | (refine leT_agg (by repeat (first | exact leL_refl _ | refine leL_cons (by first | exact leT_refl _ | exact leT_sl | exact leT_sln | exact leT_nil) ?_)))) ?_)) ?_
   try simp -implicitDefEqProofs (maxSteps := 4000000) (disch := first | omega | decide | (simp only [go_sem]; omega)) only [go_sem, ↓reduceIte]
   repeat (with_reducible refine And.intro (by first | assumption | omega | (simp; done) | (simp; omega)) ?_)
   refine toEnd hC ?_
   refine endX_seq ?_
   refine runX_seq ?_
   refine runX_regionC fun C hC => ?_
   obtain ⟨v4, h4, h⟩ := bnd_some h
   try simp -implicitDefEqProofs (maxSteps := 4000000) (disch := first | omega | decide | (simp only [go_sem]; omega)) only [go_sem, ↓reduceIte]
   repeat (with_reducible refine And.intro (by first | assumption | omega | (simp; done) | (simp; omega)) ?_)
   refine callG_X (by first | rfl | (simp only [go_sem]; done) | (simp only [closedL, closedT, Bool.and_true]; exact closedL_map _ (fun _ => by first | rfl | (simp only [go_sem]; done)) _)) (F39_ok n a0 _ h4) (by repeat (first | exact leL_refl _ | refine leL_cons (by first | exact leT_refl _ | exact leT_virt | exact leT_junk _ | exact leT_sl | exact leT_sln | exact leT_nil | (refine leT_agg (by repeat (first | exact leL_refl _ | refine leL_cons (by first | exact leT_refl _ | exact leT_sl | exact leT_sln | exact leT_nil) ?_)))) ?_)) ?_
   obtain ⟨v5, h5, h⟩ := bnd_some h
   try simp -implicitDefEqProofs (maxSteps := 4000000) (disch := first | omega | decide | (simp only [go_sem]; omega)) only [go_sem, ↓reduceIte]
   repeat (with_reducible refine And.intro (by first | assumption | omega | (simp; done) | (simp; omega)) ?_)
   refine callG_X (by first | rfl | (simp only [go_sem]; done) | (simp only [closedL, closedT, Bool.and_true]; exact closedL_map _ (fun _ => by first | rfl | (simp only [go_sem]; done)) _)) (F40_ok n a0 _ h5) (by repeat (first | exact leL_refl _ | refine leL_cons (by first | exact leT_refl _ | exact leT_virt | exact leT_junk _ | exact leT_sl | exact leT_sln | exact leT_nil | (refine leT_agg (by repeat (first | exact leL_refl _ | refine leL_cons (by first | exact leT_refl _ | exact leT_sl | exact leT_sln | exact leT_nil) ?_)))) ?_)) ?_
   try simp -implicitDefEqProofs (maxSteps := 4000000) (disch := first | omega | decide | (simp only [go_sem]; omega)) only [go_sem, ↓reduceIte]
   repeat (with_reducible refine And.intro (by first | assumption | omega | (simp; done) | (simp; omega)) ?_)
   rcases iteB_some h with ⟨c6, h⟩ | ⟨c6, h⟩
   ·refine guardK_T c6 ?_
    try simp -implicitDefEqProofs (maxSteps := 4000000) (disch := first | omega | decide | (simp only [go_sem]; omega)) only [go_sem, ↓reduceIte]
    repeat (with_reducible refine And.intro (by first | assumption | omega | (simp; done) | (simp; omega)) ?_)
    rcases iteB_some h with ⟨c7, h⟩ | ⟨c7, h⟩
    ·refine guardK_T c7 ?_
     try simp -implicitDefEqProofs (maxSteps := 4000000) (disch := first | omega | decide | (simp only [go_sem]; omega)) only [go_sem, ↓reduceIte]
     repeat (with_reducible refine And.intro (by first | assumption | omega | (simp; done) | (simp; omega)) ?_)
     rcases iteB_some h with ⟨c8, h⟩ | ⟨c8, h⟩
     ·refine guardK_T c8 ?_
      obtain ⟨v9, h9, h⟩ := bnd_some h
      try simp -implicitDefEqProofs (maxSteps := 4000000) (disch := first | omega | decide | (simp only [go_sem]; omega)) only [go_sem, ↓reduceIte]
      repeat (with_reducible refine And.intro (by first | assumption | omega | (simp; done) | (simp; omega)) ?_)
      refine callG_X (by first | rfl | (simp only [go_sem]; done) | (simp only [closedL, closedT, Bool.and_true]; exact closedL_map _ (fun _ => by first | rfl | (simp only [go_sem]; done)) _)) (F41_ok n a1 _ h9) (by repeat (first | exact leL_refl _ | refine leL_cons (by first | exact leT_refl _ | exact leT_virt | exact leT_junk _ | exact leT_sl | exact leT_sln | exact leT_nil | (refine leT_agg (by repeat (first | exact leL_refl _ | refine leL_cons (by first | exact leT_refl _ | exact leT_sl | exact leT_sln | exact leT_nil) ?_)))) ?_)) ?_
      obtain ⟨v10, h10, h⟩ := bnd_some h
      try simp -implicitDefEqProofs (maxSteps := 4000000) (disch := first | omega | decide | (simp only [go_sem]; omega)) only [go_sem, ↓reduceIte]
      repeat (with_reducible refine And.intro (by first | assumption | omega | (simp; done) | (simp; omega)) ?_)
      refine callG_X (by first | rfl | (simp only [go_sem]; done) | (simp only [closedL, closedT, Bool.and_true]; exact closedL_map _ (fun _ => by first | rfl | (simp only [go_sem]; done)) _)) (F42_ok n a1 _ h10) (by repeat (first | exact leL_refl _ | refine leL_cons (by first | exact leT_refl _ | exact leT_virt | exact leT_junk _ | exact leT_sl | exact leT_sln | exact leT_nil | (refine leT_agg (by repeat (first | exact leL_refl _ | refine leL_cons (by first | exact leT_refl _ | exact leT_sl | exact leT_sln | exact leT_nil) ?_)))) ?_)) ?_
      try simp -implicitDefEqProofs (maxSteps := 4000000) (disch := first | omega | decide | (simp only [go_sem]; omega)) only [go_sem, ↓reduceIte]
      repeat (with_reducible refine And.intro (by first | assumption | omega | (simp; done) | (simp; omega)) ?_)
      rcases iteB_some h with ⟨c11, h⟩ | ⟨c11, h⟩
      ·refine guardK_T c11 ?_
       obtain ⟨v12, h12, h⟩ := bnd_some h
       try simp -implicitDefEqProofs (maxSteps := 4000000) (disch := first | omega | decide | (simp only [go_sem]; omega)) only [go_sem, ↓reduceIte]
       repeat (with_reducible refine And.intro (by first | assumption | omega | (simp; done) | (simp; omega)) ?_)
       refine callG_X (by first | rfl | (simp only [go_sem]; done) | (simp only [closedL, closedT, Bool.and_true]; exact closedL_map _ (fun _ => by first | rfl | (simp only [go_sem]; done)) _)) (F43_ok n a1 a0 _ h12) (by repeat (first | exact leL_refl _ | refine leL_cons (by first | exact leT_refl _ | exact leT_virt | exact leT_junk _ | exact leT_sl | exact leT_sln | exact leT_nil | (refine leT_agg (by repeat (first | exact leL_refl _ | refine leL_cons (by first | exact leT_refl _ | exact leT_sl | exact leT_sln | exact leT_nil) ?_)))) ?_)) ?_
       obtain ⟨v13, h13, h⟩ := bnd_some h
       try simp -implicitDefEqProofs (maxSteps := 4000000) (disch := first | omega | decide | (simp only [go_sem]; omega)) only [go_sem, ↓reduceIte]
       repeat (with_reducible refine And.intro (by first | assumption | omega | (simp; done) | (simp; omega)) ?_)
       refine callG_X (by first | rfl | (simp only [go_sem]; done) | (simp only [closedL, closedT, Bool.and_true]; exact closedL_map _ (fun _ => by first | rfl | (simp only [go_sem]; done)) _)) (F44_ok n a1 a0 _ h13) (by repeat (first | exact leL_refl _ | refine leL_cons (by first | exact leT_refl _ | exact leT_virt | exact leT_junk _ | exact leT_sl | exact leT_sln | exact leT_nil | (refine leT_agg (by repeat (first | exact leL_refl _ | refine leL_cons (by first | exact leT_refl _ | exact leT_sl | exact leT_sln | exact leT_nil) ?_)))) ?_)) ?_
       try simp -implicitDefEqProofs (maxSteps := 4000000) (disch := first | omega | decide | (simp only [go_sem]; omega)) only [go_sem, ↓reduceIte]
       repeat (with_reducible refine And.intro (by first | assumption | omega | (simp; done) | (simp; omega)) ?_)
       rcases iteB_some h with ⟨c14, h⟩ | ⟨c14, h⟩
       ·refine guardK_T c14 ?_
        try simp -implicitDefEqProofs (maxSteps := 4000000) (disch := first | omega | decide | (simp only [go_sem]; omega)) only [go_sem, ↓reduceIte]
        repeat (with_reducible refine And.intro (by first | assumption | omega | (simp; done) | (simp; omega)) ?_)
        refine bs_go <| buildX_lock 5 1 (List.map byteT ([(97 : Int), (98 : Int), (99 : Int)] : List (Int))) (by kernel_rfl) (by (try simp -implicitDefEqProofs (maxSteps := 4000000) (disch := first | omega | decide | (simp only [go_sem]; omega)) only [go_sem, ↓reduceIte]); first | done | rfl) ?_
        obtain ⟨v15, h15, h⟩ := bnd_some h
        try simp -implicitDefEqProofs (maxSteps := 4000000) (disch := first | omega | decide | (simp only [go_sem]; omega)) only [go_sem, ↓reduceIte]
        repeat (with_reducible refine And.intro (by first | assumption | omega | (simp; done) | (simp; omega)) ?_)
        refine callG_X (by first | rfl | (simp only [go_sem]; done) | (simp only [closedL, closedT, Bool.and_true]; exact closedL_map _ (fun _ => by first | rfl | (simp only [go_sem]; done)) _)) (F39_ok n [(97 : Int), (98 : Int), (99 : Int)] _ h15) (by repeat (first | exact leL_refl _ | refine leL_cons (by first | exact leT_refl _ | exact leT_sl | exact leT_sln | (refine leT_slX (by repeat (first | exact leE_refl _ | refine leE_cons (by first | exact leT_refl _ | exact leT_sl | (refine leT_agg (by repeat (first | exact leL_refl _ | refine leL_cons (by first | exact leT_refl _ | exact leT_sl | exact leT_sln) ?_)))) ?_)) rfl) | (refine leT_agg (by repeat (first | exact leL_refl _ | refine leL_cons (by first | exact leT_refl _ | exact leT_sl | exact leT_sln | (refine leT_slX (by repeat (first | exact leE_refl _ | refine leE_cons (by first | exact leT_refl _ | exact leT_sl | (refine leT_agg (by repeat (first | exact leL_refl _ | refine leL_cons (by first | exact leT_refl _ | exact leT_sl | exact leT_sln) ?_)))) ?_)) rfl)) ?_)))) ?_)) ?_
        try simp -implicitDefEqProofs (maxSteps := 4000000) (disch := first | omega | decide | (simp only [go_sem]; omega)) only [go_sem, ↓reduceIte]
        repeat (with_reducible refine And.intro (by first | assumption | omega | (simp; done) | (simp; omega)) ?_)
        refine toEnd hC ?_
        refine endX_seq ?_
        refine runX_ret ?_
        refine endX_q ?_
        obtain rfl := Option.some.inj h
        show RetW _ _ _ _ _
        simp only [RetW]
        (try simp -implicitDefEqProofs (disch := omega) only [go_sem, ↓reduceIte])
        (try simp (disch := omega) only [if_pos, Nat.sub_zero])
        exact leT_refl _
       ·refine guardK_F c14 ?_
        try simp -implicitDefEqProofs (disch := omega) only [go_sem, ↓reduceIte]
        refine toEnd hC ?_
        refine endX_seq ?_
        refine runX_ret ?_
        refine endX_q ?_
        obtain rfl := Option.some.inj h
        show RetW _ _ _ _ _
        simp only [RetW]
        (try simp -implicitDefEqProofs (disch := omega) only [go_sem, ↓reduceIte])
        (try simp (disch := omega) only [if_pos, Nat.sub_zero])
        exact leT_refl _
      ·refine guardK_F c11 ?_
       try simp -implicitDefEqProofs (disch := omega) only [go_sem, ↓reduceIte]
       refine toEnd hC ?_
       refine endX_seq ?_
       refine runX_ret ?_
       refine endX_q ?_
       obtain rfl := Option.some.inj h
       show RetW _ _ _ _ _
       simp only [RetW]
       (try simp -implicitDefEqProofs (disch := omega) only [go_sem, ↓reduceIte])
       (try simp (disch := omega) only [if_pos, Nat.sub_zero])
       exact leT_refl _
     ·refine guardK_F c8 ?_
      try simp -implicitDefEqProofs (disch := omega) only [go_sem, ↓reduceIte]
      refine toEnd hC ?_
      refine endX_seq ?_
      refine runX_ret ?_
      refine endX_q ?_
      obtain rfl := Option.some.inj h
      show RetW _ _ _ _ _
      simp only [RetW]
      (try simp -implicitDefEqProofs (disch := omega) only [go_sem, ↓reduceIte])
      (try simp (disch := omega) only [if_pos, Nat.sub_zero])
      exact leT_refl _
    ·refine guardK_F c7 ?_
     try simp -implicitDefEqProofs (disch := omega) only [go_sem, ↓reduceIte]
     refine toEnd hC ?_
     refine endX_seq ?_
     refine runX_ret ?_
     refine endX_q ?_
     obtain rfl := Option.some.inj h
     show RetW _ _ _ _ _
     simp only [RetW]
     (try simp -implicitDefEqProofs (disch := omega) only [go_sem, ↓reduceIte])
     (try simp (disch := omega) only [if_pos, Nat.sub_zero])
     exact leT_refl _
   ·refine guardK_F c6 ?_
    try simp -implicitDefEqProofs (disch := omega) only [go_sem, ↓reduceIte]
    refine toEnd hC ?_
    refine endX_seq ?_
    refine runX_ret ?_
    refine endX_q ?_
    obtain rfl := Option.some.inj h
    show RetW _ _ _ _ _
    simp only [RetW]
    (try simp -implicitDefEqProofs (disch := omega) only [go_sem, ↓reduceIte])
    (try simp (disch := omega) only [if_pos, Nat.sub_zero])
    exact leT_refl _
end Go.Proofs.YtaiapalhdejngaaX

/- Shapes of arguments, as plain values. Of no program. -/
set_option linter.unusedVariables false
namespace Go.Proofs.YtaiapalhdejngaaX
open Go Go.RowKit
theorem RepR.le {E : Env} {sz : Nat} : ∀ {l l' : List T} {c : List Value}, l.length = l'.length → (∀ i, leT anyE (l.getD i .junk) (l'.getD i .junk)) → RepR E sz l c → RepR E sz l' c
  | [], [], c, _, _, h => h
  | x :: l, y :: l', c, hl, hi, h => by
    simp only [RepR] at h ⊢
    obtain ⟨u, c', h1, h2, h3, h4⟩ := h
    exact ⟨u, c', h1, h2, by simpa using hi 0 E true u trivial (by simpa using h3), RepR.le (by simpa using hl) (fun i => by simpa using hi (i + 1)) h4⟩
  | [], _ :: _, c, hl, _, _ => by simp at hl
  | _ :: _, [], c, hl, _, _ => by simp at hl
theorem leT_slE {sz : Nat} {f : Bool} {l l' : List T} (hl : l.length = l'.length) (h : ∀ i, leT anyE (l.getD i .junk) (l'.getD i .junk)) : leT anyE (.sl sz f l) (.sl sz false l') := fun E cl v hp k => by
  simp only [Rep] at k ⊢
  obtain ⟨a, cap, c, h1, h2, h3, h4, h5⟩ := k
  exact ⟨a, cap, c, by rw [h1, hl], by rw [← hl]; exact h2, (fun h => by cases h), RepR.le hl h h4, h5⟩
theorem elems_shape {α : Type} (enc : α → T) (ok : α → Prop) : ∀ (l : List T), (∀ y ∈ l, ∃ v, leT anyE y (enc v) ∧ ok v) → ∃ vs : List α, vs.length = l.length ∧ (∀ i, leT anyE (l.getD i .junk) ((vs.map enc).getD i .junk)) ∧ ∀ v ∈ vs, ok v
  | [], _ => ⟨[], rfl, fun i => by simp [leT_refl], fun v hv => by simp at hv⟩
  | y :: l, h => by
    obtain ⟨v, h1, h2⟩ := h y (by simp)
    obtain ⟨vs, h3, h4, h5⟩ := elems_shape enc ok l fun z hz => h z (by simp [hz])
    refine ⟨v :: vs, by simp [h3], fun i => ?_, fun w hw => ?_⟩
    · cases i with
      | zero => simpa using h1
      | succ i => simpa using h4 i
    · rcases List.mem_cons.1 hw with rfl | hw
      · exact h2
      · exact h5 w hw
theorem sl_shape {α : Type} (enc : α → T) (ok : α → Prop) (l : List T) (h : ∀ y ∈ l, ∃ v, leT anyE y (enc v) ∧ ok v) {sz : Nat} {f : Bool} : ∃ vs : List α, leT anyE (.sl sz f l) (.sl sz false (vs.map enc)) ∧ vs.length = l.length ∧ ∀ v ∈ vs, ok v := by
  obtain ⟨vs, h1, h2, h3⟩ := elems_shape enc ok l h
  exact ⟨vs, leT_slE (by simp [h1]) h2, h1, h3⟩
end Go.Proofs.YtaiapalhdejngaaX

/- What a row's form asks, where the law needs that texts are no longer than a machine has. Of no program. -/
set_option linter.unusedVariables false
set_option linter.unusedSimpArgs false
namespace Go.Proofs.YtaiapalhdejngaaX
open Go Go.RowKit Go.ChangeShapes Go.WideShapes
def strIn (P : Program) (t : TypeId) (x : T) (s : ByteArray) : Prop :=
  (P.underlying t = some .string ∧ x = .imm (.string s)) ∨
  (∃ (k : Nat) (e : TypeId) (l : List T) (i : Nat), P.underlying t = some (.array k e) ∧ P.underlying e = some .string ∧ P.cellsOf e = 1 ∧ x = .agg l ∧ i < k ∧ l[i]? = some (.imm (.string s))) ∨
  (∃ (fs : Array Field) (f : Field) (l : List T) (i : Nat), P.underlying t = some (.struct fs) ∧ fs.toList[i]? = some f ∧ P.underlying f.type = some .string ∧ P.cellsOf f.type = 1 ∧ x = .agg l ∧ l[f.offset]? = some (.imm (.string s)))
theorem trodAll_at {H : Type} {enc : TypeId × Value → H} {P : Program} {w : World} {base : Nat} {spare : Nat → Bool} {held : Bool} : ∀ (ts : List TypeId) (vs : List Value) (ds : List (DataW H)) (ps : List MemPlace) (xs : List T),
    DataW.TrodAll enc P w base spare held ts vs ds ps → RepL (E0 w noBan) true xs vs → ∀ (j : Nat) (t : TypeId) (x : T), ts[j]? = some t → xs[j]? = some x →
      ∃ v d p n, ds[j]? = some d ∧ DataW.trod enc P w base spare held n t v.cells.toList = some (d, p) ∧ Rep (E0 w noBan) true x v
  | [], vs, ds, ps, xs, h, hr, j, t, x, ht, hx => by simp at ht
  | t0 :: ts, vs, ds, ps, xs, h, hr, j, t, x, ht, hx => by
    obtain ⟨v, vs', d, ds', p, q, rfl, rfl, rfl, ⟨n, h1⟩, h2⟩ := trodAll_cons h
    cases xs with
    | nil => simp at hx
    | cons x0 xs =>
      simp only [RepL] at hr
      obtain ⟨v', vs'', e, h3, h4⟩ := hr
      obtain ⟨rfl, rfl⟩ := List.cons.inj e
      cases j with
      | zero =>
        simp only [List.getElem?_cons_zero, Option.some.injEq] at ht hx ⊢
        subst ht hx
        exact ⟨v, d, p, n, rfl, h1, h3⟩
      | succ j =>
        simp only [List.getElem?_cons_succ] at ht hx ⊢
        exact trodAll_at ts _ _ _ xs h2 h4 j t x ht hx
theorem weightsAll_mem {H : Type} {P : Program} {e : TypeId} {m : Nat} : ∀ {parts : List (DataW H)} {i : Nat} {d : DataW H}, parts[i]? = some d → m ∈ d.weights P e → m ∈ DataW.weightsAll P e parts
  | [], i, d, h, hm => by simp at h
  | d0 :: r, 0, d, h, hm => by
    simp only [List.getElem?_cons_zero, Option.some.injEq] at h
    subst h
    rw [DataW.weightsAll]; exact List.mem_append_left _ hm
  | d0 :: r, i + 1, d, h, hm => by
    simp only [List.getElem?_cons_succ] at h
    rw [DataW.weightsAll]; exact List.mem_append_right _ (weightsAll_mem h hm)
theorem sized_in {H : Type} {enc : TypeId × Value → H} {P : Program} {w : World} {base : Nat} {spare : Nat → Bool} {held : Bool} {n : Nat} {t : TypeId} {v : Value} {d : DataW H} {p : List MemPlace} {x : T} {s : ByteArray}
    (h1 : DataW.trod enc P w base spare held n t v.cells.toList = some (d, p)) (h3 : Rep (E0 w noBan) true x v) (hs : strIn P t x s) : s.size ∈ d.weights P t := by
  rcases hs with ⟨hu, rfl⟩ | ⟨k, e, l, i, hu, he, hc, rfl, hi, hli⟩ | ⟨fs, f, l, i, hu, hfi, he, hc, rfl, hli⟩
  · simp only [Rep] at h3
    obtain ⟨rfl, _⟩ := h3
    obtain ⟨s', e1, e2, _⟩ := DataW.trod_string hu h1
    have e3 : s' = s := by
      have : ([Value.string s] : List Value) = [.string s'] := e1
      injection this with this _
      injection this with this
      exact this.symm
    subst e3
    have e4 : d = .lit (.string s'.data.toList) := congrArg Prod.fst e2
    rw [e4]
    simp [DataW.weights]
  · simp only [Rep] at h3
    obtain ⟨cs, rfl, hl⟩ := h3
    have hgi := hl.get i undef
    have e1 : l.getD i .junk = .imm (.string s) := by rw [List.getD_eq_getElem?_getD, hli]; rfl
    rw [e1] at hgi
    simp only [Rep] at hgi
    have hlen := hl.length
    have hil : i < cs.toList.length := by rw [hlen]; exact (List.getElem?_eq_some_iff.1 hli).1
    have hcs : cs.toList[i]? = some (.string s) := by
      have := hgi.1
      rw [List.getD_eq_getElem?_getD, List.getElem?_eq_getElem hil] at this
      rw [List.getElem?_eq_getElem hil]
      exact congrArg some this
    cases n with
    | zero => unfold DataW.trod at h1; cases h1
    | succ n =>
    unfold DataW.trod at h1
    rw [hu] at h1
    have h1' : (if cs.toList.length = P.cellsOf t then ((List.range k).mapM fun i => DataW.trod enc P w base spare held n e ((cs.toList.drop (i * P.cellsOf e)).take (P.cellsOf e))).map fun xs => (DataW.agg (xs.map (·.1)), xs.flatMap (·.2)) else none) = some (d, p) := by
      have e0 : (Value.agg cs).cells.toList = cs.toList := rfl
      rw [e0] at h1
      split at h1 <;> simp_all
    clear h1
    split at h1'
    case isFalse => cases h1'
    obtain ⟨xs, hm, hx⟩ := Option.map_eq_some_iff.1 h1'
    simp only [Prod.mk.injEq] at hx
    obtain ⟨rfl, _⟩ := hx
    have hg := mapM_some_get hm i i (List.getElem?_range hi)
    have hxl := mapM_some_length hm
    rw [List.length_range] at hxl
    rw [List.getElem?_eq_getElem (by omega)] at hg
    rw [hc, Nat.mul_one] at hg
    have hone : (cs.toList.drop i).take 1 = [.string s] := by
      rw [List.drop_eq_getElem_cons hil]
      rw [List.getElem?_eq_getElem hil] at hcs
      injection hcs with hcs
      rw [hcs]; rfl
    rw [hone] at hg
    obtain ⟨s', e1, e2, _⟩ := DataW.trod_string he hg
    have e3 : s' = s := by
      injection e1 with e1 _
      injection e1 with e1
      exact e1.symm
    subst e3
    have hu' : (DataW.agg (xs.map (·.1)) : DataW H).weights P t = DataW.weightsAll P e (xs.map (·.1)) := by simp only [DataW.weights, hu]
    rw [hu']
    refine weightsAll_mem (i := i) (d := .lit (.string s'.data.toList)) ?_ (by simp [DataW.weights])
    rw [List.getElem?_map, List.getElem?_eq_getElem (by omega), e2]; rfl
  · simp only [Rep] at h3
    obtain ⟨cs, rfl, hl⟩ := h3
    have hgi := hl.get f.offset undef
    have e1 : l.getD f.offset .junk = .imm (.string s) := by rw [List.getD_eq_getElem?_getD, hli]; rfl
    rw [e1] at hgi
    simp only [Rep] at hgi
    have hlen := hl.length
    have hil : f.offset < cs.toList.length := by rw [hlen]; exact (List.getElem?_eq_some_iff.1 hli).1
    have hcs : cs.toList[f.offset]? = some (.string s) := by
      have := hgi.1
      rw [List.getD_eq_getElem?_getD, List.getElem?_eq_getElem hil] at this
      rw [List.getElem?_eq_getElem hil]
      exact congrArg some this
    cases n with
    | zero => unfold DataW.trod at h1; cases h1
    | succ n =>
    unfold DataW.trod at h1
    rw [hu] at h1
    have h1' : (if cs.toList.length = P.cellsOf t then (fs.toList.mapM fun f => DataW.trod enc P w base spare held n f.type ((cs.toList.drop f.offset).take (P.cellsOf f.type))).map fun xs => (DataW.agg (xs.map (·.1)), xs.flatMap (·.2)) else none) = some (d, p) := by
      have e0 : (Value.agg cs).cells.toList = cs.toList := rfl
      rw [e0] at h1
      split at h1 <;> simp_all
    clear h1
    split at h1'
    case isFalse => cases h1'
    obtain ⟨xs, hm, hx⟩ := Option.map_eq_some_iff.1 h1'
    simp only [Prod.mk.injEq] at hx
    obtain ⟨rfl, _⟩ := hx
    have hg := mapM_some_get hm i f hfi
    have hxl := mapM_some_length hm
    have hif : i < fs.toList.length := (List.getElem?_eq_some_iff.1 hfi).1
    rw [List.getElem?_eq_getElem (by omega)] at hg
    rw [hc] at hg
    have hone : (cs.toList.drop f.offset).take 1 = [.string s] := by
      rw [List.drop_eq_getElem_cons hil]
      rw [List.getElem?_eq_getElem hil] at hcs
      injection hcs with hcs
      rw [hcs]; rfl
    rw [hone] at hg
    obtain ⟨s', e1, e2, _⟩ := DataW.trod_string he hg
    have e3 : s' = s := by
      injection e1 with e1 _
      injection e1 with e1
      exact e1.symm
    subst e3
    have hu' : (DataW.agg (xs.map (·.1)) : DataW H).weights P t = DataW.weightsEach P (fs.toList.map (·.type)) (xs.map (·.1)) := by simp only [DataW.weights, hu]
    rw [hu']
    refine DataW.weights_mem_each (j := i) (t := f.type) (d := .lit (.string s'.data.toList)) (by rw [List.getElem?_map, hfi]; rfl) ?_ _ (by simp [DataW.weights])
    rw [List.getElem?_map, List.getElem?_eq_getElem (by omega), e2]; rfl
theorem sized_sl {H : Type} {enc : TypeId × Value → H} {P : Program} {w : World} {base : Nat} {spare : Nat → Bool} {held : Bool} {n : Nat} {t e : TypeId} {v : Value} {d : DataW H} {p : List MemPlace} {sz : Nat} {f : Bool} {l : List T}
    (hu : P.underlying t = some (.slice e)) (h1 : DataW.trod enc P w base spare held n t v.cells.toList = some (d, p)) (h3 : Rep (E0 w noBan) true (.sl sz f l) v) : l.length = 0 ∨ ∃ m ∈ d.weights P t, l.length * P.bytesOf e ≤ m := by
  simp only [Rep] at h3
  obtain ⟨a, cap, c, rfl, _⟩ := h3
  by_cases h0 : l.length = 0
  · exact .inl h0
  right
  cases n with
  | zero => unfold DataW.trod at h1; cases h1
  | succ n =>
    have e0 : (Value.slice a l.length cap).cells.toList = [.slice a l.length cap] := rfl
    rw [e0] at h1
    unfold DataW.trod at h1
    rw [hu] at h1
    cases a with
    | none =>
      revert h1
      generalize l.length = m at h0 ⊢
      intro h1
      match m, cap, h0, h1 with
      | m + 1, cap, _, h1 => simp at h1
    | some a =>
      simp only at h1
      split at h1
      · obtain ⟨elems, he, h2⟩ := Option.bind_eq_some_iff.1 h1
        obtain ⟨rest, hr, h4⟩ := Option.map_eq_some_iff.1 h2
        have hlen := mapM_some_length he
        rw [List.length_range] at hlen
        have hd : d = .slice (elems.map (·.1)) (rest.map (·.1)) := (congrArg Prod.fst h4).symm
        subst hd
        refine ⟨((elems.map (·.1)).length + (rest.map (·.1)).length) * P.bytesOf e, ?_, ?_⟩
        · simp only [DataW.weights, hu]; exact List.mem_cons_self ..
        · rw [List.length_map, hlen]; exact Nat.mul_le_mul_right _ (Nat.le_add_right _ _)
      · cases h1
theorem row_contract_sz {P : Program} {f : FuncId} {fn : Func} {s : ChangeSpec} {ts : List TypeId} {tb : TypeId} {L : List TypeId}
    (hl : laidOutB P = true) (hT : typesOk P L = true) (hp : fn.params.toList = ts) (hr : (ts.all fun t => L.contains t && P.readableRec t && decide (t < P.types.size)) = true)
    (hres : fn.resultTypes = #[tb]) (htb : P.underlying tb = some .bool) (hvars : s.vars = [])
    (hs : ∀ (H : Type) (ds : List (DataW H)), ds.length = ts.length → s.fn H ds = { results := [.lit (.bool true)], args := ds })
    (hlaw : ∀ xs, ShapesW P ts xs → (∀ (j : Nat) (t : TypeId) (x : T) (s : ByteArray), ts[j]? = some t → xs[j]? = some x → strIn P t x s → s.size ≤ reachBytes) → FnC P f xs (.imm (.bool true)))
    {H : Type} {enc : TypeId × Value → H} (W : World) (base : Nat) (args : Array Value) (ds gs : List (DataW H)) (before : List MemPlace)
    (hval : ∀ (j : Nat) t v, fn.params[j]? = some t → args[j]? = some v → Value.okWide P W .any base t v) (hW : DataW.Whole enc P fn.params.toList s.vars false W args.toList ds gs before)
    (hz : (DataW.weightsEach P (fn.params.toList ++ s.plain.varTypes P) (ds ++ gs)).all (· ≤ reachBytes) = true) :
    Calls P f args W fun e W' => ∃ v, e = .returned v ∧ s.post enc P fn false true false false W args v W' := by
  have hW' := hW
  obtain ⟨p, q, hA, hV, rfl, hfz, hnd⟩ := hW
  rw [hvars] at hV
  obtain ⟨rfl, rfl⟩ := trodVars_none hV
  rw [hp] at hA
  have hr' : ∀ t ∈ ts, t ∈ L ∧ P.readableRec t = true ∧ t < P.types.size := fun t ht => by
    have := List.all_eq_true.1 hr t ht
    simp only [Bool.and_eq_true, List.contains_iff_mem, decide_eq_true_eq] at this
    exact ⟨this.1.1, this.1.2, this.2⟩
  obtain ⟨xs, h1, h2⟩ := open_args (r := .any) (b0 := base) hT ts args.toList ds p (fun t ht => (hr' t ht).1) hA fun j t v h1 h2 => hval j t v (by rw [← hp] at h1; simpa using h1) (by simpa using h2)
  have hlen : ds.length = ts.length := trodAll_len hA
  have hsz : ∀ (j : Nat) (t : TypeId) (x : T) (s : ByteArray), ts[j]? = some t → xs[j]? = some x → strIn P t x s → s.size ≤ reachBytes := fun j t x s0 ht hx hin => by
    obtain ⟨v, d, p, n, hd, htr, hrep⟩ := trodAll_at ts args.toList ds p xs hA h2 j t x ht hx
    have hmem := sized_in htr hrep hin
    have hj : j < ds.length := (List.getElem?_eq_some_iff.1 hd).1
    have hjt : j < ts.length := (List.getElem?_eq_some_iff.1 ht).1
    have := List.all_eq_true.1 hz _ (DataW.weights_mem_each (j := j) (t := t) (by rw [hp, List.getElem?_append_left hjt]; exact ht) (by rw [List.getElem?_append_left hj]; exact hd) _ hmem)
    simpa using this
  refine ((hlaw xs h1 hsz).2 W noBan args (fun _ _ h => h.elim) h2).mono fun e W' ⟨u, he, bel, hu⟩ => ?_
  simp only [Rep, flat, and_true] at hu
  subst hu; subst he
  refine ⟨_, rfl, ds, [], p ++ [], [], p, [], hW', ?_, ?_, ?_, bel.frame _, fun h => by cases h⟩
  · rw [List.append_nil, hs H ds hlen, hres]
    have : (Value.bool true).resultList (#[tb] : Array TypeId).size = [.bool true] := by simp [Value.resultList]
    rw [this]
    exact trodAll_mk1 (shut_bool htb _)
  · rw [List.append_nil, hs H ds hlen, hp]
    exact carry_args hl bel ts _ _ _ (fun t ht => (hr' t ht).2) hA
  · rw [List.append_nil, hs H ds hlen, hvars]
    rfl
theorem row_contract_sz2 {P : Program} {f : FuncId} {fn : Func} {s : ChangeSpec} {ts : List TypeId} {tb : TypeId} {L : List TypeId}
    (hl : laidOutB P = true) (hT : typesOk P L = true) (hp : fn.params.toList = ts) (hr : (ts.all fun t => L.contains t && P.readableRec t && decide (t < P.types.size)) = true)
    (hres : fn.resultTypes = #[tb]) (htb : P.underlying tb = some .bool) (hvars : s.vars = [])
    (hs : ∀ (H : Type) (ds : List (DataW H)), ds.length = ts.length → s.fn H ds = { results := [.lit (.bool true)], args := ds })
    (hlaw : ∀ xs, ShapesW P ts xs → (∀ (j : Nat) (t : TypeId) (x : T) (s : ByteArray), ts[j]? = some t → xs[j]? = some x → strIn P t x s → s.size ≤ reachBytes) → (∀ (j : Nat) (t e : TypeId) (sz : Nat) (f : Bool) (l : List T), ts[j]? = some t → xs[j]? = some (.sl sz f l) → P.underlying t = some (.slice e) → l.length * P.bytesOf e ≤ reachBytes) → FnC P f xs (.imm (.bool true)))
    {H : Type} {enc : TypeId × Value → H} (W : World) (base : Nat) (args : Array Value) (ds gs : List (DataW H)) (before : List MemPlace)
    (hval : ∀ (j : Nat) t v, fn.params[j]? = some t → args[j]? = some v → Value.okWide P W .any base t v) (hW : DataW.Whole enc P fn.params.toList s.vars false W args.toList ds gs before)
    (hz : (DataW.weightsEach P (fn.params.toList ++ s.plain.varTypes P) (ds ++ gs)).all (· ≤ reachBytes) = true) :
    Calls P f args W fun e W' => ∃ v, e = .returned v ∧ s.post enc P fn false true false false W args v W' := by
  have hW' := hW
  obtain ⟨p, q, hA, hV, rfl, hfz, hnd⟩ := hW
  rw [hvars] at hV
  obtain ⟨rfl, rfl⟩ := trodVars_none hV
  rw [hp] at hA
  have hr' : ∀ t ∈ ts, t ∈ L ∧ P.readableRec t = true ∧ t < P.types.size := fun t ht => by
    have := List.all_eq_true.1 hr t ht
    simp only [Bool.and_eq_true, List.contains_iff_mem, decide_eq_true_eq] at this
    exact ⟨this.1.1, this.1.2, this.2⟩
  obtain ⟨xs, h1, h2⟩ := open_args (r := .any) (b0 := base) hT ts args.toList ds p (fun t ht => (hr' t ht).1) hA fun j t v h1 h2 => hval j t v (by rw [← hp] at h1; simpa using h1) (by simpa using h2)
  have hlen : ds.length = ts.length := trodAll_len hA
  have hsz : ∀ (j : Nat) (t : TypeId) (x : T) (s : ByteArray), ts[j]? = some t → xs[j]? = some x → strIn P t x s → s.size ≤ reachBytes := fun j t x s0 ht hx hin => by
    obtain ⟨v, d, p, n, hd, htr, hrep⟩ := trodAll_at ts args.toList ds p xs hA h2 j t x ht hx
    have hmem := sized_in htr hrep hin
    have hj : j < ds.length := (List.getElem?_eq_some_iff.1 hd).1
    have hjt : j < ts.length := (List.getElem?_eq_some_iff.1 ht).1
    have := List.all_eq_true.1 hz _ (DataW.weights_mem_each (j := j) (t := t) (by rw [hp, List.getElem?_append_left hjt]; exact ht) (by rw [List.getElem?_append_left hj]; exact hd) _ hmem)
    simpa using this
  have hsl : ∀ (j : Nat) (t e : TypeId) (sz : Nat) (f : Bool) (l : List T), ts[j]? = some t → xs[j]? = some (.sl sz f l) → P.underlying t = some (.slice e) → l.length * P.bytesOf e ≤ reachBytes := fun j t e sz f l ht hx hu => by
    obtain ⟨v, d, p, n, hd, htr, hrep⟩ := trodAll_at ts args.toList ds p xs hA h2 j t _ ht hx
    have hj : j < ds.length := (List.getElem?_eq_some_iff.1 hd).1
    have hjt : j < ts.length := (List.getElem?_eq_some_iff.1 ht).1
    rcases sized_sl hu htr hrep with h0 | ⟨m, hmem, hle⟩
    · rw [h0, Nat.zero_mul]; exact Nat.zero_le _
    · have := List.all_eq_true.1 hz _ (DataW.weights_mem_each (j := j) (t := t) (by rw [hp, List.getElem?_append_left hjt]; exact ht) (by rw [List.getElem?_append_left hj]; exact hd) _ hmem)
      exact Nat.le_trans hle (by simpa using this)
  refine ((hlaw xs h1 hsz hsl).2 W noBan args (fun _ _ h => h.elim) h2).mono fun e W' ⟨u, he, bel, hu⟩ => ?_
  simp only [Rep, flat, and_true] at hu
  subst hu; subst he
  refine ⟨_, rfl, ds, [], p ++ [], [], p, [], hW', ?_, ?_, ?_, bel.frame _, fun h => by cases h⟩
  · rw [List.append_nil, hs H ds hlen, hres]
    have : (Value.bool true).resultList (#[tb] : Array TypeId).size = [.bool true] := by simp [Value.resultList]
    rw [this]
    exact trodAll_mk1 (shut_bool htb _)
  · rw [List.append_nil, hs H ds hlen, hp]
    exact carry_args hl bel ts _ _ _ (fun t ht => (hr' t ht).2) hA
  · rw [List.append_nil, hs H ds hlen, hvars]
    rfl
end Go.Proofs.YtaiapalhdejngaaX

set_option linter.unusedVariables false
set_option linter.unusedSimpArgs false
namespace Go.Proofs.YtaiapalhdejngaaX
open Go Go.RowKit Go.Proofs
set_option maxRecDepth 100000
def okT5 (v : Int) : Prop := (0 : Int) ≤ v ∧ v ≤ 255
def okT52 (v : List (Int)) : Prop := v.length ≤ 9223372036854775807 ∧ ∀ y ∈ v, okT5 y
def okT9 (v : List UInt8) : Prop := v.length ≤ 9223372036854775807
theorem shp5 : ∀ (n : Nat) (x : T), ShapeW Try.prog n 5 x → ∃ v : Int, x = .imm (.int .u8 v) ∧ okT5 v
  | 0, x, h => h.elim
  | n + 1, x, h => by
    simp only [ShapeW, Try.underlying5] at h
    obtain ⟨i, rfl, hi⟩ := h
    exact ⟨i, rfl, wf_of hi⟩
theorem shp52 : ∀ (n : Nat) (x : T), ShapeW Try.prog n 52 x → ∃ (f : Bool) (l : List T) (v : List (Int)), x = .sl 1 f l ∧ leT anyE x (.sl 1 false (List.map byteT v)) ∧ okT52 v
  | 0, x, h => h.elim
  | n + 1, x, h => by
    simp only [ShapeW, Try.underlying52] at h
    obtain ⟨f, l, rfl, hl, he⟩ := h
    rw [cz5]
    obtain ⟨v, h1, h2, h3⟩ := sl_shape byteT okT5 l fun y hy => (by
      obtain ⟨v, hv, hk⟩ := shp5 n y (he y hy)
      exact ⟨v, leT_of hv, hk⟩)
    exact ⟨f, l, v, rfl, h1, by rw [h2]; exact hl, h3⟩
theorem shp9 : ∀ (n : Nat) (x : T), ShapeW Try.prog n 9 x → ∃ v : List UInt8, x = .imm (.string (bs v)) ∧ okT9 v
  | 0, x, h => h.elim
  | n + 1, x, h => by
    simp only [ShapeW, Try.underlying9] at h
    obtain ⟨s, rfl, hs⟩ := h
    exact ⟨s.data.toList, by rw [← of_bs], hs⟩
theorem shr52 : ∀ (n : Nat) (x : T), ShapeW Try.prog n 52 x → ∃ (f : Bool) (l : List T) (v : List (Int)), x = .sl 1 f l ∧ leT anyE x (.sl 1 false (List.map byteT v)) ∧ okT52 v ∧ v.length = l.length
  | 0, x, h => h.elim
  | n + 1, x, h => by
    simp only [ShapeW, Try.underlying52] at h
    obtain ⟨f, l, rfl, hl, he⟩ := h
    rw [cz5]
    obtain ⟨v, h1, h2, h3⟩ := sl_shape byteT okT5 l fun y hy => (by
      obtain ⟨v, hv, hk⟩ := shp5 n y (he y hy)
      exact ⟨v, leT_of hv, hk⟩)
    exact ⟨f, l, v, rfl, h1, ⟨by rw [h2]; exact hl, h3⟩, h2⟩
theorem shapedEtagTells (main : ∀ (v0 : List (Int)) (v1 : List UInt8), okT52 v0 → okT9 v1 → v1.length ≤ 140737488351232 → v0.length ≤ 140737488351232 → ∃ n, F11 n v0 v1 = some true) (xs : List T) (h : ShapesW Try.prog [52, 9] xs) (hsz : ∀ (j : Nat) (t : TypeId) (x : T) (s : ByteArray), ([52, 9] : List TypeId)[j]? = some t → xs[j]? = some x → strIn Try.prog t x s → s.size ≤ reachBytes) (hsl : ∀ (j : Nat) (t e : TypeId) (sz : Nat) (f : Bool) (l : List T), ([52, 9] : List TypeId)[j]? = some t → xs[j]? = some (.sl sz f l) → Try.prog.underlying t = some (.slice e) → l.length * Try.prog.bytesOf e ≤ reachBytes) : FnC Try.prog 11 xs (tb true) := by
  obtain ⟨x0, xs0, rfl, ⟨n0, h0⟩, x1, xs1, rfl, ⟨n1, h1⟩, rfl⟩ := h
  obtain ⟨f0, l0, v0, rfl, e0, k0, q0⟩ := shr52 _ _ h0
  obtain ⟨v1, rfl, k1⟩ := shp9 _ _ h1
  obtain ⟨N, hN⟩ := main v0 v1 k0 k1 (hsz 1 9 _ (bs v1) rfl rfl (.inl ⟨Try.underlying9, rfl⟩)) (by
    have := hsl 0 52 5 _ _ _ rfl rfl Try.underlying52
    rw [show Try.prog.bytesOf 5 = 1 from by kernel_rfl] at this
    rw [q0]; unfold reachBytes at this; omega)
  exact (F11_ok N v0 v1 true hN).le (leL_cons (e0) (leL_cons (leT_refl _) (leL_nil))) (leT_refl _)
end Go.Proofs.YtaiapalhdejngaaX

/- Plain functions with fuel: what they come to. Of no program. -/
set_option linter.unusedVariables false
set_option linter.unusedSimpArgs false
namespace Go.Proofs.YtaiapalhdejngaaX
open Go
def Ev {α : Type} (f : Nat → Option α) (r : α) : Prop := ∃ N, ∀ n, N ≤ n → f n = some r
theorem Ev.pure {α : Type} {r : α} : Ev (fun _ => some r) r := ⟨0, fun _ _ => rfl⟩
theorem Ev.const {α : Type} {x : Option α} {r : α} (h : x = some r) : Ev (fun _ => x) r := ⟨0, fun _ _ => h⟩
theorem Ev.bind {α β : Type} {f : Nat → Option α} {g : Nat → α → Option β} {v : α} {r : β} (h : Ev f v) (h' : Ev (fun n => g n v) r) : Ev (fun n => (f n).bind (g n)) r := by
  obtain ⟨N, h⟩ := h
  obtain ⟨M, h'⟩ := h'
  exact ⟨max N M, fun n hn => by show (f n).bind (g n) = _; rw [h n (by omega)]; exact h' n (by omega)⟩
theorem Ev.step {α : Type} {f : Nat → Option α} {r : α} (h : Ev (fun n => f (n + 1)) r) : Ev f r := by
  obtain ⟨N, h⟩ := h
  refine ⟨N + 1, fun n hn => ?_⟩
  obtain ⟨m, rfl⟩ : ∃ m, n = m + 1 := ⟨n - 1, by omega⟩
  exact h m (by omega)
theorem Ev.congr {α : Type} {f g : Nat → Option α} {r : α} (h : Ev g r) (e : ∀ n, f n = g n) : Ev f r := by
  obtain ⟨N, h⟩ := h
  exact ⟨N, fun n hn => (e n).trans (h n hn)⟩
theorem iteB_t {α : Type} (x y : Option α) : iteB true x y = x := rfl
theorem iteB_f {α : Type} (x y : Option α) : iteB false x y = y := rfl
theorem grd_t {α : Type} {p : Prop} [Decidable p] (x : Option α) (h : p) : grd p x = x := if_pos h
theorem grd_True {α : Type} [Decidable True] (x : Option α) : grd True x = x := if_pos trivial
theorem bind_some' {α β : Type} (v : α) (g : α → Option β) : (some v).bind g = g v := rfl
theorem w64 {n : Int} (h : -9223372036854775808 ≤ n ∧ n ≤ 9223372036854775807) : IntKind.wrap .i64 n = n := Go.IntWalk.i64_in _ h
theorem wu8 {n : Int} (h : 0 ≤ n ∧ n ≤ 255) : IntKind.wrap .u8 n = n := Go.IntWalk.u8_in _ h
theorem wu32 {n : Int} (h : 0 ≤ n ∧ n ≤ 4294967295) : IntKind.wrap .u32 n = n := Go.IntWalk.u32_in _ h
theorem wu64 {n : Int} (h : 0 ≤ n ∧ n ≤ 18446744073709551615) : IntKind.wrap .u64 n = n := Go.IntWalk.u64_in _ h
theorem u8_lt (a : UInt8) : (0 : Int) ≤ (a.toNat : Int) ∧ (a.toNat : Int) ≤ 255 := by
  have := a.toNat_lt; omega
theorem drop_cons {α : Type} (l : List α) (i : Nat) (d : α) (h : i < l.length) : l.drop i = l.getD i d :: l.drop (i + 1) := by
  rw [List.drop_eq_getElem_cons h, List.getD_eq_getElem?_getD, List.getElem?_eq_getElem h]; rfl
theorem toNat_nat (n : Nat) : ((n : Int)).toNat = n := rfl
end Go.Proofs.YtaiapalhdejngaaX

/- Bytes as numbers. Of no program. -/
set_option linter.unusedVariables false
set_option linter.unusedSimpArgs false
namespace Go.Proofs.YtaiapalhdejngaaX
open Go
def Bytes (l : List Int) : Prop := ∀ x ∈ l, 0 ≤ x ∧ x ≤ 255
theorem Bytes.nil : Bytes [] := by intro x hx; cases hx
theorem Bytes.cons {a : Int} {r : List Int} (h : 0 ≤ a ∧ a ≤ 255) (hr : Bytes r) : Bytes (a :: r) := by
  intro x hx
  rcases List.mem_cons.1 hx with rfl | hx
  · exact h
  · exact hr x hx
theorem Bytes.head {a : Int} {r : List Int} (h : Bytes (a :: r)) : 0 ≤ a ∧ a ≤ 255 := h a (by simp)
theorem Bytes.tail {a : Int} {r : List Int} (h : Bytes (a :: r)) : Bytes r := fun x hx => h x (by simp [hx])
theorem Bytes.drop {l : List Int} (h : Bytes l) (n : Nat) : Bytes (l.drop n) := fun x hx => h x (List.mem_of_mem_drop hx)
theorem Bytes.append {l r : List Int} (h : Bytes l) (h' : Bytes r) : Bytes (l ++ r) := fun x hx => by
  rcases List.mem_append.1 hx with hx | hx
  · exact h x hx
  · exact h' x hx
def bt (s : List UInt8) (i : Nat) : Int := ((s.getD i 0).toNat : Int)
def ints (s : List UInt8) : List Int := s.map ofB
theorem ofB_toB {x : Int} (h : 0 ≤ x ∧ x ≤ 255) : ofB (toB x) = x := by
  unfold ofB toB
  rw [UInt8.toNat_ofNat']
  omega
theorem map_toB_eq {l : List Int} (hl : Bytes l) (t : List UInt8) : (l.map toB == t) = decide (l = ints t) := by
  rw [Bool.eq_iff_iff, beq_iff_eq, decide_eq_true_eq]
  constructor
  · rintro rfl
    unfold ints
    rw [List.map_map]
    conv => lhs; rw [← List.map_id l]
    exact List.map_congr_left fun x hx => (ofB_toB (hl x hx)).symm
  · rintro rfl
    unfold ints
    rw [List.map_map]
    conv => rhs; rw [← List.map_id t]
    refine List.map_congr_left fun x _ => ?_
    show UInt8.ofNat ((x.toNat : Int)).toNat = x
    rw [toNat_nat]; simp
theorem ints_toB {l : List Int} (h : Bytes l) : ints (l.map toB) = l := by
  have := map_toB_eq h (l.map toB)
  rw [beq_self_eq_true] at this
  exact (of_decide_eq_true this.symm).symm
theorem toB_inj : ∀ {a b : List Int}, Bytes a → Bytes b → a.map toB = b.map toB → a = b := fun ha hb h => by
  have := congrArg ints h
  rwa [ints_toB ha, ints_toB hb] at this
theorem bq {a b : Int} (h : ¬ a = b) : (a == b) = false := beq_eq_false_iff_ne.2 h
theorem bqt {a b : Int} (h : a = b) : (a == b) = true := by rw [h]; exact beq_self_eq_true b
theorem g64 (i : Nat) (h : i ≤ 1000000000) : IntKind.wrap .i64 ((i : Int) + 1) = ((i + 1 : Nat) : Int) := by rw [w64 (by omega)]; omega
theorem Bytes.getD {l : List Int} (h : Bytes l) (i : Nat) : 0 ≤ l.getD i 0 ∧ l.getD i 0 ≤ 255 := by
  rw [List.getD_eq_getElem?_getD]
  cases e : l[i]? with
  | none => exact ⟨by decide, by decide⟩
  | some x => exact h x (List.mem_of_getElem? e)
theorem Bytes.take {l : List Int} (h : Bytes l) (n : Nat) : Bytes (l.take n) := fun x hx => h x (List.mem_of_mem_take hx)
end Go.Proofs.YtaiapalhdejngaaX

/- Bytes of digits: the program's and the reference's. -/
set_option linter.unusedVariables false
set_option linter.unusedSimpArgs false
namespace Go.Proofs.YtaiapalhdejngaaX
open Go
def hvS (c : Int) : Int := if kindOf c = 1 then c - 48 else if kindOf c = 2 then c - 87 else -1
theorem hv_fin : ∀ c : Fin 256, (-1 ≤ hvS (c.val : Int) ∧ hvS (c.val : Int) ≤ 15) ∧ F99 0 (c.val : Int) = some (if hvS (c.val : Int) < 0 then 0 else hvS (c.val : Int), decide (0 ≤ hvS (c.val : Int))) ∧ F94 0 (c.val : Int) = some (hvS (c.val : Int)) := by decide +kernel
theorem hv_bd (c : UInt8) : -1 ≤ hvS (c.toNat : Int) ∧ hvS (c.toNat : Int) ≤ 15 := (hv_fin ⟨c.toNat, c.toNat_lt⟩).1
theorem hv_p (n : Nat) (c : UInt8) : F99 n (c.toNat : Int) = some (if hvS (c.toNat : Int) < 0 then 0 else hvS (c.toNat : Int), decide (0 ≤ hvS (c.toNat : Int))) := (hv_fin ⟨c.toNat, c.toNat_lt⟩).2.1
theorem hv_r (n : Nat) (c : UInt8) : F94 n (c.toNat : Int) = some (hvS (c.toNat : Int)) := (hv_fin ⟨c.toNat, c.toNat_lt⟩).2.2
def hexP : List UInt8 → List Int → List Int × Bool
  | a :: b :: r, acc => if hvS (a.toNat : Int) < 0 ∨ hvS (b.toNat : Int) < 0 then ([], false) else hexP r (acc ++ [16 * hvS (a.toNat : Int) + hvS (b.toNat : Int)])
  | _, acc => (acc, true)
def hexS (l : List UInt8) : List Int × Bool := if l.length % 2 ≠ 0 then ([], false) else hexP l []
theorem or16 {a b : Int} (ha : 0 ≤ a ∧ a ≤ 15) (hb : 0 ≤ b ∧ b ≤ 15) : IntKind.wrap .u8 (bOr .u8 (IntKind.wrap .u8 (bShl .u8 a 4)) b) = 16 * a + b := by
  have hs : bShl .u8 a 4 = a * 16 := by unfold bShl; rw [show (2 : Int) ^ min 4 IntKind.u8.bits = 16 by decide]
  rw [hs, wu8 (n := a * 16) (by omega), bOr_add .u8 4 (a * 16) b (by omega) (by show a * 16 < 256; omega) (by show a * 16 % 16 = 0; omega) hb.1 (by show b < 16; omega) (by decide), wu8 (by omega)]
  omega
theorem ev_hexP (l : List UInt8) (hl : l.length ≤ 1000000) : ∀ (k i : Nat) (acc : List Int), i + 2 * k = l.length → acc.length ≤ i → Ev (fun n => F75_L1 n l (i : Int) acc) (hexP (l.drop i) acc)
  | 0, i, acc, hi, ha => by
    rw [List.drop_of_length_le (by omega)]
    refine Ev.step ((Ev.const (x := some (acc, true)) rfl).congr fun n => ?_)
    rw [F75_L1, decide_eq_false (by omega), iteB_f]
  | k + 1, i, acc, hi, ha => by
    have w1 : IntKind.wrap .i64 ((i : Int) + 1) = ((i + 1 : Nat) : Int) := by rw [w64 (by omega)]; omega
    have w2 : IntKind.wrap .i64 ((i : Int) + 2) = ((i + 2 : Nat) : Int) := by rw [w64 (by omega)]; omega
    have b1 := hv_bd (l.getD i 0)
    have b2 := hv_bd (l.getD (i + 1) 0)
    rw [drop_cons l i 0 (by omega), drop_cons l (i + 1) 0 (by omega), hexP]
    by_cases h1 : hvS ((l.getD i 0).toNat : Int) < 0
    · rw [if_pos (.inl h1)]
      refine Ev.step ((Ev.const (x := some ([], false)) rfl).congr fun n => ?_)
      rw [F75_L1, decide_eq_true (by omega), iteB_t, grd_t _ (by omega), toNat_nat, hv_p, bind_some', w1, grd_t _ (by omega), toNat_nat, hv_p, bind_some', decide_eq_false (by omega)]
      rfl
    by_cases h2 : hvS ((l.getD (i + 1) 0).toNat : Int) < 0
    · rw [if_pos (.inr h2)]
      refine Ev.step ((Ev.const (x := some ([], false)) rfl).congr fun n => ?_)
      rw [F75_L1, decide_eq_true (by omega), iteB_t, grd_t _ (by omega), toNat_nat, hv_p, bind_some', w1, grd_t _ (by omega), toNat_nat, hv_p, bind_some', decide_eq_true (by omega), decide_eq_false (by omega)]
      rfl
    rw [if_neg (fun h => h.elim h1 h2)]
    refine Ev.step ((ev_hexP l hl k (i + 2) (acc ++ [16 * hvS ((l.getD i 0).toNat : Int) + hvS ((l.getD (i + 1) 0).toNat : Int)]) (by omega) (by simp; omega)).congr fun n => ?_)
    rw [F75_L1, decide_eq_true (by omega), iteB_t, grd_t _ (by omega), toNat_nat, hv_p, bind_some', w1, grd_t _ (by omega), toNat_nat, hv_p, bind_some', decide_eq_true (by omega), decide_eq_true (by omega), if_neg h1, if_neg h2]
    show iteB false _ (iteB false _ _) = _
    rw [iteB_f, iteB_f, grd_t _ (by omega), w2, or16 ⟨by omega, by omega⟩ ⟨by omega, by omega⟩]
theorem ev_ReadHex (l : List UInt8) (hl : l.length ≤ 1000000) : Ev (fun n => F75 n l) (hexS l) := by
  unfold hexS
  have hm : (l.length : Int).tmod 2 = ((l.length % 2 : Nat) : Int) := (Int.ofNat_tmod l.length 2).symm
  by_cases h : l.length % 2 ≠ 0
  · rw [if_pos h]
    refine (Ev.const (x := some ([], false)) rfl).congr fun n => ?_
    rw [F75, hm, show (((l.length % 2 : Nat) : Int) != 0) = true by rw [bne_iff_ne]; omega, iteB_t]
  · rw [if_neg h]
    refine (ev_hexP l hl (l.length / 2) 0 [] (by omega) (by simp)).congr fun n => ?_
    rw [F75, hm, show l.length % 2 = 0 by omega]
    rfl
theorem ev_rhexP (l : List UInt8) (hl : l.length ≤ 1000000) : ∀ (k i : Nat) (acc : List Int), i + 2 * k = l.length → acc.length ≤ i → Ev (fun n => F76_L1 n l (i : Int) acc) (hexP (l.drop i) acc)
  | 0, i, acc, hi, ha => by
    have w1 : IntKind.wrap .i64 ((i : Int) + 1) = ((i + 1 : Nat) : Int) := by rw [w64 (by omega)]; omega
    rw [List.drop_of_length_le (by omega)]
    refine Ev.step ((Ev.const (x := some (acc, true)) rfl).congr fun n => ?_)
    rw [F76_L1, w1, decide_eq_false (by omega), iteB_f]
  | k + 1, i, acc, hi, ha => by
    have w1 : IntKind.wrap .i64 ((i : Int) + 1) = ((i + 1 : Nat) : Int) := by rw [w64 (by omega)]; omega
    have w2 : IntKind.wrap .i64 ((i : Int) + 2) = ((i + 2 : Nat) : Int) := by rw [w64 (by omega)]; omega
    have b1 := hv_bd (l.getD i 0)
    have b2 := hv_bd (l.getD (i + 1) 0)
    rw [drop_cons l i 0 (by omega), drop_cons l (i + 1) 0 (by omega), hexP]
    by_cases h1 : hvS ((l.getD i 0).toNat : Int) < 0
    · rw [if_pos (.inl h1)]
      refine Ev.step ((Ev.const (x := some ([], false)) rfl).congr fun n => ?_)
      rw [F76_L1, w1, decide_eq_true (by omega), iteB_t, grd_t _ (by omega), toNat_nat, hv_r, bind_some', grd_t _ (by omega), toNat_nat, hv_r, bind_some', decide_eq_true h1]
      rfl
    by_cases h2 : hvS ((l.getD (i + 1) 0).toNat : Int) < 0
    · rw [if_pos (.inr h2)]
      refine Ev.step ((Ev.const (x := some ([], false)) rfl).congr fun n => ?_)
      rw [F76_L1, w1, decide_eq_true (by omega), iteB_t, grd_t _ (by omega), toNat_nat, hv_r, bind_some', grd_t _ (by omega), toNat_nat, hv_r, bind_some', decide_eq_false h1, decide_eq_true h2]
      rfl
    rw [if_neg (fun h => h.elim h1 h2)]
    refine Ev.step ((ev_rhexP l hl k (i + 2) (acc ++ [16 * hvS ((l.getD i 0).toNat : Int) + hvS ((l.getD (i + 1) 0).toNat : Int)]) (by omega) (by simp; omega)).congr fun n => ?_)
    rw [F76_L1, w1, decide_eq_true (by omega), iteB_t, grd_t _ (by omega), toNat_nat, hv_r, bind_some', grd_t _ (by omega), toNat_nat, hv_r, bind_some', decide_eq_false h1, decide_eq_false h2, iteB_f, iteB_f, grd_t _ (by omega), w2, w64 (n := 16 * _) (by omega), w64 (n := 16 * _ + _) (by omega), wu8 (by omega)]
theorem ev_rReadHex (l : List UInt8) (hl : l.length ≤ 1000000) : Ev (fun n => F76 n l) (hexS l) := by
  unfold hexS
  have hm : (l.length : Int).tmod 2 = ((l.length % 2 : Nat) : Int) := (Int.ofNat_tmod l.length 2).symm
  by_cases h : l.length % 2 ≠ 0
  · rw [if_pos h]
    refine (Ev.const (x := some ([], false)) rfl).congr fun n => ?_
    rw [F76, hm, show (((l.length % 2 : Nat) : Int) != 0) = true by rw [bne_iff_ne]; omega, iteB_t]
  · rw [if_neg h]
    refine (ev_rhexP l hl (l.length / 2) 0 [] (by omega) (by simp)).congr fun n => ?_
    rw [F76, hm, show l.length % 2 = 0 by omega]
    rfl
end Go.Proofs.YtaiapalhdejngaaX

/- MD5: one step, plainly, of the program and of the reference. -/
set_option linter.unusedVariables false
set_option linter.unusedSimpArgs false
namespace Go.Proofs.YtaiapalhdejngaaX
open Go
def U32 (x : Int) : Prop := 0 ≤ x ∧ x ≤ 4294967295
theorem u32_wrap (x : Int) : U32 (IntKind.wrap .u32 x) := by
  show 0 ≤ x % 4294967296 ∧ x % 4294967296 ≤ 4294967295
  omega
theorem nt_eq {x : Int} (h : U32 x) : IntKind.wrap .u32 (bNot .u32 x) = IntKind.wrap .u32 (4294967295 - x) := by
  obtain ⟨h0, h1⟩ := h
  obtain ⟨a, rfl⟩ := Int.eq_ofNat_of_zero_le h0
  congr 1
  show ((BitVec.ofInt 32 4294967295 ^^^ BitVec.ofInt 32 (a : Int)).toNat : Int) = _
  rw [show BitVec.ofInt 32 4294967295 = BitVec.allOnes 32 by decide, BitVec.allOnes_xor, BitVec.toNat_not, ofInt_nat 32 a (by omega)]
  omega
def rotS (x : Int) (n : Nat) : Int := IntKind.wrap .u32 (bOr .u32 (IntKind.wrap .u32 (bShl .u32 x n)) (bShr .u32 x (32 - n)))
theorem rot_p (m : Nat) (x : Int) (n : Nat) (hn : n ≤ 31) : F109 m x (n : Int) = some (rotS x n) := by
  have h1 : IntKind.wrap .u64 (bAnd .u64 (IntKind.wrap .u64 (n : Int)) (31 : Int)) = (n : Int) := by
    rw [wu64 (n := (n : Int)) (by omega), bAnd_low .u64 5 (n : Int) (by omega) (by show (n : Int) < 18446744073709551616; omega) (by decide) 31 (by decide), wu64 (by omega)]
    omega
  have h2 : IntKind.wrap .u64 ((32 : Int) - (n : Int)) = ((32 - n : Nat) : Int) := by rw [wu64 (by omega)]; omega
  rw [F109, h1, h2, grd_t _ (by omega), grd_t _ (by omega), toNat_nat, toNat_nat]
  rfl
theorem rot_r (m : Nat) (x : Int) (n : Nat) (hn : n ≤ 31) : F117 m x (n : Int) = some (rotS x n) := by
  have h2 : IntKind.wrap .u64 ((32 : Int) - (n : Int)) = ((32 - n : Nat) : Int) := by rw [wu64 (by omega)]; omega
  rw [F117, h2, grd_t _ (by omega), grd_t _ (by omega), toNat_nat, toNat_nat]
  rfl
def ntS (x : Int) : Int := IntKind.wrap .u32 (4294967295 - x)
def fS (i : Nat) (b c d : Int) : Int :=
  if i / 16 = 0 then IntKind.wrap .u32 (bOr .u32 (IntKind.wrap .u32 (bAnd .u32 b c)) (IntKind.wrap .u32 (bAnd .u32 (ntS b) d)))
  else if i / 16 = 1 then IntKind.wrap .u32 (bOr .u32 (IntKind.wrap .u32 (bAnd .u32 d b)) (IntKind.wrap .u32 (bAnd .u32 (ntS d) c)))
  else if i / 16 = 2 then IntKind.wrap .u32 (bXor .u32 (IntKind.wrap .u32 (bXor .u32 b c)) d)
  else IntKind.wrap .u32 (bXor .u32 c (IntKind.wrap .u32 (bOr .u32 b (ntS d))))
def kS (i : Nat) : Nat := if i / 16 = 0 then i else if i / 16 = 1 then 5 * i + 1 else if i / 16 = 2 then 3 * i + 5 else 7 * i
theorem kS_le (i : Nat) (h : i < 64) : kS i ≤ 500 := by unfold kS; split; omega; split; omega; split <;> omega
theorem div16 (i : Nat) (h : i < 64) : IntKind.wrap .i64 ((i : Int).tdiv 16) = ((i / 16 : Nat) : Int) := by
  rw [show (i : Int).tdiv 16 = ((i / 16 : Nat) : Int) from (Int.ofNat_tdiv i 16).symm, w64 (by omega)]
theorem modN (i n : Nat) : (i : Int).tmod (n : Int) = ((i % n : Nat) : Int) := (Int.ofNat_tmod i n).symm
theorem natq (a b : Nat) : (((a : Nat) : Int) == ((b : Nat) : Int)) = decide (a = b) := by
  rw [Bool.eq_iff_iff, beq_iff_eq, decide_eq_true_eq]; omega
theorem q16 (i k : Nat) (h : i < 64) : (IntKind.wrap .i64 ((i : Int).tdiv 16) == (k : Int)) = decide (i / 16 = k) := by rw [div16 i h, natq]
theorem mix_p (m i : Nat) (h : i < 64) {b c d : Int} (hb : U32 b) (hd : U32 d) : F108 m (i : Int) b c d = some (fS i b c d, (kS i : Int)) := by
  rw [F108, show (0 : Int) = ((0 : Nat) : Int) from rfl, show ((IntKind.wrap .i64 ((i : Int).tdiv 16)) == (1 : Int)) = decide (i / 16 = 1) from q16 i 1 h, show ((IntKind.wrap .i64 ((i : Int).tdiv 16)) == (2 : Int)) = decide (i / 16 = 2) from q16 i 2 h, q16 i 0 h, nt_eq hb, nt_eq hd, w64 (n := 5 * (i : Int)) (by omega), w64 (n := 5 * (i : Int) + 1) (by omega), w64 (n := 3 * (i : Int)) (by omega), w64 (n := 3 * (i : Int) + 5) (by omega), w64 (n := 7 * (i : Int)) (by omega)]
  unfold fS kS
  by_cases h0 : i / 16 = 0
  · rw [if_pos h0, if_pos h0, decide_eq_true h0]; rfl
  by_cases h1 : i / 16 = 1
  · rw [if_neg h0, if_neg h0, if_pos h1, if_pos h1, decide_eq_false h0, decide_eq_true h1]
    show some (_, _) = some (_, _)
    congr 2
  by_cases h2 : i / 16 = 2
  · rw [if_neg h0, if_neg h0, if_neg h1, if_neg h1, if_pos h2, if_pos h2, decide_eq_false h0, decide_eq_false h1, decide_eq_true h2]
    show some (_, _) = some (_, _)
    congr 2
  · rw [if_neg h0, if_neg h0, if_neg h1, if_neg h1, if_neg h2, if_neg h2, decide_eq_false h0, decide_eq_false h1, decide_eq_false h2]
    show some (_, _) = some (_, _)
    congr 2
def wordS (b : List Int) (k : Nat) : Int := b.getD (4 * k) 0 + b.getD (4 * k + 1) 0 * 256 + b.getD (4 * k + 2) 0 * 65536 + b.getD (4 * k + 3) 0 * 16777216
def sinesS : List Int := (F106 0).getD []
def turnsS : List Nat := [7, 12, 17, 22, 5, 9, 14, 20, 4, 11, 16, 23, 6, 10, 15, 21]
theorem turns_le : ∀ i : Fin 64, turnsS.getD (i.val / 16 * 4 + i.val % 4) 0 ≤ 31 := by decide
def Q4 := Int × Int × Int × Int
def stepS (b : List Int) (i : Nat) (s : Q4) : Q4 :=
  (s.2.2.2, IntKind.wrap .u32 (s.2.1 + rotS (IntKind.wrap .u32 (IntKind.wrap .u32 (IntKind.wrap .u32 (s.1 + fS i s.2.1 s.2.2.1 s.2.2.2) + wordS b (kS i % 16)) + sinesS.getD i 0)) (turnsS.getD (i / 16 * 4 + i % 4) 0)), s.2.1, s.2.2.1)
def runS (b : List Int) : Nat → Nat → Q4 → Q4
  | 0, _, s => s
  | r + 1, i, s => runS b r (i + 1) (stepS b i s)
def addS (s : Q4) (v : Q4) : Q4 := (IntKind.wrap .u32 (s.1 + v.1), IntKind.wrap .u32 (s.2.1 + v.2.1), IntKind.wrap .u32 (s.2.2.1 + v.2.2.1), IntKind.wrap .u32 (s.2.2.2 + v.2.2.2))
def blkS (b : List Int) (s : Q4) : Q4 := addS s (runS b 64 0 s)
def R4 (s : Q4) : Prop := U32 s.1 ∧ U32 s.2.1 ∧ U32 s.2.2.1 ∧ U32 s.2.2.2
theorem R4.step {b : List Int} {i : Nat} {s : Q4} (h : R4 s) : R4 (stepS b i s) := ⟨h.2.2.2, u32_wrap _, h.2.1, h.2.2.1⟩
theorem R4.blk (b : List Int) (s : Q4) : R4 (blkS b s) := ⟨u32_wrap _, u32_wrap _, u32_wrap _, u32_wrap _⟩
def l4 (s : Q4) : List Int := [s.1, s.2.1, s.2.2.1, s.2.2.2]
end Go.Proofs.YtaiapalhdejngaaX

/- MD5: a block, plainly, of the program and of the reference. -/
set_option linter.unusedVariables false
set_option linter.unusedSimpArgs false
namespace Go.Proofs.YtaiapalhdejngaaX
open Go
theorem int_default : (default : Int) = 0 := rfl
theorem bOr_comm (k : IntKind) (x y : Int) : bOr k x y = bOr k y x := by unfold bOr; rw [BitVec.or_comm]
def p256 : Nat → Int
  | 0 => 1
  | 1 => 256
  | 2 => 65536
  | _ => 16777216
theorem shl_byte (t : Nat) (ht : t < 4) (c : Int) : bShl .u32 c (8 * t) = c * p256 t := by
  unfold bShl
  match t, ht with
  | 0, _ => rw [show (2 : Int) ^ min (8 * 0) IntKind.u32.bits = 1 by decide]; rfl
  | 1, _ => rw [show (2 : Int) ^ min (8 * 1) IntKind.u32.bits = 256 by decide]; rfl
  | 2, _ => rw [show (2 : Int) ^ min (8 * 2) IntKind.u32.bits = 65536 by decide]; rfl
  | 3, _ => rw [show (2 : Int) ^ min (8 * 3) IntKind.u32.bits = 16777216 by decide]; rfl
theorem or_at (i : Nat) (m : Int) (hm : (2 : Int) ^ i = m) (hi : i ≤ 24) {p c : Int} (hp : 0 ≤ p) (hp1 : p < m) (hc : 0 ≤ c) (hcm : c * m + m ≤ 4294967296) (hc' : 0 ≤ c * m) : IntKind.wrap .u32 (bOr .u32 p (IntKind.wrap .u32 (c * m))) = p + c * m := by
  rw [bOr_comm, wu32 (n := c * m) (by omega), bOr_add .u32 i (c * m) p hc' (by show c * m < 4294967296; omega) (by rw [hm]; exact Int.mul_emod_left c m) hp (by rw [hm]; exact hp1) (by show i ≤ 32; omega), wu32 (by omega)]
  omega
theorem or_byte (t : Nat) (ht : t < 4) {p c : Int} (hp : 0 ≤ p) (hp1 : p < p256 t) (hc : 0 ≤ c ∧ c ≤ 255) : IntKind.wrap .u32 (bOr .u32 p (IntKind.wrap .u32 (bShl .u32 (IntKind.wrap .u32 c) (8 * t)))) = p + c * p256 t := by
  rw [wu32 (n := c) (by omega), shl_byte t ht]
  match t, ht, hp1 with
  | 0, _, hp1 => exact or_at 0 1 (by decide) (by omega) hp hp1 hc.1 (by omega) (by omega)
  | 1, _, hp1 => exact or_at 8 256 (by decide) (by omega) hp hp1 hc.1 (by omega) (by omega)
  | 2, _, hp1 => exact or_at 16 65536 (by decide) (by omega) hp hp1 hc.1 (by omega) (by omega)
  | 3, _, hp1 => exact or_at 24 16777216 (by decide) (by omega) hp hp1 hc.1 (by omega) (by omega)
def pwS (b : List Int) (j : Nat) : Nat → Int
  | 0 => 0
  | 1 => b.getD (4 * j) 0
  | 2 => b.getD (4 * j) 0 + b.getD (4 * j + 1) 0 * 256
  | 3 => b.getD (4 * j) 0 + b.getD (4 * j + 1) 0 * 256 + b.getD (4 * j + 2) 0 * 65536
  | _ => wordS b j
theorem pw_ge (b : List Int) (j t : Nat) (h : 4 ≤ t) : pwS b j t = wordS b j := by
  match t, h with
  | t + 4, _ => rfl
theorem pw_step {b : List Int} (hb : Bytes b) (j t : Nat) (ht : t < 4) : (0 ≤ pwS b j t ∧ pwS b j t < p256 t) ∧ pwS b j t + b.getD (4 * j + t) 0 * p256 t = pwS b j (t + 1) := by
  have h0 := hb.getD (4 * j)
  have h1 := hb.getD (4 * j + 1)
  have h2 := hb.getD (4 * j + 2)
  match t, ht with
  | 0, _ => exact ⟨⟨Int.le_refl 0, by show (0 : Int) < 1; decide⟩, by show (0 : Int) + b.getD (4 * j) 0 * 1 = b.getD (4 * j) 0; omega⟩
  | 1, _ => exact ⟨⟨h0.1, by show b.getD (4 * j) 0 < 256; omega⟩, rfl⟩
  | 2, _ => exact ⟨⟨by show 0 ≤ b.getD (4 * j) 0 + b.getD (4 * j + 1) 0 * 256; omega, by show b.getD (4 * j) 0 + b.getD (4 * j + 1) 0 * 256 < 65536; omega⟩, rfl⟩
  | 3, _ => exact ⟨⟨by show 0 ≤ b.getD (4 * j) 0 + b.getD (4 * j + 1) 0 * 256 + b.getD (4 * j + 2) 0 * 65536; omega, by show b.getD (4 * j) 0 + b.getD (4 * j + 1) 0 * 256 + b.getD (4 * j + 2) 0 * 65536 < 16777216; omega⟩, rfl⟩
def sprS (b : List Int) : List Int := (List.range 16).map (wordS b)
theorem spr_len (b : List Int) : (sprS b).length = 16 := by simp [sprS]
theorem spr_get (b : List Int) (j : Nat) (h : j < 16) : (sprS b).getD j 0 = wordS b j := by
  unfold sprS
  rw [List.getD_eq_getElem?_getD, List.getElem?_map, List.getElem?_range h]; rfl
theorem getD_ext {l l' : List Int} (hl : l.length = l'.length) (h : ∀ j, j < l.length → l.getD j 0 = l'.getD j 0) : l = l' := by
  apply List.ext_getElem hl
  intro i h1 h2
  have := h i h1
  rwa [List.getD_eq_getElem?_getD, List.getElem?_eq_getElem h1, List.getD_eq_getElem?_getD, List.getElem?_eq_getElem h2] at this
theorem spr_loop {b : List Int} (hb : Bytes b) (hl : b.length = 64) : ∀ (r i : Nat) (x : List Int), i + r = 64 → x.length = 16 → (∀ j, j < 16 → x.getD j 0 = pwS b j (i - 4 * j)) → Ev (fun n => F105_L1 n b (i : Int) x) (sprS b)
  | 0, i, x, hi, hx, hj => by
    have e : x = sprS b := getD_ext (by rw [hx, spr_len]) fun j h => by
      rw [hx] at h
      rw [hj j h, spr_get b j h, pw_ge b j _ (by omega)]
    refine Ev.step ((Ev.const (x := some (sprS b)) rfl).congr fun n => ?_)
    · have h16 : x.take 16 = x := List.take_of_length_le (by omega)
      rw [F105_L1, decide_eq_false (by omega), iteB_f, h16, h16, grd_t _ (by omega), grd_t _ (by omega), grd_t _ (by omega), e]
  | r + 1, i, x, hi, hx, hj => by
    have hd4 : IntKind.wrap .i64 ((i : Int).tdiv 4) = ((i / 4 : Nat) : Int) := by
      rw [show (i : Int).tdiv 4 = ((i / 4 : Nat) : Int) from (Int.ofNat_tdiv i 4).symm, w64 (by omega)]
    have hm4 : (i : Int).tmod 4 = ((i % 4 : Nat) : Int) := modN i 4
    have h8 : IntKind.wrap .i64 ((8 : Int) * ((i % 4 : Nat) : Int)) = ((8 * (i % 4) : Nat) : Int) := by rw [w64 (by omega)]; omega
    have ht : b.take 64 = b := List.take_of_length_le (by omega)
    have hst := pw_step hb (i / 4) (i % 4) (by omega)
    have e4 : 4 * (i / 4) + i % 4 = i := by omega
    rw [e4] at hst
    have hget : x.getD (i / 4) 0 = pwS b (i / 4) (i % 4) := by rw [hj (i / 4) (by omega)]; congr 1; omega
    refine Ev.step ((spr_loop hb hl r (i + 1) (x.set (i / 4) (pwS b (i / 4) (i % 4 + 1))) (by omega) (by simp [hx]) fun j h => ?_).congr fun n => ?_)
    · rw [List.getD_eq_getElem?_getD, List.getElem?_set]
      by_cases e : i / 4 = j
      · subst e
        rw [if_pos rfl, if_pos (by omega)]
        show pwS b (i / 4) (i % 4 + 1) = _
        congr 1; omega
      · rw [if_neg e, ← List.getD_eq_getElem?_getD, hj j h]
        by_cases hlt : j < i / 4
        · rw [pw_ge b j _ (by omega), pw_ge b j _ (by omega)]
        · rw [show i - 4 * j = 0 by omega, show i + 1 - 4 * j = 0 by omega]
    · rw [F105_L1, decide_eq_true (by omega), iteB_t, hd4, hm4, h8, ht, int_default, toNat_nat, toNat_nat, toNat_nat, hget, or_byte _ (by omega) hst.1.1 hst.1.2 (hb.getD i), hst.2, g64 i (by omega)]
      rw [grd_t _ (by omega), grd_t _ (by omega), grd_t _ (by omega), grd_t _ (by omega), grd_t _ (by omega), grd_t _ (by omega)]
theorem ev_spread {b : List Int} (hb : Bytes b) (hl : b.length = 64) : Ev (fun n => F105 n b) (sprS b) := by
  refine (spr_loop hb hl 64 0 (List.replicate 16 0) rfl rfl fun j h => ?_).congr fun n => ?_
  · rw [List.getD_eq_getElem?_getD, List.getElem?_replicate, if_pos h, Nat.zero_sub]; rfl
  · rw [F105, grd_t _ (by omega)]; rfl
theorem sines_r (n : Nat) : F115 n = some sinesS := rfl
theorem sines_len : sinesS.length = 64 := rfl
def turnsI : List Int := [7, 12, 17, 22, 5, 9, 14, 20, 4, 11, 16, 23, 6, 10, 15, 21]
theorem turns_get (j : Nat) (h : j < 16) : turnsI.getD j 0 = ((turnsS.getD j 0 : Nat) : Int) := by
  have : ∀ j : Fin 16, turnsI.getD j.val 0 = ((turnsS.getD j.val 0 : Nat) : Int) := by decide
  exact this ⟨j, h⟩
theorem turn31 (i : Nat) (h : i < 64) : turnsS.getD (i / 16 * 4 + i % 4) 0 ≤ 31 := turns_le ⟨i, h⟩
theorem p_loop {b : List Int} (a0 : List Int × Int) : ∀ (r i : Nat) (s : Q4), i + r = 64 → R4 s → Ev (fun n => F82_L1 n a0 (sprS b) sinesS turnsI (i : Int) s.1 s.2.1 s.2.2.1 s.2.2.2) (l4 (addS (a0.1.getD 0 0, a0.1.getD 1 0, a0.1.getD 2 0, a0.1.getD 3 0) (runS b r i s)), IntKind.wrap .u64 (a0.2 + 64))
  | 0, i, s, hi, hs => by
    refine Ev.step ((Ev.const (x := some _) rfl).congr fun n => ?_)
    rw [F82_L1, decide_eq_false (by omega), iteB_f, int_default]
    rfl
  | r + 1, i, s, hi, hs => by
    have hk := kS_le i (by omega)
    have hm : ((kS i : Nat) : Int).tmod 16 = ((kS i % 16 : Nat) : Int) := modN (kS i) 16
    have hm4 : (i : Int).tmod 4 = ((i % 4 : Nat) : Int) := modN i 4
    have hd := div16 i (by omega)
    refine Ev.step ((p_loop a0 r (i + 1) (stepS b i s) (by omega) hs.step).congr fun n => ?_)
    rw [F82_L1, decide_eq_true (by omega), iteB_t, mix_p n i (by omega) hs.2.1 hs.2.2.2, bind_some']
    show grd (0 ≤ ((kS i : Nat) : Int).tmod 16 ∧ ((kS i : Nat) : Int).tmod 16 < 16) (grd ((((kS i : Nat) : Int).tmod 16).toNat < (sprS b).length) _) = _
    rw [hm, toNat_nat, spr_len, grd_t _ (by omega), grd_t _ (by omega), grd_t _ (by omega), toNat_nat, sines_len, grd_t _ (by omega), hd, hm4, grd_t _ (by omega), grd_t _ (by omega), toNat_nat, toNat_nat, grd_t _ (by show _ < 16; omega), int_default, turns_get _ (by omega), rot_p n _ _ (turn31 i (by omega)), bind_some', g64 i (by omega), spr_get b _ (by omega)]
    rfl
theorem ev_Block {b : List Int} (hb : Bytes b) (hl : b.length = 64) (s : Q4) (hs : R4 s) (m : Int) : Ev (fun n => F82 n (l4 s, m) b) (l4 (blkS b s), IntKind.wrap .u64 (m + 64)) := by
  have ht : b.take 64 = b := List.take_of_length_le (by omega)
  refine (Ev.bind (g := fun n v => F82_L1 n (l4 s, m) v sinesS turnsI ((0 : Nat) : Int) s.1 s.2.1 s.2.2.1 s.2.2.2 |> fun x => grd (v.length = 16) x) (ev_spread hb hl) ((p_loop (b := b) (l4 s, m) 64 0 s rfl hs).congr fun n => grd_t _ (spr_len b))).congr fun n => ?_
  rw [F82, grd_t _ (by omega), ht]
  rfl
theorem shl_at (t : Nat) (ht : t < 4) {c : Int} (hc : 0 ≤ c ∧ c ≤ 255) (m : Int) (hm : p256 t = m) (hc0 : 0 ≤ c * m) (hc1 : c * m ≤ 4294967295) : IntKind.wrap .u32 (bShl .u32 (IntKind.wrap .u32 c) (8 * t)) = c * m := by
  rw [wu32 (n := c) (by omega), shl_byte t ht, hm, wu32 (by omega)]
theorem word_r {b : List Int} (hb : Bytes b) (k : Nat) :
    IntKind.wrap .u32 (IntKind.wrap .u32 (IntKind.wrap .u32 (IntKind.wrap .u32 (b.getD (4 * k) 0) + IntKind.wrap .u32 (bShl .u32 (IntKind.wrap .u32 (b.getD (4 * k + 1) 0)) 8)) + IntKind.wrap .u32 (bShl .u32 (IntKind.wrap .u32 (b.getD (4 * k + 2) 0)) 16)) + IntKind.wrap .u32 (bShl .u32 (IntKind.wrap .u32 (b.getD (4 * k + 3) 0)) 24)) = wordS b k := by
  have h0 := hb.getD (4 * k)
  have h1 := hb.getD (4 * k + 1)
  have h2 := hb.getD (4 * k + 2)
  have h3 := hb.getD (4 * k + 3)
  rw [show (8 : Nat) = 8 * 1 from rfl, show (16 : Nat) = 8 * 2 from rfl, show (24 : Nat) = 8 * 3 from rfl, shl_at 1 (by omega) h1 256 rfl (by omega) (by omega), shl_at 2 (by omega) h2 65536 rfl (by omega) (by omega), shl_at 3 (by omega) h3 16777216 rfl (by omega) (by omega), wu32 (n := b.getD (4 * k) 0) (by omega), wu32 (n := b.getD (4 * k) 0 + b.getD (4 * k + 1) 0 * 256) (by omega), wu32 (n := b.getD (4 * k) 0 + b.getD (4 * k + 1) 0 * 256 + b.getD (4 * k + 2) 0 * 65536) (by omega), wu32 (n := b.getD (4 * k) 0 + b.getD (4 * k + 1) 0 * 256 + b.getD (4 * k + 2) 0 * 65536 + b.getD (4 * k + 3) 0 * 16777216) (by omega)]
  rfl
theorem J2_r {b : List Int} (hb : Bytes b) (hl : b.length = 64) (n i k : Nat) (hi : i < 64) (hk : k ≤ 500) (a0 : List Int × Int) (a c d e f : Int) :
    F101_J2 n b (i : Int) a0 sinesS a c d e f (k : Int) = F101_L1 n b a0 sinesS ((i + 1 : Nat) : Int) e (IntKind.wrap .u32 (c + rotS (IntKind.wrap .u32 (IntKind.wrap .u32 (IntKind.wrap .u32 (a + f) + wordS b (k % 16)) + sinesS.getD i 0)) (turnsS.getD (i / 16 * 4 + i % 4) 0))) c d := by
  have hm : (k : Int).tmod 16 = ((k % 16 : Nat) : Int) := modN k 16
  have hm4 : (i : Int).tmod 4 = ((i % 4 : Nat) : Int) := modN i 4
  have hd := div16 i hi
  have e0 : IntKind.wrap .i64 ((4 : Int) * ((k % 16 : Nat) : Int)) = ((4 * (k % 16) : Nat) : Int) := by rw [w64 (by omega)]; omega
  have e1 : IntKind.wrap .i64 (((4 * (k % 16) : Nat) : Int) + 1) = ((4 * (k % 16) + 1 : Nat) : Int) := by rw [w64 (by omega)]; omega
  have e2 : IntKind.wrap .i64 (((4 * (k % 16) : Nat) : Int) + 2) = ((4 * (k % 16) + 2 : Nat) : Int) := by rw [w64 (by omega)]; omega
  have e3 : IntKind.wrap .i64 (((4 * (k % 16) : Nat) : Int) + 3) = ((4 * (k % 16) + 3 : Nat) : Int) := by rw [w64 (by omega)]; omega
  have e4 : IntKind.wrap .i64 (((i / 16 : Nat) : Int) * 4) = ((i / 16 * 4 : Nat) : Int) := by rw [w64 (by omega)]; omega
  have e5 : IntKind.wrap .i64 (((i / 16 * 4 : Nat) : Int) + ((i % 4 : Nat) : Int)) = ((i / 16 * 4 + i % 4 : Nat) : Int) := by rw [w64 (by omega)]; omega
  rw [F101_J2, hm, e0, e1, e2, e3, hd, e4, hm4, e5]
  simp only [toNat_nat, int_default]
  rw [word_r hb, grd_t _ (by omega), grd_t _ (by omega), grd_t _ (by omega), grd_t _ (by omega), grd_t _ (by omega), sines_len, grd_t _ (by omega), grd_t _ (by omega), show ([7, 12, 17, 22, 5, 9, 14, 20, 4, 11, 16, 23, 6, 10, 15, 21] : List Int) = turnsI from rfl, turns_get _ (by omega), rot_r n _ _ (turn31 i hi), bind_some', g64 i (by omega)]
theorem r_loop {b : List Int} (hb : Bytes b) (hl : b.length = 64) (a0 : List Int × Int) : ∀ (r i : Nat) (s : Q4), i + r = 64 → R4 s → Ev (fun n => F101_L1 n b a0 sinesS (i : Int) s.1 s.2.1 s.2.2.1 s.2.2.2) (l4 (addS (a0.1.getD 0 0, a0.1.getD 1 0, a0.1.getD 2 0, a0.1.getD 3 0) (runS b r i s)), IntKind.wrap .u64 (a0.2 + 64))
  | 0, i, s, hi, hs => by
    refine Ev.step ((Ev.const (x := some _) rfl).congr fun n => ?_)
    rw [F101_L1, decide_eq_false (by omega), iteB_f, int_default]
    rfl
  | r + 1, i, s, hi, hs => by
    refine Ev.step ((r_loop hb hl a0 r (i + 1) (stepS b i s) (by omega) hs.step).congr fun n => ?_)
    have hfin := J2_r hb hl n i (kS i) (by omega) (kS_le i (by omega)) a0 s.1 s.2.1 s.2.2.1 s.2.2.2 (fS i s.2.1 s.2.2.1 s.2.2.2)
    refine Eq.trans ?_ hfin
    rw [F101_L1, decide_eq_true (by omega), iteB_t, show (0 : Int) = ((0 : Nat) : Int) from rfl, show ((IntKind.wrap .i64 ((i : Int).tdiv 16)) == (1 : Int)) = decide (i / 16 = 1) from q16 i 1 (by omega), show ((IntKind.wrap .i64 ((i : Int).tdiv 16)) == (2 : Int)) = decide (i / 16 = 2) from q16 i 2 (by omega), q16 i 0 (by omega), w64 (n := 5 * (i : Int)) (by omega), w64 (n := 5 * (i : Int) + 1) (by omega), w64 (n := 3 * (i : Int)) (by omega), w64 (n := 3 * (i : Int) + 5) (by omega), w64 (n := 7 * (i : Int)) (by omega)]
    unfold fS kS
    by_cases h0 : i / 16 = 0
    · rw [if_pos h0, if_pos h0, decide_eq_true h0]; rfl
    by_cases h1 : i / 16 = 1
    · rw [if_neg h0, if_neg h0, if_pos h1, if_pos h1, decide_eq_false h0, decide_eq_true h1]
      show F101_J2 _ _ _ _ _ _ _ _ _ _ _ = _
      congr 1
    by_cases h2 : i / 16 = 2
    · rw [if_neg h0, if_neg h0, if_neg h1, if_neg h1, if_pos h2, if_pos h2, decide_eq_false h0, decide_eq_false h1, decide_eq_true h2]
      show F101_J2 _ _ _ _ _ _ _ _ _ _ _ = _
      congr 1
    · rw [if_neg h0, if_neg h0, if_neg h1, if_neg h1, if_neg h2, if_neg h2, decide_eq_false h0, decide_eq_false h1, decide_eq_false h2]
      show F101_J2 _ _ _ _ _ _ _ _ _ _ _ = _
      congr 1
theorem ev_rBlock {b : List Int} (hb : Bytes b) (hl : b.length = 64) (s : Q4) (hs : R4 s) (m : Int) : Ev (fun n => F101 n (l4 s, m) b) (l4 (blkS b s), IntKind.wrap .u64 (m + 64)) := by
  refine (r_loop hb hl (l4 s, m) 64 0 s rfl hs).congr fun n => ?_
  rw [F101, sines_r, bind_some', grd_t _ sines_len]
  rfl
end Go.Proofs.YtaiapalhdejngaaX

/- MD5: the end, plainly. -/
set_option linter.unusedVariables false
set_option linter.unusedSimpArgs false
namespace Go.Proofs.YtaiapalhdejngaaX
open Go
def lenS (m : Int) (k : Nat) : Int := IntKind.wrap .u64 ((8 : Int) * (IntKind.wrap .u64 (m + (IntKind.wrap .u64 ((k : Nat) : Int)))))
def b8 (L : Int) (n : Nat) : Int := IntKind.wrap .u8 (bShr .u64 L n)
def lbS (m : Int) (k : Nat) : List Int := [b8 (lenS m k) 0, b8 (lenS m k) 8, b8 (lenS m k) 16, b8 (lenS m k) 24, b8 (lenS m k) 32, b8 (lenS m k) 40, b8 (lenS m k) 48, b8 (lenS m k) 56]
theorem lb_len (m : Int) (k : Nat) : (lbS m k).length = 8 := rfl
theorem wu8_bd (x : Int) : 0 ≤ IntKind.wrap .u8 x ∧ IntKind.wrap .u8 x ≤ 255 := by
  show 0 ≤ x % 256 ∧ x % 256 ≤ 255
  omega
theorem lb_bytes (m : Int) (k : Nat) : Bytes (lbS m k) := by
  intro x hx
  simp only [lbS, List.mem_cons, List.not_mem_nil, or_false] at hx
  rcases hx with rfl | rfl | rfl | rfl | rfl | rfl | rfl | rfl <;> exact wu8_bd _
def o4 (x : Int) : List Int := [IntKind.wrap .u8 (bShr .u32 x 0), IntKind.wrap .u8 (bShr .u32 x 8), IntKind.wrap .u8 (bShr .u32 x 16), IntKind.wrap .u8 (bShr .u32 x 24)]
def outS (s : Q4) : List Int := o4 s.1 ++ (o4 s.2.1 ++ (o4 s.2.2.1 ++ o4 s.2.2.2))
theorem o4_bytes (x : Int) : Bytes (o4 x) := by
  intro y hy
  simp only [o4, List.mem_cons, List.not_mem_nil, or_false] at hy
  rcases hy with rfl | rfl | rfl | rfl <;> exact wu8_bd _
theorem out_bytes (s : Q4) : Bytes (outS s) := (o4_bytes _).append ((o4_bytes _).append ((o4_bytes _).append (o4_bytes _)))
def zs (n : Nat) : List Int := List.replicate n 0
theorem zs_bytes (n : Nat) : Bytes (zs n) := fun x hx => by rw [List.eq_of_mem_replicate hx]; decide
theorem zs_len (n : Nat) : (zs n).length = n := List.length_replicate
def endS (s : Q4) (m : Int) (r : List Int) : List Int :=
  if r.length < 56 then outS (blkS (r ++ 128 :: (zs (55 - r.length) ++ lbS m r.length)) s)
  else outS (blkS (zs 56 ++ lbS m r.length) (blkS (r ++ 128 :: zs (63 - r.length)) s))
theorem end_len (s : Q4) (m : Int) (r : List Int) : (endS s m r).length = 16 := by unfold endS; split <;> rfl
theorem end_bytes (s : Q4) (m : Int) (r : List Int) : Bytes (endS s m r) := by unfold endS; split <;> exact out_bytes _
theorem sets8 {x : List Int} (hx : x.length = 64) (a0 a1 a2 a3 a4 a5 a6 a7 : Int) : (List.set (List.set (List.set (List.set (List.set (List.set (List.set (List.set x 56 a0) 57 a1) 58 a2) 59 a3) 60 a4) 61 a5) 62 a6) 63 a7).take 64 = x.take 56 ++ [a0, a1, a2, a3, a4, a5, a6, a7] := by
  obtain ⟨p, q, rfl, hp, hq⟩ : ∃ p q, x = p ++ q ∧ p.length = 56 ∧ q.length = 8 := ⟨x.take 56, x.drop 56, (List.take_append_drop 56 x).symm, by simp [hx], by simp [hx]⟩
  have ht : (p ++ q).take 56 = p := by rw [List.take_append_of_le_length (by omega), List.take_of_length_le (by omega)]
  rw [ht, List.take_of_length_le (by simp; omega)]
  match q, hq with
  | [b0, b1, b2, b3, b4, b5, b6, b7], _ => simp [List.set_append, hp]
def cutR (a1 : List Int) : List Int := a1.take (if (63 : Int) < (a1.length : Int) then (63 : Int) else (a1.length : Int)).toNat
theorem cutR_eq (a1 : List Int) : cutR a1 = a1.take 63 := by
  unfold cutR
  by_cases h : (63 : Int) < (a1.length : Int)
  · rw [if_pos h]; rfl
  · rw [if_neg h, toNat_nat, List.take_of_length_le (by omega), List.take_of_length_le (by omega)]
theorem J1_p (n : Nat) (a0 : List Int × Int) (a1 : List Int) (a b c d : Int) (m : Int) (x : List Int) (hx : x.length = 64) :
    F83_J1 n a0 a1 a b c d m x = (F82 n ([a, b, c, d], m) (x.take 56 ++ lbS a0.2 (cutR a1).length)).bind fun v => some (o4 (v.1.getD 0 0) ++ (o4 (v.1.getD 1 0) ++ (o4 (v.1.getD 2 0) ++ o4 (v.1.getD 3 0)))) := by
  rw [F83_J1, grd_t _ (by omega), grd_t _ (by omega), grd_t _ (by omega), grd_t _ (by omega), grd_t _ (by omega), grd_t _ (by omega), grd_t _ (by omega), grd_t _ (by omega), grd_t _ (by omega), sets8 hx]
  rfl
theorem set_at (r : List Int) (h : r.length ≤ 63) : List.set (r ++ (zs 64).drop r.length) ((r.length : Nat) : Int).toNat 128 = r ++ 128 :: zs (63 - r.length) := by
  rw [toNat_nat, List.set_append_right _ _ (Nat.le_refl _), Nat.sub_self]
  congr 1
  unfold zs
  rw [List.drop_replicate, show 64 - r.length = (63 - r.length) + 1 by omega, List.replicate_succ, List.set_cons_zero]
theorem F36_eq (n : Nat) (a0 : List Int × Int) (a1 : List Int) : F83 n a0 a1 =
    if (a1.take 63).length < 56 then F83_J1 n a0 a1 (a0.1.getD 0 0) (a0.1.getD 1 0) (a0.1.getD 2 0) (a0.1.getD 3 0) a0.2 (a1.take 63 ++ 128 :: zs (63 - (a1.take 63).length))
    else (F82 n (a0.1, a0.2) (a1.take 63 ++ 128 :: zs (63 - (a1.take 63).length))).bind fun v => F83_J1 n a0 a1 (v.1.getD 0 0) (v.1.getD 1 0) (v.1.getD 2 0) (v.1.getD 3 0) v.2 (zs 64) := by
  have hl : (cutR a1).length ≤ 63 := by rw [cutR_eq, List.length_take]; omega
  rw [← cutR_eq]
  have hs := set_at (cutR a1) hl
  have hc0 : 0 ≤ (if (63 : Int) < (a1.length : Int) then (63 : Int) else (a1.length : Int)) ∧ (if (63 : Int) < (a1.length : Int) then (63 : Int) else (a1.length : Int)) ≤ (a1.length : Int) := by split <;> omega
  have hz : (cutR a1).length + ((zs 64).drop (cutR a1).length).length = 64 := by rw [List.length_drop, zs_len]; omega
  have hw : (cutR a1 ++ 128 :: zs (63 - (cutR a1).length)).length = 64 := by rw [List.length_append, List.length_cons, zs_len]; omega
  unfold F83
  change grd (0 ≤ (if (63 : Int) < (a1.length : Int) then (63 : Int) else (a1.length : Int)) ∧ (if (63 : Int) < (a1.length : Int) then (63 : Int) else (a1.length : Int)) ≤ (a1.length : Int)) (grd ((cutR a1).length ≤ 64) (grd (0 ≤ ((cutR a1).length : Int) ∧ ((cutR a1).length : Int) < (64 : Int)) (grd (((cutR a1).length : Int).toNat < (cutR a1).length + ((zs 64).drop (cutR a1).length).length) (iteB (decide ((56 : Int) ≤ ((cutR a1).length : Int))) (grd (64 ≤ (cutR a1).length + ((zs 64).drop (cutR a1).length).length) ((F82 n (a0.1, a0.2) ((List.set (cutR a1 ++ (zs 64).drop (cutR a1).length) ((cutR a1).length : Int).toNat 128).take 64)).bind fun v10 => grd ((cutR a1).length + ((zs 64).drop (cutR a1).length).length = 64) (F83_J1 n a0 a1 (v10.1.getD 0 0) (v10.1.getD 1 0) (v10.1.getD 2 0) (v10.1.getD 3 0) v10.2 (zs 64)))) (F83_J1 n a0 a1 (a0.1.getD 0 0) (a0.1.getD 1 0) (a0.1.getD 2 0) (a0.1.getD 3 0) a0.2 (List.set (cutR a1 ++ (zs 64).drop (cutR a1).length) ((cutR a1).length : Int).toNat 128)))))) = _
  rw [hs, List.take_of_length_le (l := cutR a1 ++ _) (Nat.le_of_eq hw), grd_t _ hc0, grd_t _ (by omega), grd_t _ (by omega), grd_t _ (by rw [toNat_nat]; omega), grd_t _ (by omega)]
  by_cases h : (cutR a1).length < 56
  · rw [if_pos h, decide_eq_false (by omega), iteB_f]
  · rw [if_neg h, decide_eq_true (by omega), iteB_t]
    congr 1
    funext v
    rw [grd_t _ hz]
theorem blk_at {r : List Int} (hr : Bytes r) (hl : r.length ≤ 63) : Bytes (r ++ 128 :: zs (63 - r.length)) ∧ (r ++ 128 :: zs (63 - r.length)).length = 64 := by
  refine ⟨hr.append (Bytes.cons (by decide) (zs_bytes _)), ?_⟩
  rw [List.length_append, List.length_cons, zs_len]; omega
theorem ev_End {a1 : List Int} (hb : Bytes a1) (s : Q4) (hs : R4 s) (m : Int) : Ev (fun n => F83 n (l4 s, m) a1) (endS s m (a1.take 63)) := by
  have hr : Bytes (a1.take 63) := hb.take 63
  have hl : (a1.take 63).length ≤ 63 := by rw [List.length_take]; omega
  have hc := cutR_eq a1
  unfold endS
  by_cases h : (a1.take 63).length < 56
  · rw [if_pos h]
    have hx := blk_at hr hl
    have hk : Bytes (a1.take 63 ++ 128 :: (zs (55 - (a1.take 63).length) ++ lbS m (a1.take 63).length)) := hr.append (Bytes.cons (by decide) ((zs_bytes _).append (lb_bytes _ _)))
    have hkl : (a1.take 63 ++ 128 :: (zs (55 - (a1.take 63).length) ++ lbS m (a1.take 63).length)).length = 64 := by
      rw [List.length_append, List.length_cons, List.length_append, zs_len, lb_len]; omega
    refine ((ev_Block hk hkl s hs m).bind (g := fun n v => some (o4 (v.1.getD 0 0) ++ (o4 (v.1.getD 1 0) ++ (o4 (v.1.getD 2 0) ++ o4 (v.1.getD 3 0))))) (Ev.const rfl)).congr fun n => ?_
    · rw [F36_eq, if_pos h]
      show F83_J1 n _ a1 s.1 s.2.1 s.2.2.1 s.2.2.2 m _ = _
      rw [J1_p n _ a1 _ _ _ _ m _ hx.2, hc]
      congr 2
      rw [List.take_append, List.take_of_length_le (by omega), show 56 - (a1.take 63).length = (55 - (a1.take 63).length) + 1 by omega, List.take_succ_cons]
      unfold zs
      rw [List.take_replicate, Nat.min_eq_left (by omega), List.append_assoc, List.cons_append]
  · rw [if_neg h]
    have hx := blk_at hr hl
    have hk : Bytes (zs 56 ++ lbS m (a1.take 63).length) := (zs_bytes _).append (lb_bytes _ _)
    have hkl : (zs 56 ++ lbS m (a1.take 63).length).length = 64 := by rw [List.length_append, zs_len, lb_len]
    refine ((ev_Block hx.1 hx.2 s hs m).bind (g := fun n v => F83_J1 n (l4 s, m) a1 (v.1.getD 0 0) (v.1.getD 1 0) (v.1.getD 2 0) (v.1.getD 3 0) v.2 (zs 64)) (((ev_Block hk hkl (blkS (a1.take 63 ++ 128 :: zs (63 - (a1.take 63).length)) s) (R4.blk _ _) (IntKind.wrap .u64 (m + 64))).bind (g := fun n v => some (o4 (v.1.getD 0 0) ++ (o4 (v.1.getD 1 0) ++ (o4 (v.1.getD 2 0) ++ o4 (v.1.getD 3 0))))) (Ev.const rfl)).congr fun n => ?_)).congr fun n => ?_
    · show F83_J1 n _ a1 _ _ _ _ _ _ = _
      rw [J1_p n _ a1 _ _ _ _ _ _ (zs_len 64), hc]
      congr 2
    · rw [F36_eq, if_neg h]
/-! The reference's. -/
theorem ev_L3 (a0 : List Int × Int) (x3 x6 X : List Int) (hX : X = x6 ++ lbS a0.2 x3.length) (hb : Bytes X) (h64 : ∃ k, X.length = 64 * k ∧ k ≤ 2) : ∀ (k i : Nat) (s : Q4) (m : Int), 64 * i + 64 * k = X.length → R4 s → ∃ t : Q4, (t = (if k = 0 then s else if k = 1 then blkS ((X.drop (64 * i)).take 64) s else blkS ((X.drop (64 * (i + 1))).take 64) (blkS ((X.drop (64 * i)).take 64) s)) ∨ 2 < k) ∧
    Ev (fun n => F102_L3 n x6 a0 x3 ((64 * i : Nat) : Int) s.1 s.2.1 s.2.2.1 s.2.2.2 m) (outS t)
  | 0, i, s, m, hi, hs => by
    have hx : X.length = x6.length + 8 := by rw [hX, List.length_append, lb_len]
    refine ⟨s, .inl (by rw [if_pos rfl]), Ev.step ((Ev.const (x := some (outS s)) rfl).congr fun n => ?_)⟩
    rw [F102_L3, decide_eq_false (by omega), iteB_f]
    rfl
  | k + 1, i, s, m, hi, hs => by
    have hx : X.length = x6.length + 8 := by rw [hX, List.length_append, lb_len]
    obtain ⟨q, hq, hq2⟩ := h64
    have hbk : Bytes ((X.drop (64 * i)).take 64) := (hb.drop _).take _
    have hbl : ((X.drop (64 * i)).take 64).length = 64 := by rw [List.length_take, List.length_drop]; omega
    have hw : IntKind.wrap .i64 (((64 * i : Nat) : Int) + 64) = ((64 * (i + 1) : Nat) : Int) := by rw [w64 (by omega)]; omega
    obtain ⟨t, ht, e⟩ := ev_L3 a0 x3 x6 X hX hb ⟨q, hq, hq2⟩ k (i + 1) (blkS ((X.drop (64 * i)).take 64) s) (IntKind.wrap .u64 (m + 64)) (by omega) (R4.blk _ _)
    refine ⟨t, ?_, Ev.step (((ev_rBlock hbk hbl s hs m).bind (g := fun n v => F102_L3 n x6 a0 x3 ((64 * (i + 1) : Nat) : Int) (v.1.getD 0 0) (v.1.getD 1 0) (v.1.getD 2 0) (v.1.getD 3 0) v.2) e).congr fun n => ?_)⟩
    · rcases ht with ht | ht
      · by_cases h2 : 2 < k + 1
        · exact .inr h2
        left
        match k, h2 with
        | 0, _ => rw [ht]; rfl
        | 1, _ => rw [ht]; rfl
        | k + 2, h2 => exact absurd (by omega) h2
      · exact .inr (by omega)
    · rw [F102_L3, decide_eq_true (by omega), iteB_t, hw, toNat_nat, toNat_nat, grd_t _ (by omega), show 64 * (i + 1) - 64 * i = 64 by omega]
      rw [hX]
      simp only [List.append_assoc, List.cons_append, List.nil_append]
      rfl
theorem ev_L2 (a0 : List Int × Int) (x3 : List Int) (res : List Int) : ∀ (z : Nat) (x6 : List Int), (x6.length + z) % 64 = 56 → (∀ y, y < z → (x6.length + y) % 64 ≠ 56) → x6.length + z ≤ 1000 → Ev (fun n => F102_L3 n (x6 ++ zs z) a0 x3 (0 : Int) (a0.1.getD 0 0) (a0.1.getD 1 0) (a0.1.getD 2 0) (a0.1.getD 3 0) a0.2) res → Ev (fun n => F102_L2 n a0 x3 x6) res
  | 0, x6, h, hy, hl, e => by
    refine Ev.step (e.congr fun n => ?_)
    have hm : (x6.length : Int).tmod 64 = 56 := by rw [show (x6.length : Int).tmod 64 = ((x6.length % 64 : Nat) : Int) from modN _ 64]; omega
    rw [F102_L2, hm, show ((56 : Int) != 56) = false by decide, iteB_f, grd_t _ (by omega), grd_t _ (by omega), grd_t _ (by omega), grd_t _ (by omega), grd_t _ (by omega), grd_t _ (by omega), grd_t _ (by omega), grd_t _ (by omega), show x6 ++ zs 0 = x6 from List.append_nil x6]
    rfl
  | z + 1, x6, h, hy, hl, e => by
    have hne := hy 0 (by omega)
    have hm : ((x6.length : Int).tmod 64 != 56) = true := by
      rw [show (x6.length : Int).tmod 64 = ((x6.length % 64 : Nat) : Int) from modN _ 64]
      rw [bne_iff_ne]; omega
    refine Ev.step ((ev_L2 a0 x3 res z (x6 ++ [0]) (by simp; omega) (fun y hyz => by have := hy (y + 1) (by omega); simp; omega) (by simp; omega) ?_).congr fun n => ?_)
    · rw [List.append_assoc]; exact e
    · rw [F102_L2, hm, iteB_t, grd_t _ (by omega)]
theorem ev_rJ1 {x3 : List Int} (hb : Bytes x3) (hl : x3.length ≤ 63) (s : Q4) (hs : R4 s) (m : Int) : Ev (fun n => F102_J1 n (l4 s, m) x3) (endS s m x3) := by
  have hb1 : Bytes (x3 ++ [128]) := hb.append (Bytes.cons (by decide) Bytes.nil)
  have key : ∀ z, (x3.length + 1 + z) % 64 = 56 → (∀ y, y < z → (x3.length + 1 + y) % 64 ≠ 56) → x3.length + 1 + z ≤ 120 →
      Ev (fun n => F102_L3 n ((x3 ++ [128]) ++ zs z) (l4 s, m) x3 (0 : Int) s.1 s.2.1 s.2.2.1 s.2.2.2 m) (endS s m x3) → Ev (fun n => F102_J1 n (l4 s, m) x3) (endS s m x3) := by
    intro z h1 h2 h3 e
    refine (ev_L2 (l4 s, m) x3 (endS s m x3) z (x3 ++ [128]) (by simpa using h1) (by simpa using h2) (by simp; omega) e).congr fun n => ?_
    rw [F102_J1, grd_t _ (by omega), grd_t _ (by omega)]
  by_cases h : x3.length < 56
  · refine key (55 - x3.length) (by omega) (fun y hy => by omega) (by omega) ?_
    have hX : Bytes (((x3 ++ [128]) ++ zs (55 - x3.length)) ++ lbS m x3.length) := (hb1.append (zs_bytes _)).append (lb_bytes _ _)
    have hXl : (((x3 ++ [128]) ++ zs (55 - x3.length)) ++ lbS m x3.length).length = 64 := by simp [zs_len, lb_len]; omega
    obtain ⟨t, ht, e⟩ := ev_L3 (l4 s, m) x3 ((x3 ++ [128]) ++ zs (55 - x3.length)) _ rfl hX ⟨1, hXl, by omega⟩ 1 0 s m (by rw [hXl]) hs
    rcases ht with ht | ht
    · have : endS s m x3 = outS t := by
        rw [ht]
        unfold endS
        rw [if_pos h, if_neg (by omega), if_pos rfl, Nat.mul_zero, List.drop_zero, List.take_of_length_le (Nat.le_of_eq hXl)]
        congr 2
        simp only [List.append_assoc, List.cons_append, List.nil_append]
      rw [this]; exact e
    · omega
  · refine key (119 - x3.length) (by omega) (fun y hy => by omega) (by omega) ?_
    have hX : Bytes (((x3 ++ [128]) ++ zs (119 - x3.length)) ++ lbS m x3.length) := (hb1.append (zs_bytes _)).append (lb_bytes _ _)
    have hXl : (((x3 ++ [128]) ++ zs (119 - x3.length)) ++ lbS m x3.length).length = 128 := by simp [zs_len, lb_len]; omega
    obtain ⟨t, ht, e⟩ := ev_L3 (l4 s, m) x3 ((x3 ++ [128]) ++ zs (119 - x3.length)) _ rfl hX ⟨2, hXl, by omega⟩ 2 0 s m (by rw [hXl]) hs
    have hsp : ((x3 ++ [128]) ++ zs (119 - x3.length)) ++ lbS m x3.length = (x3 ++ 128 :: zs (63 - x3.length)) ++ (zs 56 ++ lbS m x3.length) := by
      have : zs (119 - x3.length) = zs (63 - x3.length) ++ zs 56 := by
        unfold zs; rw [List.replicate_append_replicate]; congr 1; omega
      rw [this]
      simp only [List.append_assoc, List.cons_append, List.nil_append]
    have hal := (blk_at hb hl).2
    rcases ht with ht | ht
    · have : endS s m x3 = outS t := by
        rw [ht]
        unfold endS
        rw [if_neg h, if_neg (by omega), if_neg (by omega), Nat.mul_zero, List.drop_zero, hsp, List.take_append_of_le_length (by omega), List.take_of_length_le (Nat.le_of_eq hal)]
        show _ = outS (blkS ((List.drop 64 _).take 64) _)
        rw [List.drop_append, List.drop_of_length_le (Nat.le_of_eq hal), hal, Nat.sub_self, List.drop_zero, List.nil_append, List.take_of_length_le (by rw [List.length_append, zs_len, lb_len]; omega)]
      rw [this]; exact e
    · omega
theorem ev_rEnd {a1 : List Int} (hb : Bytes a1) (s : Q4) (hs : R4 s) (m : Int) : Ev (fun n => F102 n (l4 s, m) a1) (endS s m (a1.take 63)) := by
  by_cases h : (63 : Int) < (a1.length : Int)
  · refine (ev_rJ1 (hb.take 63) (by rw [List.length_take]; omega) s hs m).congr fun n => ?_
    rw [F102, decide_eq_true h, iteB_t, grd_t _ (by omega)]
  · rw [List.take_of_length_le (by omega)]
    refine (ev_rJ1 hb (by omega) s hs m).congr fun n => ?_
    rw [F102, decide_eq_false h, iteB_f]
end Go.Proofs.YtaiapalhdejngaaX

/- MD5: sums and digits, plainly. -/
set_option linter.unusedVariables false
set_option linter.unusedSimpArgs false
namespace Go.Proofs.YtaiapalhdejngaaX
open Go
def s0 : Q4 := (1732584193, 4023233417, 2562383102, 271733878)
theorem R4_s0 : R4 s0 := ⟨⟨by decide, by decide⟩, ⟨by decide, by decide⟩, ⟨by decide, by decide⟩, ⟨by decide, by decide⟩⟩
def sumL : Nat → List Int → Q4 → Int → List Int
  | 0, b, s, m => endS s m b
  | k + 1, b, s, m => if 64 ≤ b.length then sumL k (b.drop 64) (blkS (b.take 64) s) (IntKind.wrap .u64 (m + 64)) else endS s m b
def sumS (b : List Int) : List Int := sumL b.length b s0 0
theorem sumL_len : ∀ (k : Nat) (b : List Int) (s : Q4) (m : Int), (sumL k b s m).length = 16
  | 0, b, s, m => end_len _ _ _
  | k + 1, b, s, m => by
    unfold sumL
    split
    · exact sumL_len k _ _ _
    · exact end_len _ _ _
theorem sumL_bytes : ∀ (k : Nat) (b : List Int) (s : Q4) (m : Int), Bytes (sumL k b s m)
  | 0, b, s, m => end_bytes _ _ _
  | k + 1, b, s, m => by
    unfold sumL
    split
    · exact sumL_bytes k _ _ _
    · exact end_bytes _ _ _
theorem ev_p1 : ∀ (k : Nat) (b : List Int) (s : Q4) (m : Int), Bytes b → R4 s → b.length ≤ k → Ev (fun n => F45_L1 n b s.1 s.2.1 s.2.2.1 s.2.2.2 m) (sumL k b s m) := by
  have fin : ∀ (b : List Int) (s : Q4) (m : Int), Bytes b → R4 s → b.length < 64 → Ev (fun n => F45_L1 n b s.1 s.2.1 s.2.2.1 s.2.2.2 m) (endS s m b) := by
    intro b s m hb hs h
    have he := ev_End hb s hs m
    rw [List.take_of_length_le (by omega)] at he
    refine Ev.step ((he.bind (g := fun n v => grd (v.length = 16) (grd (16 ≤ v.length) (some (v.take 16)))) (Ev.const ?_)).congr fun n => ?_)
    · have hl := end_len s m b
      rw [grd_t _ hl, grd_t _ (by omega), List.take_of_length_le (by omega)]
    · rw [F45_L1, decide_eq_false (by omega), iteB_f]
      rfl
  intro k
  induction k with
  | zero => intro b s m hb hs h; exact fin b s m hb hs (by omega)
  | succ k ih =>
    intro b s m hb hs h
    unfold sumL
    by_cases h64 : 64 ≤ b.length
    · rw [if_pos h64]
      have hbk : (b.take 64).length = 64 := by rw [List.length_take]; omega
      refine Ev.step (((ev_Block (hb.take 64) hbk s hs m).bind (g := fun n v => F45_L1 n (b.drop 64) (v.1.getD 0 0) (v.1.getD 1 0) (v.1.getD 2 0) (v.1.getD 3 0) v.2) (ih (b.drop 64) (blkS (b.take 64) s) (IntKind.wrap .u64 (m + 64)) (hb.drop 64) (R4.blk _ _) (by rw [List.length_drop]; omega))).congr fun n => ?_)
      rw [F45_L1, decide_eq_true (by omega), iteB_t, grd_t _ (by omega), grd_t _ (by omega), List.take_of_length_le (Nat.le_of_eq hbk)]
      show Option.bind (_) _ = Option.bind _ _
      congr 1
      funext v
      rw [grd_t _ (by omega)]
      rfl
    · rw [if_neg h64]; exact fin b s m hb hs (by omega)
theorem ev_r1 : ∀ (k : Nat) (b : List Int) (s : Q4) (m : Int), Bytes b → R4 s → b.length ≤ k → Ev (fun n => F77_L1 n b s.1 s.2.1 s.2.2.1 s.2.2.2 m) (sumL k b s m) := by
  have fin : ∀ (b : List Int) (s : Q4) (m : Int), Bytes b → R4 s → b.length < 64 → Ev (fun n => F77_L1 n b s.1 s.2.1 s.2.2.1 s.2.2.2 m) (endS s m b) := by
    intro b s m hb hs h
    have he := ev_rEnd hb s hs m
    rw [List.take_of_length_le (by omega)] at he
    refine Ev.step ((he.bind (g := fun n v => grd (v.length = 16) (grd (16 ≤ v.length) (some (v.take 16)))) (Ev.const ?_)).congr fun n => ?_)
    · have hl := end_len s m b
      rw [grd_t _ hl, grd_t _ (by omega), List.take_of_length_le (by omega)]
    · rw [F77_L1, decide_eq_false (by omega), iteB_f]
      rfl
  intro k
  induction k with
  | zero => intro b s m hb hs h; exact fin b s m hb hs (by omega)
  | succ k ih =>
    intro b s m hb hs h
    unfold sumL
    by_cases h64 : 64 ≤ b.length
    · rw [if_pos h64]
      have hbk : (b.take 64).length = 64 := by rw [List.length_take]; omega
      refine Ev.step (((ev_rBlock (hb.take 64) hbk s hs m).bind (g := fun n v => F77_L1 n (b.drop 64) (v.1.getD 0 0) (v.1.getD 1 0) (v.1.getD 2 0) (v.1.getD 3 0) v.2) (ih (b.drop 64) (blkS (b.take 64) s) (IntKind.wrap .u64 (m + 64)) (hb.drop 64) (R4.blk _ _) (by rw [List.length_drop]; omega))).congr fun n => ?_)
      rw [F77_L1, decide_eq_true (by omega), iteB_t, grd_t _ (by omega)]
      show Option.bind (_) _ = Option.bind _ _
      congr 1
      funext v
      rw [grd_t _ (by omega)]
      rfl
    · rw [if_neg h64]; exact fin b s m hb hs (by omega)
theorem ev_Sum {b : List Int} (hb : Bytes b) : Ev (fun n => F45 n b) (sumS b) := by
  refine (ev_p1 b.length b s0 0 hb R4_s0 (Nat.le_refl _)).congr fun n => ?_
  rw [F45]; rfl
theorem ev_rSum {b : List Int} (hb : Bytes b) : Ev (fun n => F77 n b) (sumS b) := by
  refine (ev_r1 b.length b s0 0 hb R4_s0 (Nat.le_refl _)).congr fun n => ?_
  rw [F77]; rfl
/-! Digits. -/
def dgt (k : Nat) : UInt8 := ([48, 49, 50, 51, 52, 53, 54, 55, 56, 57, 97, 98, 99, 100, 101, 102] : List UInt8).getD k 0
def txt2 (c : Int) : List UInt8 := [dgt (c / 16).toNat, dgt (c % 16).toNat]
def txtS (l : List Int) : List UInt8 := l.flatMap txt2
theorem txt_len : ∀ l : List Int, (txtS l).length = 2 * l.length
  | [] => rfl
  | c :: l => by
    have := txt_len l
    unfold txtS at this ⊢
    rw [List.flatMap_cons, List.length_append, this, List.length_cons]
    show 2 + _ = _
    omega
theorem txt_snoc (l : List Int) (c : Int) : txtS (l ++ [c]) = txtS l ++ txt2 c := by unfold txtS; rw [List.flatMap_append, List.flatMap_cons, List.flatMap_nil, List.append_nil]
theorem toB_nat (c : UInt8) : toB (c.toNat : Int) = c := by
  show UInt8.ofNat ((c.toNat : Int)).toNat = c
  rw [toNat_nat]; simp
theorem hi4 {c : Int} (h : 0 ≤ c ∧ c ≤ 255) : bShr .u8 c 4 = c / 16 := bShr_div .u8 c 4 16 (by decide) (by decide)
theorem lo4 {c : Int} (h : 0 ≤ c ∧ c ≤ 255) : IntKind.wrap .u8 (bAnd .u8 c 15) = c % 16 := by
  rw [bAnd_low .u8 4 c h.1 (by show c < 256; omega) (by decide) 15 (by decide), wu8 (by omega)]
  rfl
theorem take_snoc {l : List Int} {i : Nat} (h : i < l.length) : l.take (i + 1) = l.take i ++ [l.getD i 0] := by
  rw [List.take_succ_eq_append_getElem h, List.getD_eq_getElem?_getD, List.getElem?_eq_getElem h]; rfl
theorem ev_t1 {v : List Int} (hv : Bytes v) (hl : v.length = 16) : ∀ (r i : Nat) (x : List Int), i + r = 16 → x.length = 2 * i → x.map toB = txtS (v.take i) → Ev (fun n => F54_L1 n v (i : Int) x) (txtS v)
  | 0, i, x, hi, hx, he => by
    rw [List.take_of_length_le (by omega)] at he
    refine Ev.step ((Ev.const (x := some (txtS v)) rfl).congr fun n => ?_)
    rw [F54_L1, decide_eq_false (by omega), iteB_f, he]
  | r + 1, i, x, hi, hx, he => by
    have hc := hv.getD i
    refine Ev.step ((ev_t1 hv hl r (i + 1) (x ++ [((dgt (v.getD i 0 / 16).toNat).toNat : Int), ((dgt (v.getD i 0 % 16).toNat).toNat : Int)]) (by omega) (by simp [hx]; omega) ?_).congr fun n => ?_)
    · rw [take_snoc (by omega), txt_snoc, List.map_append, he]
      congr 1
      simp only [List.map_cons, List.map_nil, toB_nat]
      rfl
    · rw [F54_L1, decide_eq_true (by omega), iteB_t, toNat_nat, int_default, hi4 hc, lo4 hc, grd_t _ (by omega), grd_t _ (by omega), grd_t _ (by omega), grd_t _ (by omega), g64 i (by omega)]
      rfl
theorem cut1 (k : Nat) (h : k < 16) : (([48, 49, 50, 51, 52, 53, 54, 55, 56, 57, 97, 98, 99, 100, 101, 102] : List UInt8).take (k + 1)).drop k = [dgt k] := by
  have : ∀ k : Fin 16, (([48, 49, 50, 51, 52, 53, 54, 55, 56, 57, 97, 98, 99, 100, 101, 102] : List UInt8).take (k.val + 1)).drop k.val = [dgt k.val] := by decide
  exact this ⟨k, h⟩
theorem ev_rt1 {v : List Int} (hv : Bytes v) (hl : v.length = 16) : ∀ (r i : Nat) (x : List UInt8), i + r = 16 → x = txtS (v.take i) → Ev (fun n => F40_L1 n v x (i : Int)) (txtS v)
  | 0, i, x, hi, he => by
    rw [List.take_of_length_le (by omega)] at he
    refine Ev.step ((Ev.const (x := some (txtS v)) rfl).congr fun n => ?_)
    rw [F40_L1, decide_eq_false (by omega), iteB_f, he]
  | r + 1, i, x, hi, he => by
    have hc := hv.getD i
    have hx : x.length ≤ 32 := by rw [he, txt_len, List.length_take]; omega
    obtain ⟨a, ha⟩ : ∃ a : Nat, v.getD i 0 / 16 = (a : Int) := ⟨(v.getD i 0 / 16).toNat, by omega⟩
    obtain ⟨b, hb⟩ : ∃ b : Nat, v.getD i 0 % 16 = (b : Int) := ⟨(v.getD i 0 % 16).toNat, by omega⟩
    have hd : IntKind.wrap .u8 ((v.getD i 0).tdiv 16) = (a : Int) := by
      rw [Int.tdiv_eq_ediv_of_nonneg hc.1, ha, wu8 (by omega)]
    have hm : (v.getD i 0).tmod 16 = (b : Int) := by rw [Int.tmod_eq_emod_of_nonneg hc.1, hb]
    have hd1 : IntKind.wrap .u8 ((a : Int) + 1) = ((a + 1 : Nat) : Int) := by rw [wu8 (by omega)]; omega
    have hm1 : IntKind.wrap .u8 ((b : Int) + 1) = ((b + 1 : Nat) : Int) := by rw [wu8 (by omega)]; omega
    refine Ev.step ((ev_rt1 hv hl r (i + 1) ((x ++ [dgt a]) ++ [dgt b]) (by omega) ?_).congr fun n => ?_)
    · rw [take_snoc (by omega), txt_snoc, he]
      unfold txt2
      rw [ha, hb, toNat_nat, toNat_nat, List.append_assoc]; rfl
    · rw [F40_L1, decide_eq_true (by omega), iteB_t]
      simp only [toNat_nat, int_default, hd, hm, hd1, hm1]
      rw [cut1 a (by omega), cut1 b (by omega)]
      simp only [List.length_cons, List.length_nil]
      repeat rw [grd_t _ (by omega)]
      rw [g64 i (by omega)]
theorem ev_Text {b : List Int} (hb : Bytes b) : Ev (fun n => F54 n b) (txtS (sumS b)) := by
  refine ((ev_Sum hb).bind (g := fun n v => F54_L1 n v ((0 : Nat) : Int) []) (ev_t1 (sumL_bytes _ _ _ _) (sumL_len _ _ _ _) 16 0 [] rfl rfl rfl)).congr fun n => ?_
  rw [F54]; rfl
theorem ev_rText {b : List Int} (hb : Bytes b) : Ev (fun n => F40 n b) (txtS (sumS b)) := by
  refine ((ev_rSum hb).bind (g := fun n v => grd (v.length = 16) (F40_L1 n v [] ((0 : Nat) : Int))) ?_).congr fun n => ?_
  · exact (ev_rt1 (sumL_bytes _ _ _ _) (sumL_len _ _ _ _) 16 0 [] rfl rfl).congr fun n => grd_t _ (sumL_len _ _ _ _)
  · rw [F40]; rfl
theorem sum_abc : txtS (sumS [97, 98, 99]) = [57, 48, 48, 49, 53, 48, 57, 56, 51, 99, 100, 50, 52, 102, 98, 48, 100, 54, 57, 54, 51, 102, 55, 100, 50, 56, 101, 49, 55, 102, 55, 50] := by decide +kernel
end Go.Proofs.YtaiapalhdejngaaX

/- hex.ReadDecimal. -/
set_option linter.unusedVariables false
set_option linter.unusedSimpArgs false
namespace Go.Proofs.YtaiapalhdejngaaX
open Go
def decP : List UInt8 → Int → Int × Bool
  | [], n => (n, true)
  | c :: l, n => if kindOf (c.toNat : Int) = 1 then decP l (n * 10 + ((c.toNat : Int) - 48)) else (0, false)
theorem kind_one {c : Int} (h : kindOf c = 1) : 48 ≤ c ∧ c ≤ 57 := by
  unfold kindOf at h
  split at h
  · assumption
  · split at h
    · omega
    · split at h
      · omega
      · split at h <;> omega
theorem pow10 (i : Nat) (h : i ≤ 17) : 1 ≤ (10 : Int) ^ i ∧ (10 : Int) ^ i ≤ 100000000000000000 ∧ (10 : Int) ^ (i + 1) = 10 ^ i * 10 := by
  have h1 : (10 : Nat) ^ i ≤ 10 ^ 17 := Nat.pow_le_pow_right (by omega) h
  have h2 : 1 ≤ (10 : Nat) ^ i := Nat.pos_of_ne_zero (by simp)
  have h3 : ((10 : Nat) ^ i : Nat) = ((10 : Int) ^ i) := by simp
  refine ⟨by omega, by omega, Int.pow_succ _ _⟩
theorem ev_dec_l (l : List UInt8) (hl : l.length ≤ 18) : ∀ (d i : Nat) (x : Int), i + d = l.length → 0 ≤ x ∧ x < (10 : Int) ^ i → Ev (fun k => F78_L1 k l x (i : Int)) (decP (l.drop i) x) := by
  intro d
  induction d with
  | zero =>
    intro i x hi hx
    rw [List.drop_of_length_le (by omega)]
    refine Ev.step (Ev.pure.congr fun k => ?_)
    rw [F78_L1, decide_eq_false (by omega), iteB_f]; rfl
  | succ d ih =>
    intro i x hi hx
    rw [drop_cons l i 0 (by omega), decP]
    obtain ⟨p1, p2, p3⟩ := pow10 i (by omega)
    have hb := u8_lt (l.getD i 0)
    have w1 : IntKind.wrap .i64 ((i : Int) + 1) = ((i + 1 : Nat) : Int) := by rw [w64 (by omega)]; omega
    generalize hc : l.getD i 0 = c at *
    by_cases hk : kindOf (c.toNat : Int) = 1
    · rw [if_pos hk]
      have hk' := kind_one hk
      have e := ih (i + 1) (x * 10 + ((c.toNat : Int) - 48)) (by omega) (by rw [p3]; omega)
      refine Ev.step (e.congr fun k => ?_)
      rw [F78_L1, decide_eq_true (by omega), iteB_t, grd_t _ (by omega), toNat_nat, hc, F70, bind_some', hk]
      show iteB false _ _ = _
      rw [iteB_f, grd_t _ (by omega), wu8 (by omega), w64 (n := (c.toNat : Int) - 48) (by omega), w64 (n := x * 10) (by omega), w64 (n := x * 10 + _) (by omega), w1]
    · rw [if_neg hk]
      refine Ev.step (Ev.pure.congr fun k => ?_)
      rw [F78_L1, decide_eq_true (by omega), iteB_t, grd_t _ (by omega), toNat_nat, hc, F70, bind_some', show (kindOf (c.toNat : Int) != 1) = true by rw [bne_iff_ne]; exact hk, iteB_t]
def readD (l : List UInt8) : Int × Bool := if l = [] ∨ 18 < l.length then (0, false) else decP l 0
theorem ev_ReadDecimal (l : List UInt8) : Ev (fun k => F78 k l) (readD l) := by
  unfold readD
  cases l with
  | nil => rw [if_pos (Or.inl rfl)]; exact Ev.pure.congr fun k => rfl
  | cons a l =>
    by_cases h : 18 < (a :: l).length
    · rw [if_pos (Or.inr h)]
      refine Ev.pure.congr fun k => ?_
      rw [F78, show ((a :: l) == []) = false by rfl, iteB_f, decide_eq_true (by omega), iteB_t]
    · rw [if_neg (by simp only [reduceCtorEq, false_or]; exact h)]
      have e := ev_dec_l (a :: l) (by omega) (a :: l).length 0 0 (by omega) (by decide)
      refine e.congr fun k => ?_
      rw [F78, show ((a :: l) == []) = false by rfl, iteB_f, decide_eq_false (by omega), iteB_f]; rfl
theorem decP_bd : ∀ (l : List UInt8) (x : Int) (m : Nat), 0 ≤ x → x < (10 : Int) ^ m → m + l.length ≤ 18 → 0 ≤ (decP l x).1 ∧ (decP l x).1 ≤ 1000000000000000000
  | [], x, m, h0, h, hl => by
    have h1 : (10 : Nat) ^ m ≤ 10 ^ 18 := Nat.pow_le_pow_right (by omega) (by simpa using hl)
    have h3 : ((10 : Nat) ^ m : Nat) = ((10 : Int) ^ m) := by simp
    rw [decP]; dsimp only; omega
  | c :: l, x, m, h0, h, hl => by
    rw [decP]
    rw [List.length_cons] at hl
    obtain ⟨p1, p2, p3⟩ := pow10 m (by omega)
    by_cases hk : kindOf (c.toNat : Int) = 1
    · have hk' := kind_one hk
      rw [if_pos hk]
      exact decP_bd l _ (m + 1) (by omega) (by rw [p3]; omega) (by omega)
    · rw [if_neg hk]; dsimp only; omega
theorem readD_bd (l : List UInt8) : 0 ≤ (readD l).1 ∧ (readD l).1 ≤ 1000000000000000000 := by
  unfold readD
  split
  · dsimp only; omega
  · exact decP_bd l 0 0 (by omega) (by decide) (by omega)
end Go.Proofs.YtaiapalhdejngaaX

/- hex.Decimal: what it answers. -/
set_option linter.unusedVariables false
set_option linter.unusedSimpArgs false
namespace Go.Proofs.YtaiapalhdejngaaX
open Go
def dgR (n : Nat) : List Int := if n < 10 then [48 + (n : Int)] else (48 + ((n % 10 : Nat) : Int)) :: dgR (n / 10)
theorem dgR_lt {n : Nat} (h : n < 10) : dgR n = [48 + (n : Int)] := by rw [dgR, if_pos h]
theorem dgR_ge {n : Nat} (h : ¬ n < 10) : dgR n = (48 + ((n % 10 : Nat) : Int)) :: dgR (n / 10) := by rw [dgR, if_neg h]
theorem dgR_len : ∀ (k n : Nat), n < 10 ^ (k + 1) → (dgR n).length ≤ k + 1
  | 0, n, h => by rw [dgR_lt (by omega)]; simp
  | k + 1, n, h => by
    by_cases h1 : n < 10
    · rw [dgR_lt h1]; simp
    · rw [dgR_ge h1, List.length_cons]
      have := dgR_len k (n / 10) (by rw [Nat.pow_succ] at h; omega)
      omega
def decI (n : Int) : List Int := (if n < 0 then dgR n.natAbs ++ [45] else dgR n.natAbs).reverse
def decT (n : Int) : List UInt8 := (decI n).map toB
def rvI (l0 : List Int) (i : Nat) (l : List Int) : Prop := l.length = l0.length ∧ ∀ k, k < l0.length → l.getD k 0 = if k < i ∨ l0.length - i ≤ k then l0.getD (l0.length - 1 - k) 0 else l0.getD k 0
theorem rv_end {l0 l : List Int} {i : Nat} (h : rvI l0 i l) (hi : l0.length ≤ 2 * i + 1) : l = l0.reverse := by
  obtain ⟨h1, h2⟩ := h
  apply List.ext_getElem
  · rw [h1, List.length_reverse]
  · intro k hk1 hk2
    have hk : k < l0.length := by omega
    have h3 := h2 k hk
    rw [List.getD_eq_getElem?_getD, List.getElem?_eq_getElem hk1] at h3
    rw [List.getElem_reverse]
    rw [show l[k] = (some l[k]).getD 0 from rfl, h3]
    split
    · rw [List.getD_eq_getElem?_getD, List.getElem?_eq_getElem (by omega)]; rfl
    · have e : l0.length - 1 - k = k := by omega
      rw [List.getD_eq_getElem?_getD, List.getElem?_eq_getElem (by omega)]
      simp only [e]; rfl
theorem rv_step {l0 l : List Int} {i j : Nat} (h : rvI l0 i l) (hj : i + j + 1 = l0.length) (hij : i < j) : rvI l0 (i + 1) ((l.set i (l.getD j 0)).set j (l.getD i 0)) := by
  obtain ⟨h1, h2⟩ := h
  refine ⟨by simp [h1], fun k hk => ?_⟩
  have gi := h2 i (by omega)
  have gj := h2 j (by omega)
  rw [if_neg (by omega)] at gi gj
  rw [List.getD_eq_getElem?_getD, List.getElem?_set]
  by_cases hkj : j = k
  · subst hkj
    rw [if_pos rfl, List.length_set, if_pos (by omega), Option.getD_some, gi, if_pos (by omega), show l0.length - 1 - j = i by omega]
  · rw [if_neg hkj, List.getElem?_set]
    by_cases hki : i = k
    · subst hki
      rw [if_pos rfl, if_pos (by omega), Option.getD_some, gj, if_pos (by omega), show l0.length - 1 - i = j by omega]
    · rw [if_neg hki, ← List.getD_eq_getElem?_getD, h2 k hk]
      by_cases hc : k < i ∨ l0.length - i ≤ k
      · rw [if_pos hc, if_pos (by omega)]
      · rw [if_neg hc, if_neg (by omega)]
theorem ev_rev (l0 : List Int) (hl : l0.length ≤ 1000) : ∀ (d i : Nat) (l : List Int), l0.length ≤ 2 * i + d → i ≤ l0.length → rvI l0 i l →
    Ev (fun n => F55_L4 n (i : Int) ((l0.length : Int) - 1 - i) l) (l0.reverse.map toB) := by
  intro d
  induction d with
  | zero =>
    intro i l hd hi h
    refine Ev.step (Ev.pure.congr fun n => ?_)
    have d1 : decide ((i : Int) < (l0.length : Int) - 1 - i) = false := decide_eq_false (by omega)
    simp only [F55_L4, d1, iteB_f]
    rw [rv_end h (by omega)]
  | succ d ih =>
    intro i l hd hi h
    refine Ev.step ?_
    by_cases hlt : (i : Int) < (l0.length : Int) - 1 - i
    · obtain ⟨j, hj⟩ : ∃ j : Nat, (l0.length : Int) - 1 - i = j := ⟨((l0.length : Int) - 1 - i).toNat, by omega⟩
      have d1 : decide ((i : Int) < (j : Int)) = true := decide_eq_true (by omega)
      have hll := h.1
      have w1 : IntKind.wrap .i64 ((i : Int) + 1) = ((i + 1 : Nat) : Int) := by rw [w64 (by omega)]; omega
      have w2 : IntKind.wrap .i64 ((j : Int) - 1) = (l0.length : Int) - 1 - ((i + 1 : Nat) : Int) := by rw [w64 (by omega)]; omega
      have e := ih (i + 1) _ (by omega) (by omega) (rv_step (j := j) h (by omega) (by omega))
      rw [hj]
      refine e.congr fun n => ?_
      simp only [F55_L4, d1, iteB_t, toNat_nat, w1, w2]
      have g1 : (0 ≤ (j : Int) ∧ (j : Int) < (l.length : Int)) := by omega
      have g2 : (0 ≤ (i : Int) ∧ (i : Int) < (l.length : Int)) := by omega
      have g3 : j < l.length := by omega
      have g4 : i < l.length := by omega
      rw [grd_t _ g1, grd_t _ g3, grd_t _ g2, grd_t _ g4, grd_t _ g2, grd_t _ g4, grd_t _ g1, grd_t _ g3]
      rfl
    · refine Ev.pure.congr fun n => ?_
      have d1 : decide ((i : Int) < (l0.length : Int) - 1 - i) = false := decide_eq_false hlt
      simp only [F55_L4, d1, iteB_f]
      rw [rv_end h (by omega)]
theorem ev_J3 (l : List Int) (h0 : 0 < l.length) (hl : l.length ≤ 1000) : Ev (fun n => F55_J3 n l) (l.reverse.map toB) := by
  have w1 : IntKind.wrap .i64 ((l.length : Int) - 1) = (l.length : Int) - 1 - ((0 : Nat) : Int) := by rw [w64 (by omega)]; omega
  refine (ev_rev l hl l.length 0 l (by omega) (by omega) ⟨rfl, fun k hk => by rw [if_neg (by omega)]⟩).congr fun n => ?_
  simp only [F55_J3, w1]; rfl
theorem digitAt (r : Nat) (h : r < 10) : ((([48, 49, 50, 51, 52, 53, 54, 55, 56, 57, 97, 98, 99, 100, 101, 102] : List UInt8).getD r 0).toNat : Int) = 48 + r := by
  have : ∀ r : Fin 10, ((([48, 49, 50, 51, 52, 53, 54, 55, 56, 57, 97, 98, 99, 100, 101, 102] : List UInt8).getD r.val 0).toNat : Int) = 48 + r.val := by decide
  exact this ⟨r, h⟩
theorem ev_digs (a : Int) : ∀ (k m : Nat) (l : List Int), m < 10 ^ (k + 1) → m < 10000000000000000000 → l.length + k ≤ 100 → Ev (fun n => F55_L2 n a (m : Int) l) ((if a < 0 then l ++ dgR m ++ [45] else l ++ dgR m).reverse.map toB) := by
  intro k
  induction k with
  | zero =>
    intro m l hm hb hl
    have hm' : m < 10 := by omega
    refine Ev.step ?_
    have e1 : (m : Int).tmod 10 = m := by rw [Int.tmod_eq_emod_of_nonneg (by omega)]; omega
    have e2 : (m : Int).tdiv 10 = 0 := by rw [Int.tdiv_eq_ediv_of_nonneg (by omega)]; omega
    have e3 : (IntKind.wrap .u64 0 == (0 : Int)) = true := by rw [wu64 (by omega)]; rfl
    rw [dgR_lt hm']
    by_cases ha : a < 0
    · rw [if_pos ha]
      refine (ev_J3 (l ++ [48 + (m : Int)] ++ [45]) (by simp) (by simp; omega)).congr fun n => ?_
      simp only [F55_L2, e1, e2, e3, toNat_nat, digitAt m hm', decide_eq_true ha, iteB_t]
      rw [grd_t _ (by omega), grd_t _ (by omega), grd_t _ (by omega)]
    · rw [if_neg ha]
      refine (ev_J3 (l ++ [48 + (m : Int)]) (by simp) (by simp; omega)).congr fun n => ?_
      simp only [F55_L2, e1, e2, e3, toNat_nat, digitAt m hm', decide_eq_false ha, iteB_t, iteB_f]
      rw [grd_t _ (by omega), grd_t _ (by omega)]
  | succ k ih =>
    intro m l hm hb hl
    by_cases hm' : m < 10
    · have := ih m l (by have : 10 ^ 1 ≤ 10 ^ (k + 1) := Nat.pow_le_pow_right (by omega) (by omega); omega) hb (by omega)
      exact this
    refine Ev.step ?_
    have e1 : (m : Int).tmod 10 = ((m % 10 : Nat) : Int) := by rw [Int.tmod_eq_emod_of_nonneg (by omega)]; omega
    have e2 : (m : Int).tdiv 10 = ((m / 10 : Nat) : Int) := by rw [Int.tdiv_eq_ediv_of_nonneg (by omega)]; omega
    have e4 : IntKind.wrap .u64 ((m / 10 : Nat) : Int) = ((m / 10 : Nat) : Int) := wu64 (by omega)
    have e3 : (((m / 10 : Nat) : Int) == (0 : Int)) = false := by rw [beq_eq_false_iff_ne]; omega
    have := ih (m / 10) (l ++ [48 + ((m % 10 : Nat) : Int)]) (by rw [Nat.pow_succ] at hm; omega) (by omega) (by simp; omega)
    rw [dgR_ge hm']
    rw [show (if a < 0 then l ++ (48 + ((m % 10 : Nat) : Int)) :: dgR (m / 10) ++ [45] else l ++ (48 + ((m % 10 : Nat) : Int)) :: dgR (m / 10)) = (if a < 0 then l ++ [48 + ((m % 10 : Nat) : Int)] ++ dgR (m / 10) ++ [45] else l ++ [48 + ((m % 10 : Nat) : Int)] ++ dgR (m / 10)) by simp]
    refine this.congr fun n => ?_
    simp only [F55_L2, e1, e2, e4, e3, toNat_nat, digitAt (m % 10) (by omega), iteB_f]
    rw [grd_t _ (by omega), grd_t _ (by omega)]
theorem ev_Decimal (a : Int) (h : -9223372036854775808 ≤ a ∧ a ≤ 9223372036854775807) : Ev (fun n => F55 n a) (decT a) := by
  have hd := ev_digs a 19 a.natAbs [] (by omega) (by omega) (by simp)
  simp only [List.nil_append] at hd
  unfold decT decI
  refine hd.congr fun n => ?_
  have hw : ∀ x : Int, IntKind.wrap .u64 x = x % 18446744073709551616 := fun x => rfl
  by_cases ha : a < 0
  · have e : IntKind.wrap .u64 (0 - IntKind.wrap .u64 a) = (a.natAbs : Int) := by rw [hw, hw]; omega
    simp only [F55, F55_J1, decide_eq_true ha, iteB_t, e]
  · have e : IntKind.wrap .u64 a = (a.natAbs : Int) := by rw [hw]; omega
    simp only [F55, F55_J1, decide_eq_false ha, iteB_f, e]
end Go.Proofs.YtaiapalhdejngaaX

/- The reference's digits and numbers. -/
set_option linter.unusedVariables false
set_option linter.unusedSimpArgs false
namespace Go.Proofs.YtaiapalhdejngaaX
open Go
theorem kind_fin : ∀ c : Fin 256, F71 0 (c.val : Int) = some (kindOf (c.val : Int)) := by decide +kernel
theorem rKind_eq (n : Nat) (c : UInt8) : F71 n (c.toNat : Int) = some (kindOf (c.toNat : Int)) := kind_fin ⟨c.toNat, c.toNat_lt⟩
theorem rDig_fin : ∀ r : Fin 10, ((([48, 49, 50, 51, 52, 53, 54, 55, 56, 57, 97, 98, 99, 100, 101, 102] : List UInt8).take (r.val + 1)).drop r.val) = [toB (48 + (r.val : Int))] := by decide +kernel
theorem rDig_eq (n r : Nat) (h : r < 10) : F58 n (r : Int) = some [toB (48 + (r : Int))] := by
  have w1 : IntKind.wrap .i64 ((r : Int) + 1) = ((r + 1 : Nat) : Int) := by rw [w64 (by omega)]; omega
  rw [F58, w1, grd_t _ (by omega), toNat_nat, toNat_nat]
  exact congrArg some (rDig_fin ⟨r, h⟩)
theorem ev_rdec_l (l : List UInt8) (hl : l.length ≤ 18) : ∀ (d i : Nat) (x : Int), i + d = l.length → 0 ≤ x ∧ x < (10 : Int) ^ i → Ev (fun k => F59_L1 k l x (i : Int)) (decP (l.drop i) x) := by
  intro d
  induction d with
  | zero =>
    intro i x hi hx
    rw [List.drop_of_length_le (by omega)]
    refine Ev.step (Ev.pure.congr fun k => ?_)
    rw [F59_L1, decide_eq_false (by omega), iteB_f]; rfl
  | succ d ih =>
    intro i x hi hx
    rw [drop_cons l i 0 (by omega), decP]
    obtain ⟨p1, p2, p3⟩ := pow10 i (by omega)
    have hb := u8_lt (l.getD i 0)
    have w1 : IntKind.wrap .i64 ((i : Int) + 1) = ((i + 1 : Nat) : Int) := by rw [w64 (by omega)]; omega
    generalize hc : l.getD i 0 = c at *
    by_cases hk : kindOf (c.toNat : Int) = 1
    · rw [if_pos hk]
      have hk' := kind_one hk
      have e := ih (i + 1) (x * 10 + ((c.toNat : Int) - 48)) (by omega) (by rw [p3]; omega)
      refine Ev.step (e.congr fun k => ?_)
      have hv : F94 k (c.toNat : Int) = some ((c.toNat : Int) - 48) := by
        rw [F94, rKind_eq, bind_some', hk]
        show iteB true _ _ = _
        rw [iteB_t, wu8 (by omega), w64 (by omega)]
      rw [F59_L1, decide_eq_true (by omega), iteB_t, grd_t _ (by omega), toNat_nat, hc, rKind_eq, bind_some', hk]
      show iteB false _ _ = _
      rw [iteB_f, grd_t _ (by omega), hv, bind_some', w64 (n := x * 10) (by omega), w64 (n := x * 10 + _) (by omega), w1]
    · rw [if_neg hk]
      refine Ev.step (Ev.pure.congr fun k => ?_)
      rw [F59_L1, decide_eq_true (by omega), iteB_t, grd_t _ (by omega), toNat_nat, hc, rKind_eq, bind_some', show (kindOf (c.toNat : Int) != 1) = true by rw [bne_iff_ne]; exact hk, iteB_t]
theorem ev_rReadDecimal (l : List UInt8) : Ev (fun k => F59 k l) (readD l) := by
  unfold readD
  cases l with
  | nil => rw [if_pos (Or.inl rfl)]; exact Ev.pure.congr fun k => rfl
  | cons a l =>
    have hz : (((a :: l).length : Int) == 0) = false := by rw [beq_eq_false_iff_ne, List.length_cons]; omega
    by_cases h : 18 < (a :: l).length
    · rw [if_pos (Or.inr h)]
      refine Ev.pure.congr fun k => ?_
      rw [F59, hz, iteB_f, decide_eq_true (by omega), iteB_t]
    · rw [if_neg (by simp only [reduceCtorEq, false_or]; exact h)]
      have e := ev_rdec_l (a :: l) (by omega) (a :: l).length 0 0 (by omega) (by decide)
      refine e.congr fun k => ?_
      rw [F59, hz, iteB_f, decide_eq_false (by omega), iteB_f]; rfl
theorem rDec_nat (j : Nat) : ∀ (k n : Nat), n < 10 ^ (k + 1) → k ≤ 18 → n ≤ 9223372036854775807 → F22 (j + k + 1) (n : Int) = some ((dgR n).reverse.map toB)
  | k, n, h, hk, hb => by
    by_cases h1 : n < 10
    · rw [dgR_lt h1, F22, decide_eq_true (by omega), iteB_t, decide_eq_true (by omega), iteB_t, rDig_eq (j + k) n h1, bind_some']; rfl
    · match k, h, hk with
      | 0, h, _ => omega
      | k + 1, h, hk =>
        have h2 : n / 10 < 10 ^ (k + 1) := by
          have : n < 10 ^ (k + 1) * 10 := by rw [← Nat.pow_succ]; exact h
          omega
        have e := rDec_nat j k (n / 10) h2 (by omega) (by omega)
        have q1 : IntKind.wrap .i64 ((n : Int).tdiv 10) = ((n / 10 : Nat) : Int) := by rw [Int.tdiv_eq_ediv_of_nonneg (by omega), w64 (by omega)]; omega
        have q2 : ((n : Int).tmod 10) = ((n % 10 : Nat) : Int) := by rw [Int.tmod_eq_emod_of_nonneg (by omega)]; omega
        have hl := dgR_len k (n / 10) h2
        have e2 : F22 (j + (k + 1) + 1) (n : Int) = ((some ((dgR (n / 10)).reverse.map toB)).bind fun v => (some [toB (48 + ((n % 10 : Nat) : Int))]).bind fun d => grd (v.length + d.length ≤ 9223372036854775807) (some (v ++ d))) := by
          rw [F22, decide_eq_true (by omega), iteB_t, decide_eq_false (by omega), iteB_f, decide_eq_false (by omega), iteB_f, q1, show j + (k + 1) = j + k + 1 from rfl, e, q2, rDig_eq (j + k + 1) (n % 10) (by omega)]
        rw [e2, bind_some', bind_some', grd_t _ (by simp; omega), dgR_ge h1, List.reverse_cons, List.map_append]; rfl
theorem ev_rneg (a : Nat) : ∀ (k m : Nat) (out : List UInt8), m < 10 ^ k → k ≤ 20 → m ≤ 9223372036854775808 → out.length + k ≤ 100 → Ev (fun n => F22_L2 n (-(m : Int)) out) (45 :: ((if m = 0 then [] else (dgR m).reverse.map toB) ++ out)) := by
  intro k
  induction k with
  | zero =>
    intro m out hm hk hb ho
    obtain rfl : m = 0 := by omega
    rw [if_pos rfl]
    refine Ev.step (Ev.pure.congr fun n => ?_)
    rw [F22_L2, decide_eq_false (by omega), iteB_f, grd_t _ (by omega)]; rfl
  | succ k ih =>
    intro m out hm hk hb ho
    by_cases h0 : m = 0
    · subst h0
      rw [if_pos rfl]
      refine Ev.step (Ev.pure.congr fun n => ?_)
      rw [F22_L2, decide_eq_false (by omega), iteB_f, grd_t _ (by omega)]; rfl
    · have h2 : m / 10 < 10 ^ k := by
        have : m < 10 ^ k * 10 := by rw [← Nat.pow_succ]; exact hm
        omega
      have e := ih (m / 10) ([toB (48 + ((m % 10 : Nat) : Int))] ++ out) h2 (by omega) (by omega) (by simp; omega)
      have q1 : IntKind.wrap .i64 (Int.tdiv (-(m : Int)) 10) = -((m / 10 : Nat) : Int) := by
        rw [Int.neg_tdiv, Int.tdiv_eq_ediv_of_nonneg (by omega), w64 (by omega)]; omega
      have q2 : IntKind.wrap .i64 (0 - Int.tmod (-(m : Int)) 10) = ((m % 10 : Nat) : Int) := by
        rw [Int.neg_tmod, Int.tmod_eq_emod_of_nonneg (by omega), w64 (by omega)]; omega
      rw [if_neg h0]
      have hres : (45 : UInt8) :: ((if m / 10 = 0 then [] else (dgR (m / 10)).reverse.map toB) ++ ([toB (48 + ((m % 10 : Nat) : Int))] ++ out)) = 45 :: ((dgR m).reverse.map toB ++ out) := by
        by_cases h1 : m < 10
        · rw [if_pos (by omega), dgR_lt h1, show m % 10 = m by omega]; rfl
        · rw [if_neg (by omega), dgR_ge h1, List.reverse_cons, List.map_append, List.append_assoc]; rfl
      rw [hres] at e
      refine Ev.step (e.congr fun n => ?_)
      rw [F22_L2, decide_eq_true (by omega), iteB_t, q2, rDig_eq n (m % 10) (by omega), bind_some', grd_t _ (by simp; omega), q1]
theorem ev_rDecimal (a : Int) (h : -9223372036854775808 ≤ a ∧ a ≤ 9223372036854775807) : Ev (fun n => F22 n a) (decT a) := by
  unfold decT decI
  by_cases h0 : a < 0
  · obtain ⟨m, hm⟩ : ∃ m : Nat, a = -(m : Int) := ⟨a.natAbs, by omega⟩
    subst hm
    have e := ev_rneg m 20 m [] (by omega) (by omega) (by omega) (by simp)
    rw [if_neg (by omega), List.append_nil] at e
    rw [if_pos h0, List.reverse_append, show (-(m : Int)).natAbs = m by omega]
    refine Ev.step (e.congr fun n => ?_)
    rw [F22, decide_eq_false (by omega), iteB_f, decide_eq_true h0, iteB_t]
  · obtain ⟨m, rfl⟩ := Int.eq_ofNat_of_zero_le (show 0 ≤ a by omega)
    rw [if_neg h0, show ((m : Int)).natAbs = m by omega]
    refine ⟨19, fun n hn => ?_⟩
    obtain ⟨k, rfl⟩ : ∃ k, n = k + 19 := ⟨n - 19, by omega⟩
    exact rDec_nat k 18 m (by omega) (by omega) (by omega)
end Go.Proofs.YtaiapalhdejngaaX

set_option linter.unusedVariables false
set_option linter.unusedSimpArgs false
namespace Go.Proofs.YtaiapalhdejngaaX
open Go Go.RowKit Go.Proofs
set_option maxRecDepth 100000
attribute [local go_sem ↓] stepsK_build stepsK_bs appendS
attribute [local go_sem] String.reduceEq String.reduceNe reduceCtorEq Int.reduceEq Nat.reduceAdd Nat.reduceSub Nat.reduceMul Nat.reduceLT Nat.reduceLeDiff Nat.reduceEqDiff Nat.reduceBEq Int.reduceToNat Int.reduceLT Int.reduceLE Int.reduceGT Int.reduceGE Int.reduceAdd Int.reduceSub Int.reduceMul Int.reduceNeg Int.reduceBEq Int.reduceBNe Int.reducePow Int.reduceDiv Int.reduceMod Int.reduceTDiv Int.reduceTMod Int.reduceNatCast
end Go.Proofs.YtaiapalhdejngaaX

set_option linter.unusedVariables false
set_option linter.unusedSimpArgs false
namespace Go.Proofs.YtaiapalhdejngaaX
open Go Go.RowKit Go.Proofs
set_option maxRecDepth 100000
attribute [local go_sem ↓] stepsK_build stepsK_bs appendS
attribute [local go_sem] String.reduceEq String.reduceNe reduceCtorEq Int.reduceEq Nat.reduceAdd Nat.reduceSub Nat.reduceMul Nat.reduceLT Nat.reduceLeDiff Nat.reduceEqDiff Nat.reduceBEq Int.reduceToNat Int.reduceLT Int.reduceLE Int.reduceGT Int.reduceGE Int.reduceAdd Int.reduceSub Int.reduceMul Int.reduceNeg Int.reduceBEq Int.reduceBNe Int.reducePow Int.reduceDiv Int.reduceMod Int.reduceTDiv Int.reduceTMod Int.reduceNatCast
end Go.Proofs.YtaiapalhdejngaaX
