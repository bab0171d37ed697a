/- Part of the proof of LifecycleStays: walks and plain words, merged. -/
import Derived.Test.YtjkfobmfddfjhaaDoorBLifecycleStaysb
import Derived.Test.YtjkfobmfddfjhaaDoorBLifecycleStaysc
set_option linter.unusedVariables false
set_option linter.unusedSimpArgs false

set_option linter.unusedVariables false
set_option linter.unusedSimpArgs false
namespace Go.Proofs.YtjkfobmfddfjhaaDoorX
open Go Go.RowKit Go.Proofs
set_option maxRecDepth 100000
attribute [local go_sem ↓] stepsK_build stepsK_bs appendS
attribute [local go_sem] String.reduceEq String.reduceNe reduceCtorEq Int.reduceEq Nat.reduceAdd Nat.reduceSub Nat.reduceMul Nat.reduceLT Nat.reduceLeDiff Nat.reduceEqDiff Nat.reduceBEq Int.reduceToNat Int.reduceLT Int.reduceLE Int.reduceGT Int.reduceGE Int.reduceAdd Int.reduceSub Int.reduceMul Int.reduceNeg Int.reduceBEq Int.reduceBNe Int.reducePow Int.reduceDiv Int.reduceMod Int.reduceTDiv Int.reduceTMod Int.reduceNatCast
/-! ### utf.Clean -/
def F36_S2 (x1 : List UInt8) (x2 : List (Int)) (x6 : Int) (x7 : Int) : St := ⟨[.imm (.string (bs x1)), .junk, .junk, .sl 1 false (List.map byteT x2), .imm (.int .i32 x6), .imm (.int .i64 x7), .junk, .junk, .junk, .junk, .junk, .junk, .junk, .junk, .junk, .junk, .junk, .junk, .junk, .junk, .junk, .junk, .junk], []⟩
def F36_S1 (x1 : List UInt8) (x2 : List (Int)) : St := ⟨[.imm (.string (bs x1)), .junk, .junk, .sl 1 false (List.map byteT x2), .junk, .junk, .junk, .junk, .junk, .junk, .junk, .junk, .junk, .junk, .junk, .junk, .junk, .junk, .junk, .junk, .junk, .junk, .junk], []⟩
mutual
def F36_J2 (m1 : Nat) (x1 : List UInt8) (x2 : List (Int)) (x6 : Int) (x7 : Int) : Option (List UInt8) := (F78 m1 x2 x6).bind fun v8 => grd (0 ≤ x7 ∧ x7 ≤ (x1.length : Int)) (F36_L1 m1 (x1.drop x7.toNat) v8)
def F36_L1 : Nat → (List UInt8) → (List (Int)) → Option (List UInt8)
 | 0, _, _ => none
 | m1 + 1, x1, x2 => iteB (!(x1 == [])) ((F72 m1 x1).bind fun v4 => iteB (v4.2 == (0 : Int)) (F36_J2 m1 x1 x2 (65533 : Int) (1 : Int)) (F36_J2 m1 x1 x2 v4.1 v4.2)) (some (x2.map toB))
end
def F36 (n : Nat) (a0 : List UInt8) : Option (List UInt8) := F36_L1 n a0 []
set_option maxHeartbeats 4000000 in
theorem F36_ok : ∀ (n : Nat) (a0 : List UInt8) (r : List UInt8), F36 n a0 = some r → FnC Tryd.prog 36 [.imm (.string (bs a0))] (.imm (.string (bs r)))
 | n, a0, r, h => by
  unfold F36 at h
  refine FnC.goX mixed Tryd.func36 (by kernel_rfl) rfl ?_
  simp only [Tryd.ntmps36, List.length_cons, List.length_nil, List.replicate, List.cons_append, List.nil_append, Nat.reduceAdd, Nat.reduceSub]
  refine runX_seq ?_
  refine runX_regionC fun C hC => ?_
  try simp -implicitDefEqProofs (maxSteps := 4000000) (disch := first | omega | decide | (simp only [go_sem]; omega)) only [go_sem, ↓reduceIte]
  repeat (with_reducible refine And.intro (by first | assumption | omega | (simp; done) | (simp; omega)) ?_)
  refine toEnd hC ?_
  refine endX_seq ?_
  refine runX_seq ?_
  refine runX_regionC fun C hC => ?_
  try simp -implicitDefEqProofs (maxSteps := 4000000) (disch := first | omega | decide | (simp only [go_sem]; omega)) only [go_sem, ↓reduceIte]
  repeat (with_reducible refine And.intro (by first | assumption | omega | (simp; done) | (simp; omega)) ?_)
  refine toEnd hC ?_
  refine endX_seq ?_
  refine runX_seq ?_
  refine runX_block ?_
  refine runX_loop [0, 3] (fun m S => ∃ (x1 : List UInt8) (x2 : List (Int)), S = F36_S1 x1 x2 ∧ m ≤ n ∧ F36_L1 m x1 x2 = some r) n ⟨F36_S1 a0 [], ?_, a0, [], rfl, Nat.le_refl _, h⟩ ?_
  ·simp only [F36_S1]
   (try simp -implicitDefEqProofs (maxSteps := 4000000) (disch := first | omega | decide | (simp only [go_sem]; omega)) only [go_sem, ↓reduceIte])
   first | exact leS_refl _ | (refine leS_le ?_ ?_ <;> first | exact leL_refl _ | exact leOs_refl _ | (simp only [List.append_assoc, List.cons_append, List.nil_append]; exact leOs_refl _) | (repeat (first | exact leL_refl _ | refine leL_cons (by first | exact leT_refl _ | exact leT_virt | exact leT_junk _ | exact leT_sl | exact leT_sln | exact leT_nil | (refine leT_agg (by repeat (first | exact leL_refl _ | refine leL_cons (by first | exact leT_refl _ | exact leT_sl | exact leT_sln | exact leT_nil) ?_)))) ?_)))
  ·clear h
   rintro m1 S ⟨x1, x2, rfl, hm1, h⟩
   cases m1 with
   | zero => first | cases (show (none : Option _) = some _ from h) | (rw [F36_L1] at h; cases h)
   | succ m1 =>
    rw [F36_L1] at h
    simp only [F36_S1]
    refine runX_seq ?_
    refine runX_seq ?_
    refine runX_regionC fun C hC => ?_
    try simp -implicitDefEqProofs (maxSteps := 4000000) (disch := first | omega | decide | (simp only [go_sem]; omega)) only [go_sem, ↓reduceIte]
    repeat (with_reducible refine And.intro (by first | assumption | omega | (simp; done) | (simp; omega)) ?_)
    refine toEnd hC ?_
    refine endX_seq ?_
    rcases iteB_some h with ⟨c3, h⟩ | ⟨c3, h⟩
    ·refine runX_condT rfl c3 ?_
     refine runX_skip ?_
     refine endX_seq ?_
     refine runX_block ?_
     refine runX_seq ?_
     refine runX_regionC fun C hC => ?_
     obtain ⟨v4, h4, h⟩ := bnd_some h
     try simp -implicitDefEqProofs (maxSteps := 4000000) (disch := first | omega | decide | (simp only [go_sem]; omega)) only [go_sem, ↓reduceIte]
     repeat (with_reducible refine And.intro (by first | assumption | omega | (simp; done) | (simp; omega)) ?_)
     refine callG_X (by first | rfl | (simp only [go_sem]; done) | (simp only [closedL, closedT, Bool.and_true]; exact closedL_map _ (fun _ => by first | rfl | (simp only [go_sem]; done)) _)) (F72_ok m1 x1 _ h4) (by repeat (first | exact leL_refl _ | refine leL_cons (by first | exact leT_refl _ | exact leT_virt | exact leT_junk _ | exact leT_sl | exact leT_sln | exact leT_nil | (refine leT_agg (by repeat (first | exact leL_refl _ | refine leL_cons (by first | exact leT_refl _ | exact leT_sl | exact leT_sln | exact leT_nil) ?_)))) ?_)) ?_
     try simp -implicitDefEqProofs (maxSteps := 4000000) (disch := first | omega | decide | (simp only [go_sem]; omega)) only [go_sem, ↓reduceIte]
     repeat (with_reducible refine And.intro (by first | assumption | omega | (simp; done) | (simp; omega)) ?_)
     refine toEnd hC ?_
     refine endX_seq ?_
     refine runX_meet [0, 3, 4, 5] (fun S => ∃ (x6 : Int) (x7 : Int), S = F36_S2 x1 x2 x6 x7 ∧ F36_J2 m1 x1 x2 x6 x7 = some r) ?_ ?_
     ·refine runX_seq ?_
      refine runX_regionC fun C hC => ?_
      try simp -implicitDefEqProofs (maxSteps := 4000000) (disch := first | omega | decide | (simp only [go_sem]; omega)) only [go_sem, ↓reduceIte]
      repeat (with_reducible refine And.intro (by first | assumption | omega | (simp; done) | (simp; omega)) ?_)
      refine toEnd hC ?_
      refine endX_seq ?_
      rcases iteB_some h with ⟨c5, h⟩ | ⟨c5, h⟩
      ·refine runX_condT rfl c5 ?_
       refine runX_regionC fun C hC => ?_
       try simp -implicitDefEqProofs (maxSteps := 4000000) (disch := first | omega | decide | (simp only [go_sem]; omega)) only [go_sem, ↓reduceIte]
       repeat (with_reducible refine And.intro (by first | assumption | omega | (simp; done) | (simp; omega)) ?_)
       refine toEnd hC ?_
       refine endX_q (meetQ_normal ⟨F36_S2 x1 x2 (65533 : Int) (1 : Int), ?_, (65533 : Int), (1 : Int), rfl, h⟩)
       simp only [F36_S2]
       (try simp -implicitDefEqProofs (maxSteps := 4000000) (disch := first | omega | decide | (simp only [go_sem]; omega)) only [go_sem, ↓reduceIte])
       first | exact leS_refl _ | (refine leS_le ?_ ?_ <;> first | exact leL_refl _ | exact leOs_refl _ | (simp only [List.append_assoc, List.cons_append, List.nil_append]; exact leOs_refl _) | (repeat (first | exact leL_refl _ | refine leL_cons (by first | exact leT_refl _ | exact leT_virt | exact leT_junk _ | exact leT_sl | exact leT_sln | exact leT_nil | (refine leT_agg (by repeat (first | exact leL_refl _ | refine leL_cons (by first | exact leT_refl _ | exact leT_sl | exact leT_sln | exact leT_nil) ?_)))) ?_)))
      ·refine runX_condF rfl c5 ?_
       refine runX_skip ?_
       refine endX_q (meetQ_normal ⟨F36_S2 x1 x2 v4.1 v4.2, ?_, v4.1, v4.2, rfl, h⟩)
       simp only [F36_S2]
       (try simp -implicitDefEqProofs (maxSteps := 4000000) (disch := first | omega | decide | (simp only [go_sem]; omega)) only [go_sem, ↓reduceIte])
       first | exact leS_refl _ | (refine leS_le ?_ ?_ <;> first | exact leL_refl _ | exact leOs_refl _ | (simp only [List.append_assoc, List.cons_append, List.nil_append]; exact leOs_refl _) | (repeat (first | exact leL_refl _ | refine leL_cons (by first | exact leT_refl _ | exact leT_virt | exact leT_junk _ | exact leT_sl | exact leT_sln | exact leT_nil | (refine leT_agg (by repeat (first | exact leL_refl _ | refine leL_cons (by first | exact leT_refl _ | exact leT_sl | exact leT_sln | exact leT_nil) ?_)))) ?_)))
     ·clear h
      rintro S ⟨x6, x7, rfl, h⟩
      rw [F36_J2] at h
      simp only [F36_S2]
      refine runX_seq ?_
      refine runX_regionC fun C hC => ?_
      obtain ⟨v8, h8, h⟩ := bnd_some h
      try simp -implicitDefEqProofs (maxSteps := 4000000) (disch := first | omega | decide | (simp only [go_sem]; omega)) only [go_sem, ↓reduceIte]
      repeat (with_reducible refine And.intro (by first | assumption | omega | (simp; done) | (simp; omega)) ?_)
      refine callG_X (by first | rfl | (simp only [go_sem]; done) | (simp only [closedL, closedT, Bool.and_true]; exact closedL_map _ (fun _ => by first | rfl | (simp only [go_sem]; done)) _)) (F78_ok m1 x2 x6 _ h8) (by repeat (first | exact leL_refl _ | refine leL_cons (by first | exact leT_refl _ | exact leT_virt | exact leT_junk _ | exact leT_sl | exact leT_sln | exact leT_nil | (refine leT_agg (by repeat (first | exact leL_refl _ | refine leL_cons (by first | exact leT_refl _ | exact leT_sl | exact leT_sln | exact leT_nil) ?_)))) ?_)) ?_
      try simp -implicitDefEqProofs (maxSteps := 4000000) (disch := first | omega | decide | (simp only [go_sem]; omega)) only [go_sem, ↓reduceIte]
      repeat (with_reducible refine And.intro (by first | assumption | omega | (simp; done) | (simp; omega)) ?_)
      refine toEnd hC ?_
      refine endX_seq ?_
      refine runX_regionC fun C hC => ?_
      obtain ⟨g9, h⟩ := grd_some h
      try simp -implicitDefEqProofs (maxSteps := 4000000) (disch := first | omega | decide | (simp only [go_sem]; omega)) only [go_sem, ↓reduceIte]
      repeat (with_reducible refine And.intro (by first | assumption | omega | (simp; done) | (simp; omega)) ?_)
      refine toEnd hC ?_
      refine endX_blk ?_
      refine endX_q (roundQ_normal ⟨m1, by omega, F36_S1 (x1.drop x7.toNat) v8, ?_, (x1.drop x7.toNat), v8, rfl, by omega, h⟩)
      simp only [F36_S1]
      (try simp -implicitDefEqProofs (maxSteps := 4000000) (disch := first | omega | decide | (simp only [go_sem]; omega)) only [go_sem, ↓reduceIte])
      first | exact leS_refl _ | (refine leS_le ?_ ?_ <;> first | exact leL_refl _ | exact leOs_refl _ | (simp only [List.append_assoc, List.cons_append, List.nil_append]; exact leOs_refl _) | (repeat (first | exact leL_refl _ | refine leL_cons (by first | exact leT_refl _ | exact leT_virt | exact leT_junk _ | exact leT_sl | exact leT_sln | exact leT_nil | (refine leT_agg (by repeat (first | exact leL_refl _ | refine leL_cons (by first | exact leT_refl _ | exact leT_sl | exact leT_sln | exact leT_nil) ?_)))) ?_)))
    ·refine runX_condF rfl c3 ?_
     refine runX_exit ?_
     refine endX_seqE ?_
     refine endX_q (roundQ_exit ?_)
     refine endX_blkE ?_
     refine endX_seq ?_
     refine runX_seq ?_
     refine runX_regionC fun C hC => ?_
     try simp -implicitDefEqProofs (maxSteps := 4000000) (disch := first | omega | decide | (simp only [go_sem]; omega)) only [go_sem, ↓reduceIte]
     repeat (with_reducible refine And.intro (by first | assumption | omega | (simp; done) | (simp; omega)) ?_)
     refine toEnd hC ?_
     refine endX_seq ?_
     refine runX_ret ?_
     refine endX_q ?_
     obtain rfl := Option.some.inj h
     show RetW _ _ _ _ _
     simp only [RetW]
     (try simp -implicitDefEqProofs (maxSteps := 4000000) (disch := first | omega | decide | (simp only [go_sem]; omega)) only [go_sem, ↓reduceIte])
     (try simp (disch := omega) only [if_pos, Nat.sub_zero])
     exact leT_refl _
end Go.Proofs.YtjkfobmfddfjhaaDoorX

set_option linter.unusedVariables false
set_option linter.unusedSimpArgs false
namespace Go.Proofs.YtjkfobmfddfjhaaDoorX
open Go Go.RowKit Go.Proofs
set_option maxRecDepth 100000
attribute [local go_sem ↓] stepsK_build stepsK_bs appendS
attribute [local go_sem] String.reduceEq String.reduceNe reduceCtorEq Int.reduceEq Nat.reduceAdd Nat.reduceSub Nat.reduceMul Nat.reduceLT Nat.reduceLeDiff Nat.reduceEqDiff Nat.reduceBEq Int.reduceToNat Int.reduceLT Int.reduceLE Int.reduceGT Int.reduceGE Int.reduceAdd Int.reduceSub Int.reduceMul Int.reduceNeg Int.reduceBEq Int.reduceBNe Int.reducePow Int.reduceDiv Int.reduceMod Int.reduceTDiv Int.reduceTMod Int.reduceNatCast
/-! ### xmlout.sign -/
def F150_S1 (a0 : Int) (a1 : List UInt8) (x7 : Bool) : St := ⟨[.imm (.int .i32 a0), .imm (.string (bs a1)), .junk, .junk, .junk, .imm (.int .i32 a0), .junk, .junk, .junk, .junk, .junk, .junk, .junk, .junk, .junk, .junk, .imm (.bool x7), .junk, .junk, .junk, .junk, .junk, .junk, .junk, .junk, .junk], []⟩
def F150_J1 (n : Nat) (a0 : Int) (a1 : List UInt8) (x7 : Bool) : Option (List UInt8) := iteB x7 (some a1) (iteB (a0 == (65534 : Int)) (iteB (a0 == (65534 : Int)) (some ([239, 191, 189] : List UInt8)) (iteB (decide (a0 < (32 : Int))) (some ([239, 191, 189] : List UInt8)) (some a1))) (iteB (a0 == (65535 : Int)) (some ([239, 191, 189] : List UInt8)) (iteB (decide (a0 < (32 : Int))) (some ([239, 191, 189] : List UInt8)) (some a1))))
def F150 (n : Nat) (a0 : Int) (a1 : List UInt8) : Option (List UInt8) := iteB (a0 == (60 : Int)) (some ([38, 108, 116, 59] : List UInt8)) (iteB (a0 == (62 : Int)) (some ([38, 103, 116, 59] : List UInt8)) (iteB (a0 == (38 : Int)) (some ([38, 97, 109, 112, 59] : List UInt8)) (iteB (a0 == (34 : Int)) (some ([38, 113, 117, 111, 116, 59] : List UInt8)) (iteB (a0 == (13 : Int)) (some ([38, 35, 49, 51, 59] : List UInt8)) (iteB (a0 == (9 : Int)) (F150_J1 n a0 a1 (a0 == (9 : Int))) (F150_J1 n a0 a1 (a0 == (10 : Int))))))))
set_option maxHeartbeats 4000000 in
theorem F150_ok : ∀ (n : Nat) (a0 : Int) (a1 : List UInt8) (r : List UInt8), F150 n a0 a1 = some r → FnC Tryd.prog 150 [.imm (.int .i32 a0), .imm (.string (bs a1))] (.imm (.string (bs r)))
 | n, a0, a1, r, h => by
  unfold F150 at h
  refine FnC.goX mixed Tryd.func150 (by kernel_rfl) rfl ?_
  simp only [Tryd.ntmps150, List.length_cons, List.length_nil, List.replicate, List.cons_append, List.nil_append, Nat.reduceAdd, Nat.reduceSub]
  refine runX_seq ?_
  refine runX_regionC fun C hC => ?_
  try simp -implicitDefEqProofs (maxSteps := 4000000) (disch := first | omega | decide | (simp only [go_sem]; omega)) only [go_sem, ↓reduceIte]
  repeat (with_reducible refine And.intro (by first | assumption | omega | (simp; done) | (simp; omega)) ?_)
  refine toEnd hC ?_
  refine endX_seq ?_
  refine runX_seq ?_
  refine runX_seq ?_
  refine runX_regionC fun C hC => ?_
  try simp -implicitDefEqProofs (maxSteps := 4000000) (disch := first | omega | decide | (simp only [go_sem]; omega)) only [go_sem, ↓reduceIte]
  repeat (with_reducible refine And.intro (by first | assumption | omega | (simp; done) | (simp; omega)) ?_)
  refine toEnd hC ?_
  refine endX_seq ?_
  refine runX_block ?_
  refine runX_seq ?_
  refine runX_regionC fun C hC => ?_
  try simp -implicitDefEqProofs (maxSteps := 4000000) (disch := first | omega | decide | (simp only [go_sem]; omega)) only [go_sem, ↓reduceIte]
  repeat (with_reducible refine And.intro (by first | assumption | omega | (simp; done) | (simp; omega)) ?_)
  refine toEnd hC ?_
  refine endX_seq ?_
  rcases iteB_some h with ⟨c1, h⟩ | ⟨c1, h⟩
  ·refine runX_condT rfl c1 ?_
   refine runX_seq ?_
   refine runX_regionC fun C hC => ?_
   try simp -implicitDefEqProofs (maxSteps := 4000000) (disch := first | omega | decide | (simp only [go_sem]; omega)) only [go_sem, ↓reduceIte]
   repeat (with_reducible refine And.intro (by first | assumption | omega | (simp; done) | (simp; omega)) ?_)
   refine toEnd hC ?_
   refine endX_seq ?_
   refine runX_ret ?_
   refine endX_blkR ?_
   refine endX_seqR ?_
   refine endX_q ?_
   obtain rfl := Option.some.inj h
   show RetW _ _ _ _ _
   simp only [RetW]
   (try simp -implicitDefEqProofs (maxSteps := 4000000) (disch := first | omega | decide | (simp only [go_sem]; omega)) only [go_sem, ↓reduceIte])
   (try simp (disch := omega) only [if_pos, Nat.sub_zero])
   exact leT_refl _
  ·refine runX_condF rfl c1 ?_
   refine runX_seq ?_
   refine runX_regionC fun C hC => ?_
   try simp -implicitDefEqProofs (maxSteps := 4000000) (disch := first | omega | decide | (simp only [go_sem]; omega)) only [go_sem, ↓reduceIte]
   repeat (with_reducible refine And.intro (by first | assumption | omega | (simp; done) | (simp; omega)) ?_)
   refine toEnd hC ?_
   refine endX_seq ?_
   rcases iteB_some h with ⟨c2, h⟩ | ⟨c2, h⟩
   ·refine runX_condT rfl c2 ?_
    refine runX_seq ?_
    refine runX_regionC fun C hC => ?_
    try simp -implicitDefEqProofs (maxSteps := 4000000) (disch := first | omega | decide | (simp only [go_sem]; omega)) only [go_sem, ↓reduceIte]
    repeat (with_reducible refine And.intro (by first | assumption | omega | (simp; done) | (simp; omega)) ?_)
    refine toEnd hC ?_
    refine endX_seq ?_
    refine runX_ret ?_
    refine endX_blkR ?_
    refine endX_seqR ?_
    refine endX_q ?_
    obtain rfl := Option.some.inj h
    show RetW _ _ _ _ _
    simp only [RetW]
    (try simp -implicitDefEqProofs (maxSteps := 4000000) (disch := first | omega | decide | (simp only [go_sem]; omega)) only [go_sem, ↓reduceIte])
    (try simp (disch := omega) only [if_pos, Nat.sub_zero])
    exact leT_refl _
   ·refine runX_condF rfl c2 ?_
    refine runX_seq ?_
    refine runX_regionC fun C hC => ?_
    try simp -implicitDefEqProofs (maxSteps := 4000000) (disch := first | omega | decide | (simp only [go_sem]; omega)) only [go_sem, ↓reduceIte]
    repeat (with_reducible refine And.intro (by first | assumption | omega | (simp; done) | (simp; omega)) ?_)
    refine toEnd hC ?_
    refine endX_seq ?_
    rcases iteB_some h with ⟨c3, h⟩ | ⟨c3, h⟩
    ·refine runX_condT rfl c3 ?_
     refine runX_seq ?_
     refine runX_regionC fun C hC => ?_
     try simp -implicitDefEqProofs (maxSteps := 4000000) (disch := first | omega | decide | (simp only [go_sem]; omega)) only [go_sem, ↓reduceIte]
     repeat (with_reducible refine And.intro (by first | assumption | omega | (simp; done) | (simp; omega)) ?_)
     refine toEnd hC ?_
     refine endX_seq ?_
     refine runX_ret ?_
     refine endX_blkR ?_
     refine endX_seqR ?_
     refine endX_q ?_
     obtain rfl := Option.some.inj h
     show RetW _ _ _ _ _
     simp only [RetW]
     (try simp -implicitDefEqProofs (maxSteps := 4000000) (disch := first | omega | decide | (simp only [go_sem]; omega)) only [go_sem, ↓reduceIte])
     (try simp (disch := omega) only [if_pos, Nat.sub_zero])
     exact leT_refl _
    ·refine runX_condF rfl c3 ?_
     refine runX_seq ?_
     refine runX_regionC fun C hC => ?_
     try simp -implicitDefEqProofs (maxSteps := 4000000) (disch := first | omega | decide | (simp only [go_sem]; omega)) only [go_sem, ↓reduceIte]
     repeat (with_reducible refine And.intro (by first | assumption | omega | (simp; done) | (simp; omega)) ?_)
     refine toEnd hC ?_
     refine endX_seq ?_
     rcases iteB_some h with ⟨c4, h⟩ | ⟨c4, h⟩
     ·refine runX_condT rfl c4 ?_
      refine runX_seq ?_
      refine runX_regionC fun C hC => ?_
      try simp -implicitDefEqProofs (maxSteps := 4000000) (disch := first | omega | decide | (simp only [go_sem]; omega)) only [go_sem, ↓reduceIte]
      repeat (with_reducible refine And.intro (by first | assumption | omega | (simp; done) | (simp; omega)) ?_)
      refine toEnd hC ?_
      refine endX_seq ?_
      refine runX_ret ?_
      refine endX_blkR ?_
      refine endX_seqR ?_
      refine endX_q ?_
      obtain rfl := Option.some.inj h
      show RetW _ _ _ _ _
      simp only [RetW]
      (try simp -implicitDefEqProofs (maxSteps := 4000000) (disch := first | omega | decide | (simp only [go_sem]; omega)) only [go_sem, ↓reduceIte])
      (try simp (disch := omega) only [if_pos, Nat.sub_zero])
      exact leT_refl _
     ·refine runX_condF rfl c4 ?_
      refine runX_seq ?_
      refine runX_regionC fun C hC => ?_
      try simp -implicitDefEqProofs (maxSteps := 4000000) (disch := first | omega | decide | (simp only [go_sem]; omega)) only [go_sem, ↓reduceIte]
      repeat (with_reducible refine And.intro (by first | assumption | omega | (simp; done) | (simp; omega)) ?_)
      refine toEnd hC ?_
      refine endX_seq ?_
      rcases iteB_some h with ⟨c5, h⟩ | ⟨c5, h⟩
      ·refine runX_condT rfl c5 ?_
       refine runX_seq ?_
       refine runX_regionC fun C hC => ?_
       try simp -implicitDefEqProofs (maxSteps := 4000000) (disch := first | omega | decide | (simp only [go_sem]; omega)) only [go_sem, ↓reduceIte]
       repeat (with_reducible refine And.intro (by first | assumption | omega | (simp; done) | (simp; omega)) ?_)
       refine toEnd hC ?_
       refine endX_seq ?_
       refine runX_ret ?_
       refine endX_blkR ?_
       refine endX_seqR ?_
       refine endX_q ?_
       obtain rfl := Option.some.inj h
       show RetW _ _ _ _ _
       simp only [RetW]
       (try simp -implicitDefEqProofs (maxSteps := 4000000) (disch := first | omega | decide | (simp only [go_sem]; omega)) only [go_sem, ↓reduceIte])
       (try simp (disch := omega) only [if_pos, Nat.sub_zero])
       exact leT_refl _
      ·refine runX_condF rfl c5 ?_
       refine runX_meet [0, 1, 5, 16] (fun S => ∃ (x7 : Bool), S = F150_S1 a0 a1 x7 ∧ F150_J1 n a0 a1 x7 = some r) ?_ ?_
       ·refine runX_seq ?_
        refine runX_regionC fun C hC => ?_
        try simp -implicitDefEqProofs (maxSteps := 4000000) (disch := first | omega | decide | (simp only [go_sem]; omega)) only [go_sem, ↓reduceIte]
        repeat (with_reducible refine And.intro (by first | assumption | omega | (simp; done) | (simp; omega)) ?_)
        refine toEnd hC ?_
        refine endX_seq ?_
        rcases iteB_some h with ⟨c6, h⟩ | ⟨c6, h⟩
        ·refine runX_condT rfl c6 ?_
         refine runX_skip ?_
         refine endX_q (meetQ_normal ⟨F150_S1 a0 a1 (a0 == (9 : Int)), ?_, (a0 == (9 : Int)), rfl, h⟩)
         simp only [F150_S1]
         (try simp -implicitDefEqProofs (maxSteps := 4000000) (disch := first | omega | decide | (simp only [go_sem]; omega)) only [go_sem, ↓reduceIte])
         first | exact leS_refl _ | (refine leS_le ?_ ?_ <;> first | exact leL_refl _ | exact leOs_refl _ | (simp only [List.append_assoc, List.cons_append, List.nil_append]; exact leOs_refl _) | (repeat (first | exact leL_refl _ | refine leL_cons (by first | exact leT_refl _ | exact leT_virt | exact leT_junk _ | exact leT_sl | exact leT_sln | exact leT_nil | (refine leT_agg (by repeat (first | exact leL_refl _ | refine leL_cons (by first | exact leT_refl _ | exact leT_sl | exact leT_sln | exact leT_nil) ?_)))) ?_)))
        ·refine runX_condF rfl c6 ?_
         refine runX_regionC fun C hC => ?_
         try simp -implicitDefEqProofs (maxSteps := 4000000) (disch := first | omega | decide | (simp only [go_sem]; omega)) only [go_sem, ↓reduceIte]
         repeat (with_reducible refine And.intro (by first | assumption | omega | (simp; done) | (simp; omega)) ?_)
         refine toEnd hC ?_
         refine endX_q (meetQ_normal ⟨F150_S1 a0 a1 (a0 == (10 : Int)), ?_, (a0 == (10 : Int)), rfl, h⟩)
         simp only [F150_S1]
         (try simp -implicitDefEqProofs (maxSteps := 4000000) (disch := first | omega | decide | (simp only [go_sem]; omega)) only [go_sem, ↓reduceIte])
         first | exact leS_refl _ | (refine leS_le ?_ ?_ <;> first | exact leL_refl _ | exact leOs_refl _ | (simp only [List.append_assoc, List.cons_append, List.nil_append]; exact leOs_refl _) | (repeat (first | exact leL_refl _ | refine leL_cons (by first | exact leT_refl _ | exact leT_virt | exact leT_junk _ | exact leT_sl | exact leT_sln | exact leT_nil | (refine leT_agg (by repeat (first | exact leL_refl _ | refine leL_cons (by first | exact leT_refl _ | exact leT_sl | exact leT_sln | exact leT_nil) ?_)))) ?_)))
       ·clear h
        rintro S ⟨x7, rfl, h⟩
        rw [F150_J1] at h
        simp only [F150_S1]
        rcases iteB_some h with ⟨c8, h⟩ | ⟨c8, h⟩
        ·refine runX_condT rfl c8 ?_
         refine runX_seq ?_
         refine runX_regionC fun C hC => ?_
         try simp -implicitDefEqProofs (maxSteps := 4000000) (disch := first | omega | decide | (simp only [go_sem]; omega)) only [go_sem, ↓reduceIte]
         repeat (with_reducible refine And.intro (by first | assumption | omega | (simp; done) | (simp; omega)) ?_)
         refine toEnd hC ?_
         refine endX_seq ?_
         refine runX_ret ?_
         refine endX_blkR ?_
         refine endX_seqR ?_
         refine endX_q ?_
         obtain rfl := Option.some.inj h
         show RetW _ _ _ _ _
         simp only [RetW]
         (try simp -implicitDefEqProofs (maxSteps := 4000000) (disch := first | omega | decide | (simp only [go_sem]; omega)) only [go_sem, ↓reduceIte])
         (try simp (disch := omega) only [if_pos, Nat.sub_zero])
         exact leT_refl _
        ·refine runX_condF rfl c8 ?_
         refine runX_seq ?_
         refine runX_seq ?_
         refine runX_regionC fun C hC => ?_
         try simp -implicitDefEqProofs (maxSteps := 4000000) (disch := first | omega | decide | (simp only [go_sem]; omega)) only [go_sem, ↓reduceIte]
         repeat (with_reducible refine And.intro (by first | assumption | omega | (simp; done) | (simp; omega)) ?_)
         refine toEnd hC ?_
         refine endX_seq ?_
         rcases iteB_some h with ⟨c9, h⟩ | ⟨c9, h⟩
         ·refine runX_condT rfl c9 ?_
          refine runX_skip ?_
          refine endX_seq ?_
          rcases iteB_some h with ⟨c10, h⟩ | ⟨c10, h⟩
          ·refine runX_condT rfl c10 ?_
           refine runX_seq ?_
           refine runX_regionC fun C hC => ?_
           try simp -implicitDefEqProofs (maxSteps := 4000000) (disch := first | omega | decide | (simp only [go_sem]; omega)) only [go_sem, ↓reduceIte]
           repeat (with_reducible refine And.intro (by first | assumption | omega | (simp; done) | (simp; omega)) ?_)
           refine toEnd hC ?_
           refine endX_seq ?_
           refine runX_ret ?_
           refine endX_blkR ?_
           refine endX_seqR ?_
           refine endX_q ?_
           obtain rfl := Option.some.inj h
           show RetW _ _ _ _ _
           simp only [RetW]
           (try simp -implicitDefEqProofs (maxSteps := 4000000) (disch := first | omega | decide | (simp only [go_sem]; omega)) only [go_sem, ↓reduceIte])
           (try simp (disch := omega) only [if_pos, Nat.sub_zero])
           exact leT_refl _
          ·refine runX_condF rfl c10 ?_
           refine runX_skip ?_
           refine endX_blk ?_
           refine endX_seq ?_
           refine runX_seq ?_
           refine runX_seq ?_
           refine runX_regionC fun C hC => ?_
           try simp -implicitDefEqProofs (maxSteps := 4000000) (disch := first | omega | decide | (simp only [go_sem]; omega)) only [go_sem, ↓reduceIte]
           repeat (with_reducible refine And.intro (by first | assumption | omega | (simp; done) | (simp; omega)) ?_)
           refine toEnd hC ?_
           refine endX_seq ?_
           rcases iteB_some h with ⟨c11, h⟩ | ⟨c11, h⟩
           ·refine runX_condT rfl c11 ?_
            refine runX_seq ?_
            refine runX_regionC fun C hC => ?_
            try simp -implicitDefEqProofs (maxSteps := 4000000) (disch := first | omega | decide | (simp only [go_sem]; omega)) only [go_sem, ↓reduceIte]
            repeat (with_reducible refine And.intro (by first | assumption | omega | (simp; done) | (simp; omega)) ?_)
            refine toEnd hC ?_
            refine endX_seq ?_
            refine runX_ret ?_
            refine endX_seqR ?_
            refine endX_q ?_
            obtain rfl := Option.some.inj h
            show RetW _ _ _ _ _
            simp only [RetW]
            (try simp -implicitDefEqProofs (maxSteps := 4000000) (disch := first | omega | decide | (simp only [go_sem]; omega)) only [go_sem, ↓reduceIte])
            (try simp (disch := omega) only [if_pos, Nat.sub_zero])
            exact leT_refl _
           ·refine runX_condF rfl c11 ?_
            refine runX_skip ?_
            refine endX_seq ?_
            refine runX_seq ?_
            refine runX_regionC fun C hC => ?_
            try simp -implicitDefEqProofs (maxSteps := 4000000) (disch := first | omega | decide | (simp only [go_sem]; omega)) only [go_sem, ↓reduceIte]
            repeat (with_reducible refine And.intro (by first | assumption | omega | (simp; done) | (simp; omega)) ?_)
            refine toEnd hC ?_
            refine endX_seq ?_
            refine runX_ret ?_
            refine endX_q ?_
            obtain rfl := Option.some.inj h
            show RetW _ _ _ _ _
            simp only [RetW]
            (try simp -implicitDefEqProofs (maxSteps := 4000000) (disch := first | omega | decide | (simp only [go_sem]; omega)) only [go_sem, ↓reduceIte])
            (try simp (disch := omega) only [if_pos, Nat.sub_zero])
            exact leT_refl _
         ·refine runX_condF rfl c9 ?_
          refine runX_regionC fun C hC => ?_
          try simp -implicitDefEqProofs (maxSteps := 4000000) (disch := first | omega | decide | (simp only [go_sem]; omega)) only [go_sem, ↓reduceIte]
          repeat (with_reducible refine And.intro (by first | assumption | omega | (simp; done) | (simp; omega)) ?_)
          refine toEnd hC ?_
          refine endX_seq ?_
          rcases iteB_some h with ⟨c12, h⟩ | ⟨c12, h⟩
          ·refine runX_condT rfl c12 ?_
           refine runX_seq ?_
           refine runX_regionC fun C hC => ?_
           try simp -implicitDefEqProofs (maxSteps := 4000000) (disch := first | omega | decide | (simp only [go_sem]; omega)) only [go_sem, ↓reduceIte]
           repeat (with_reducible refine And.intro (by first | assumption | omega | (simp; done) | (simp; omega)) ?_)
           refine toEnd hC ?_
           refine endX_seq ?_
           refine runX_ret ?_
           refine endX_blkR ?_
           refine endX_seqR ?_
           refine endX_q ?_
           obtain rfl := Option.some.inj h
           show RetW _ _ _ _ _
           simp only [RetW]
           (try simp -implicitDefEqProofs (maxSteps := 4000000) (disch := first | omega | decide | (simp only [go_sem]; omega)) only [go_sem, ↓reduceIte])
           (try simp (disch := omega) only [if_pos, Nat.sub_zero])
           exact leT_refl _
          ·refine runX_condF rfl c12 ?_
           refine runX_skip ?_
           refine endX_blk ?_
           refine endX_seq ?_
           refine runX_seq ?_
           refine runX_seq ?_
           refine runX_regionC fun C hC => ?_
           try simp -implicitDefEqProofs (maxSteps := 4000000) (disch := first | omega | decide | (simp only [go_sem]; omega)) only [go_sem, ↓reduceIte]
           repeat (with_reducible refine And.intro (by first | assumption | omega | (simp; done) | (simp; omega)) ?_)
           refine toEnd hC ?_
           refine endX_seq ?_
           rcases iteB_some h with ⟨c13, h⟩ | ⟨c13, h⟩
           ·refine runX_condT rfl c13 ?_
            refine runX_seq ?_
            refine runX_regionC fun C hC => ?_
            try simp -implicitDefEqProofs (maxSteps := 4000000) (disch := first | omega | decide | (simp only [go_sem]; omega)) only [go_sem, ↓reduceIte]
            repeat (with_reducible refine And.intro (by first | assumption | omega | (simp; done) | (simp; omega)) ?_)
            refine toEnd hC ?_
            refine endX_seq ?_
            refine runX_ret ?_
            refine endX_seqR ?_
            refine endX_q ?_
            obtain rfl := Option.some.inj h
            show RetW _ _ _ _ _
            simp only [RetW]
            (try simp -implicitDefEqProofs (maxSteps := 4000000) (disch := first | omega | decide | (simp only [go_sem]; omega)) only [go_sem, ↓reduceIte])
            (try simp (disch := omega) only [if_pos, Nat.sub_zero])
            exact leT_refl _
           ·refine runX_condF rfl c13 ?_
            refine runX_skip ?_
            refine endX_seq ?_
            refine runX_seq ?_
            refine runX_regionC fun C hC => ?_
            try simp -implicitDefEqProofs (maxSteps := 4000000) (disch := first | omega | decide | (simp only [go_sem]; omega)) only [go_sem, ↓reduceIte]
            repeat (with_reducible refine And.intro (by first | assumption | omega | (simp; done) | (simp; omega)) ?_)
            refine toEnd hC ?_
            refine endX_seq ?_
            refine runX_ret ?_
            refine endX_q ?_
            obtain rfl := Option.some.inj h
            show RetW _ _ _ _ _
            simp only [RetW]
            (try simp -implicitDefEqProofs (maxSteps := 4000000) (disch := first | omega | decide | (simp only [go_sem]; omega)) only [go_sem, ↓reduceIte])
            (try simp (disch := omega) only [if_pos, Nat.sub_zero])
            exact leT_refl _
end Go.Proofs.YtjkfobmfddfjhaaDoorX

set_option linter.unusedVariables false
set_option linter.unusedSimpArgs false
namespace Go.Proofs.YtjkfobmfddfjhaaDoorX
open Go Go.RowKit Go.Proofs
set_option maxRecDepth 100000
attribute [local go_sem ↓] stepsK_build stepsK_bs appendS
attribute [local go_sem] String.reduceEq String.reduceNe reduceCtorEq Int.reduceEq Nat.reduceAdd Nat.reduceSub Nat.reduceMul Nat.reduceLT Nat.reduceLeDiff Nat.reduceEqDiff Nat.reduceBEq Int.reduceToNat Int.reduceLT Int.reduceLE Int.reduceGT Int.reduceGE Int.reduceAdd Int.reduceSub Int.reduceMul Int.reduceNeg Int.reduceBEq Int.reduceBNe Int.reducePow Int.reduceDiv Int.reduceMod Int.reduceTDiv Int.reduceTMod Int.reduceNatCast
/-! ### xmlout.Escape -/
def F129_S1 (x2 : List UInt8) (x3 : Bool) (x4 : List (Int)) : St := ⟨[.imm (.string (bs x2)), .junk, .junk, .ref 0 0 0 0, .junk, .junk, .junk, .junk, .junk, .junk, .junk, .junk, .junk, .junk, .junk, .junk, .junk, .junk, .junk, .junk, .junk, .junk, .junk, .junk, .junk], [some (.box 87 (.agg [adT x3 0, .rsl 1 1 0 x4.length]) false), some (.buf 5 1 (List.map byteT x4) 0)]⟩
def F129_L1 : Nat → (List UInt8) → (Bool) → (List (Int)) → Option (List UInt8)
 | 0, _, _, _ => none
 | m1 + 1, x2, x3, x4 => iteB (!(x2 == [])) ((F72 m1 x2).bind fun v6 => grd (0 ≤ v6.2 ∧ v6.2 ≤ (x2.length : Int)) ((F150 m1 v6.1 (x2.take v6.2.toNat)).bind fun v8 => (F37 m1 (x3, x4) v8).bind fun v9 => grd (0 ≤ v6.2 ∧ v6.2 ≤ (x2.length : Int)) (F129_L1 m1 (x2.drop v6.2.toNat) v9.2.2.1 v9.2.2.2))) ((F39 m1 (x3, x4)).bind fun v11 => some v11.1)
def F129 (n : Nat) (a0 : List UInt8) : Option (List UInt8) := (F36 n a0).bind fun v1 => F129_L1 n v1 false []
set_option maxHeartbeats 4000000 in
theorem F129_ok : ∀ (n : Nat) (a0 : List UInt8) (r : List UInt8), F129 n a0 = some r → FnC Tryd.prog 129 [.imm (.string (bs a0))] (.imm (.string (bs r)))
 | n, a0, r, h => by
  unfold F129 at h
  refine FnC.goX mixed Tryd.func129 (by kernel_rfl) rfl ?_
  simp only [Tryd.ntmps129, List.length_cons, List.length_nil, List.replicate, List.cons_append, List.nil_append, Nat.reduceAdd, Nat.reduceSub]
  refine runX_seq ?_
  refine runX_regionC fun C hC => ?_
  try simp -implicitDefEqProofs (maxSteps := 4000000) (disch := first | omega | decide | (simp only [go_sem]; omega)) only [go_sem, ↓reduceIte]
  repeat (with_reducible refine And.intro (by first | assumption | omega | (simp; done) | (simp; omega)) ?_)
  refine toEnd hC ?_
  refine endX_seq ?_
  refine runX_seq ?_
  refine runX_regionC fun C hC => ?_
  try simp -implicitDefEqProofs (maxSteps := 4000000) (disch := first | omega | decide | (simp only [go_sem]; omega)) only [go_sem, ↓reduceIte]
  repeat (with_reducible refine And.intro (by first | assumption | omega | (simp; done) | (simp; omega)) ?_)
  refine toEnd hC ?_
  refine endX_seq ?_
  refine runX_seq ?_
  refine runX_seq ?_
  refine runX_regionC fun C hC => ?_
  obtain ⟨v1, h1, h⟩ := bnd_some h
  try simp -implicitDefEqProofs (maxSteps := 4000000) (disch := first | omega | decide | (simp only [go_sem]; omega)) only [go_sem, ↓reduceIte]
  repeat (with_reducible refine And.intro (by first | assumption | omega | (simp; done) | (simp; omega)) ?_)
  refine callG_X (by first | rfl | (simp only [go_sem]; done) | (simp only [closedL, closedT, Bool.and_true]; exact closedL_map _ (fun _ => by first | rfl | (simp only [go_sem]; done)) _)) (F36_ok n a0 _ h1) (by repeat (first | exact leL_refl _ | refine leL_cons (by first | exact leT_refl _ | exact leT_virt | exact leT_junk _ | exact leT_sl | exact leT_sln | exact leT_nil | (refine leT_agg (by repeat (first | exact leL_refl _ | refine leL_cons (by first | exact leT_refl _ | exact leT_sl | exact leT_sln | exact leT_nil) ?_)))) ?_)) ?_
  try simp -implicitDefEqProofs (maxSteps := 4000000) (disch := first | omega | decide | (simp only [go_sem]; omega)) only [go_sem, ↓reduceIte]
  repeat (with_reducible refine And.intro (by first | assumption | omega | (simp; done) | (simp; omega)) ?_)
  refine toEnd hC ?_
  refine endX_seq ?_
  refine runX_block ?_
  refine runX_loop [0, 3] (fun m S => ∃ (x2 : List UInt8) (x3 : Bool) (x4 : List (Int)), S = F129_S1 x2 x3 x4 ∧ m ≤ n ∧ F129_L1 m x2 x3 x4 = some r) n ⟨F129_S1 v1 false [], ?_, v1, false, [], rfl, Nat.le_refl _, h⟩ ?_
  ·(try simp -implicitDefEqProofs (maxSteps := 4000000) (disch := first | omega | decide | (simp only [go_sem]; omega)) only [go_sem, ↓reduceIte])
   simp only [F129_S1]
   refine leS_trans (leS_pad _ _ 1) ?_
   simp only [List.replicate, List.cons_append, List.nil_append]
   refine leS_virt 1 5 1 rfl ?_ ?_ rfl
   ·repeat (first | exact leL_refl _ | refine leL_cons (by first | exact leT_refl _ | exact leT_virt | exact leT_junk _ | exact leT_sl | exact leT_sln | exact leT_nil | (refine leT_agg (by repeat (first | exact leL_refl _ | refine leL_cons (by first | exact leT_refl _ | exact leT_sl | exact leT_sln | exact leT_nil) ?_)))) ?_)
   ·repeat (first | exact leOs_refl _ | refine leOs.cons (by first | exact leO.same _ | (refine leO.box (leT_agg (by repeat (first | exact leL_refl _ | refine leL_cons (by first | exact leT_refl _ | exact leT_virt | exact leT_junk _ | exact leT_sl | exact leT_sln | exact leT_nil | (refine leT_agg (by repeat (first | exact leL_refl _ | refine leL_cons (by first | exact leT_refl _ | exact leT_sl | exact leT_sln | exact leT_nil) ?_)))) ?_))) rfl) | (refine leO.box (by first | exact leT_virt | exact leT_sl | exact leT_sln) rfl)) ?_)
  ·clear h
   rintro m1 S ⟨x2, x3, x4, rfl, hm1, h⟩
   cases m1 with
   | zero => first | cases (show (none : Option _) = some _ from h) | (rw [F129_L1] at h; cases h)
   | succ m1 =>
    rw [F129_L1] at h
    simp only [F129_S1]
    refine runX_seq ?_
    refine runX_seq ?_
    refine runX_regionC fun C hC => ?_
    try simp -implicitDefEqProofs (maxSteps := 4000000) (disch := first | omega | decide | (simp only [go_sem]; omega)) only [go_sem, ↓reduceIte]
    repeat (with_reducible refine And.intro (by first | assumption | omega | (simp; done) | (simp; omega)) ?_)
    refine toEnd hC ?_
    refine endX_seq ?_
    rcases iteB_some h with ⟨c5, h⟩ | ⟨c5, h⟩
    ·refine runX_condT rfl c5 ?_
     refine runX_skip ?_
     refine endX_seq ?_
     refine runX_block ?_
     refine runX_seq ?_
     refine runX_regionC fun C hC => ?_
     obtain ⟨v6, h6, h⟩ := bnd_some h
     try simp -implicitDefEqProofs (maxSteps := 4000000) (disch := first | omega | decide | (simp only [go_sem]; omega)) only [go_sem, ↓reduceIte]
     repeat (with_reducible refine And.intro (by first | assumption | omega | (simp; done) | (simp; omega)) ?_)
     refine callG_X (by first | rfl | (simp only [go_sem]; done) | (simp only [closedL, closedT, Bool.and_true]; exact closedL_map _ (fun _ => by first | rfl | (simp only [go_sem]; done)) _)) (F72_ok m1 x2 _ h6) (by repeat (first | exact leL_refl _ | refine leL_cons (by first | exact leT_refl _ | exact leT_virt | exact leT_junk _ | exact leT_sl | exact leT_sln | exact leT_nil | (refine leT_agg (by repeat (first | exact leL_refl _ | refine leL_cons (by first | exact leT_refl _ | exact leT_sl | exact leT_sln | exact leT_nil) ?_)))) ?_)) ?_
     try simp -implicitDefEqProofs (maxSteps := 4000000) (disch := first | omega | decide | (simp only [go_sem]; omega)) only [go_sem, ↓reduceIte]
     repeat (with_reducible refine And.intro (by first | assumption | omega | (simp; done) | (simp; omega)) ?_)
     refine toEnd hC ?_
     refine endX_seq ?_
     refine runX_seq ?_
     refine runX_regionC fun C hC => ?_
     obtain ⟨g7, h⟩ := grd_some h
     obtain ⟨v8, h8, h⟩ := bnd_some h
     try simp -implicitDefEqProofs (maxSteps := 4000000) (disch := first | omega | decide | (simp only [go_sem]; omega)) only [go_sem, ↓reduceIte]
     repeat (with_reducible refine And.intro (by first | assumption | omega | (simp; done) | (simp; omega)) ?_)
     refine callG_X (by first | rfl | (simp only [go_sem]; done) | (simp only [closedL, closedT, Bool.and_true]; exact closedL_map _ (fun _ => by first | rfl | (simp only [go_sem]; done)) _)) (F150_ok m1 v6.1 (x2.take v6.2.toNat) _ h8) (by repeat (first | exact leL_refl _ | refine leL_cons (by first | exact leT_refl _ | exact leT_virt | exact leT_junk _ | exact leT_sl | exact leT_sln | exact leT_nil | (refine leT_agg (by repeat (first | exact leL_refl _ | refine leL_cons (by first | exact leT_refl _ | exact leT_sl | exact leT_sln | exact leT_nil) ?_)))) ?_)) ?_
     obtain ⟨v9, h9, h⟩ := bnd_some h
     try simp -implicitDefEqProofs (maxSteps := 4000000) (disch := first | omega | decide | (simp only [go_sem]; omega)) only [go_sem, ↓reduceIte]
     repeat (with_reducible refine And.intro (by first | assumption | omega | (simp; done) | (simp; omega)) ?_)
     refine callR_X [0, 1] (F37_ok m1 (x3, x4) v8 _ h9) (by decide) (by (try simp -implicitDefEqProofs (maxSteps := 4000000) (disch := first | omega | decide | (simp only [go_sem]; omega)) only [go_sem, ↓reduceIte]); repeat (first | exact trivial | refine And.intro ?_ ?_ | exact fun _ => trivial | exact fun _ _ => trivial | exact fun _ _ h => h | rfl | decide)) (by (try simp -implicitDefEqProofs (maxSteps := 4000000) (disch := first | omega | decide | (simp only [go_sem]; omega)) only [go_sem, ↓reduceIte]); repeat (first | exact leL_refl _ | refine leL_cons (by first | exact leT_refl _ | exact leT_virt | exact leT_junk _ | exact leT_sl | exact leT_sln | exact leT_nil | (refine leT_agg (by repeat (first | exact leL_refl _ | refine leL_cons (by first | exact leT_refl _ | exact leT_sl | exact leT_sln | exact leT_nil) ?_)))) ?_)) ?_
     try simp -implicitDefEqProofs (maxSteps := 4000000) (disch := first | omega | decide | (simp only [go_sem]; omega)) only [go_sem, ↓reduceIte]
     repeat (with_reducible refine And.intro (by first | assumption | omega | (simp; done) | (simp; omega)) ?_)
     refine toEnd hC ?_
     refine endX_seq ?_
     refine runX_regionC fun C hC => ?_
     obtain ⟨g10, h⟩ := grd_some h
     try simp -implicitDefEqProofs (maxSteps := 4000000) (disch := first | omega | decide | (simp only [go_sem]; omega)) only [go_sem, ↓reduceIte]
     repeat (with_reducible refine And.intro (by first | assumption | omega | (simp; done) | (simp; omega)) ?_)
     refine toEnd hC ?_
     refine endX_blk ?_
     refine endX_q (roundQ_normal ⟨m1, by omega, F129_S1 (x2.drop v6.2.toNat) v9.2.2.1 v9.2.2.2, ?_, (x2.drop v6.2.toNat), v9.2.2.1, v9.2.2.2, rfl, by omega, h⟩)
     simp only [F129_S1]
     (try simp -implicitDefEqProofs (maxSteps := 4000000) (disch := first | omega | decide | (simp only [go_sem]; omega)) only [go_sem, ↓reduceIte])
     first | exact leS_refl _ | (refine leS_le ?_ ?_ <;> first | exact leL_refl _ | exact leOs_refl _ | (simp only [List.append_assoc, List.cons_append, List.nil_append]; exact leOs_refl _) | (repeat (first | exact leL_refl _ | refine leL_cons (by first | exact leT_refl _ | exact leT_virt | exact leT_junk _ | exact leT_sl | exact leT_sln | exact leT_nil | (refine leT_agg (by repeat (first | exact leL_refl _ | refine leL_cons (by first | exact leT_refl _ | exact leT_sl | exact leT_sln | exact leT_nil) ?_)))) ?_)))
    ·refine runX_condF rfl c5 ?_
     refine runX_exit ?_
     refine endX_seqE ?_
     refine endX_q (roundQ_exit ?_)
     refine endX_blkE ?_
     refine endX_seq ?_
     refine runX_seq ?_
     refine runX_regionC fun C hC => ?_
     simp only [runK_region, runK_draw, liteL, liteL2, dstsL, gL, List.getD_cons_zero, List.getD_cons_succ]
     obtain ⟨v11, h11, h⟩ := bnd_some h
     try simp -implicitDefEqProofs (maxSteps := 4000000) (disch := first | omega | decide | (simp only [go_sem]; omega)) only [go_sem, ↓reduceIte]
     repeat (with_reducible refine And.intro (by first | assumption | omega | (simp; done) | (simp; omega)) ?_)
     refine callR_X [0, 1] (F39_ok m1 (x3, x4) _ h11) (by decide) (by (try simp -implicitDefEqProofs (maxSteps := 4000000) (disch := first | omega | decide | (simp only [go_sem]; omega)) only [go_sem, ↓reduceIte]); repeat (first | exact trivial | refine And.intro ?_ ?_ | exact fun _ => trivial | exact fun _ _ => trivial | exact fun _ _ h => h | rfl | decide)) (by (try simp -implicitDefEqProofs (maxSteps := 4000000) (disch := first | omega | decide | (simp only [go_sem]; omega)) only [go_sem, ↓reduceIte]); repeat (first | exact leL_refl _ | refine leL_cons (by first | exact leT_refl _ | exact leT_virt | exact leT_junk _ | exact leT_sl | exact leT_sln | exact leT_nil | (refine leT_agg (by repeat (first | exact leL_refl _ | refine leL_cons (by first | exact leT_refl _ | exact leT_sl | exact leT_sln | exact leT_nil) ?_)))) ?_)) ?_
     try simp -implicitDefEqProofs (maxSteps := 4000000) (disch := first | omega | decide | (simp only [go_sem]; omega)) only [go_sem, ↓reduceIte]
     repeat (with_reducible refine And.intro (by first | assumption | omega | (simp; done) | (simp; omega)) ?_)
     refine toEnd hC ?_
     refine endX_seq ?_
     refine runX_ret ?_
     refine endX_q ?_
     obtain rfl := Option.some.inj h
     show RetW _ _ _ _ _
     simp only [RetW]
     (try simp -implicitDefEqProofs (maxSteps := 4000000) (disch := first | omega | decide | (simp only [go_sem]; omega)) only [go_sem, ↓reduceIte])
     (try simp (disch := omega) only [if_pos, Nat.sub_zero])
     exact leT_refl _
end Go.Proofs.YtjkfobmfddfjhaaDoorX

set_option linter.unusedVariables false
set_option linter.unusedSimpArgs false
namespace Go.Proofs.YtjkfobmfddfjhaaDoorX
open Go Go.RowKit Go.Proofs
set_option maxRecDepth 100000
attribute [local go_sem ↓] stepsK_build stepsK_bs appendS
attribute [local go_sem] String.reduceEq String.reduceNe reduceCtorEq Int.reduceEq Nat.reduceAdd Nat.reduceSub Nat.reduceMul Nat.reduceLT Nat.reduceLeDiff Nat.reduceEqDiff Nat.reduceBEq Int.reduceToNat Int.reduceLT Int.reduceLE Int.reduceGT Int.reduceGE Int.reduceAdd Int.reduceSub Int.reduceMul Int.reduceNeg Int.reduceBEq Int.reduceBNe Int.reducePow Int.reduceDiv Int.reduceMod Int.reduceTDiv Int.reduceTMod Int.reduceNatCast
/-! ### lifecycle.prefix$1 -/
def F130 (n : Nat) (a0 : Int) : Option (Bool) := some (decide (a0 < (32 : Int)))
set_option maxHeartbeats 4000000 in
theorem F130_ok : ∀ (n : Nat) (a0 : Int) (r : Bool), F130 n a0 = some r → FnC Tryd.prog 130 [.imm (.int .u8 a0)] (.imm (.bool r))
 | n, a0, r, h => by
  unfold F130 at h
  refine FnC.goX mixed Tryd.func130 (by kernel_rfl) rfl ?_
  simp only [Tryd.ntmps130, List.length_cons, List.length_nil, List.replicate, List.cons_append, List.nil_append, Nat.reduceAdd, Nat.reduceSub]
  refine runX_seq ?_
  refine runX_regionC fun C hC => ?_
  try simp -implicitDefEqProofs (maxSteps := 4000000) (disch := first | omega | decide | (simp only [go_sem]; omega)) only [go_sem, ↓reduceIte]
  repeat (with_reducible refine And.intro (by first | assumption | omega | (simp; done) | (simp; omega)) ?_)
  refine toEnd hC ?_
  refine endX_seq ?_
  refine runX_seq ?_
  refine runX_regionC fun C hC => ?_
  try simp -implicitDefEqProofs (maxSteps := 4000000) (disch := first | omega | decide | (simp only [go_sem]; omega)) only [go_sem, ↓reduceIte]
  repeat (with_reducible refine And.intro (by first | assumption | omega | (simp; done) | (simp; omega)) ?_)
  refine toEnd hC ?_
  refine endX_seq ?_
  refine runX_ret ?_
  refine endX_q ?_
  obtain rfl := Option.some.inj h
  show RetW _ _ _ _ _
  simp only [RetW]
  (try simp -implicitDefEqProofs (maxSteps := 4000000) (disch := first | omega | decide | (simp only [go_sem]; omega)) only [go_sem, ↓reduceIte])
  (try simp (disch := omega) only [if_pos, Nat.sub_zero])
  exact leT_refl _
end Go.Proofs.YtjkfobmfddfjhaaDoorX

set_option linter.unusedVariables false
set_option linter.unusedSimpArgs false
namespace Go.Proofs.YtjkfobmfddfjhaaDoorX
open Go Go.RowKit Go.Proofs
set_option maxRecDepth 100000
attribute [local go_sem ↓] stepsK_build stepsK_bs appendS
attribute [local go_sem] String.reduceEq String.reduceNe reduceCtorEq Int.reduceEq Nat.reduceAdd Nat.reduceSub Nat.reduceMul Nat.reduceLT Nat.reduceLeDiff Nat.reduceEqDiff Nat.reduceBEq Int.reduceToNat Int.reduceLT Int.reduceLE Int.reduceGT Int.reduceGE Int.reduceAdd Int.reduceSub Int.reduceMul Int.reduceNeg Int.reduceBEq Int.reduceBNe Int.reducePow Int.reduceDiv Int.reduceMod Int.reduceTDiv Int.reduceTMod Int.reduceNatCast
/-! ### lifecycle.either[byte]@lifecycle.prefix$1 -/
def F131000125_S1 (a0 : List (Int)) (x1 : Int) : St := ⟨[.junk, .fn 130 [], .junk, .junk, .junk, .junk, .junk, .sl 1 false (List.map byteT a0), .imm (.int .i64 (a0.length : Int)), .imm (.int .i64 x1), .junk, .junk, .junk, .junk, .junk, .junk, .junk], []⟩
def F131000125_L1 : Nat → (List (Int)) → (Int) → Option (Bool)
 | 0, _, _ => none
 | m1 + 1, a0, x1 => iteB (decide (x1 < (a0.length : Int))) (grd (0 ≤ x1 ∧ x1 < (a0.length : Int)) ((F130 m1 (a0.getD x1.toNat default)).bind fun v4 => iteB v4 (some true) (F131000125_L1 m1 a0 (IntKind.wrap .i64 (x1 + (1 : Int)))))) (some false)
def F131000125 (n : Nat) (a0 : List (Int)) : Option (Bool) := F131000125_L1 n a0 (0 : Int)
set_option maxHeartbeats 4000000 in
theorem F131000125_ok : ∀ (n : Nat) (a0 : List (Int)) (r : Bool), F131000125 n a0 = some r → FnC Tryd.prog 125 [.sl 1 false (List.map byteT a0), .fn 130 []] (.imm (.bool r))
 | n, a0, r, h => by
  unfold F131000125 at h
  refine FnC.goX mixed Tryd.func125 (by kernel_rfl) rfl ?_
  simp only [Tryd.ntmps125, List.length_cons, List.length_nil, List.replicate, List.cons_append, List.nil_append, Nat.reduceAdd, Nat.reduceSub]
  refine runX_seq ?_
  refine runX_regionC fun C hC => ?_
  try simp -implicitDefEqProofs (maxSteps := 4000000) (disch := first | omega | decide | (simp only [go_sem]; omega)) only [go_sem, ↓reduceIte]
  repeat (with_reducible refine And.intro (by first | assumption | omega | (simp; done) | (simp; omega)) ?_)
  refine toEnd hC ?_
  refine endX_seq ?_
  refine runX_seq ?_
  refine runX_seq ?_
  refine runX_regionC fun C hC => ?_
  try simp -implicitDefEqProofs (maxSteps := 4000000) (disch := first | omega | decide | (simp only [go_sem]; omega)) only [go_sem, ↓reduceIte]
  repeat (with_reducible refine And.intro (by first | assumption | omega | (simp; done) | (simp; omega)) ?_)
  refine toEnd hC ?_
  refine endX_seq ?_
  refine runX_block ?_
  refine runX_loop [1, 7, 8, 9] (fun m S => ∃ (x1 : Int), S = F131000125_S1 a0 x1 ∧ m ≤ n ∧ F131000125_L1 m a0 x1 = some r) n ⟨F131000125_S1 a0 (0 : Int), ?_, (0 : Int), rfl, Nat.le_refl _, h⟩ ?_
  ·simp only [F131000125_S1]
   (try simp -implicitDefEqProofs (maxSteps := 4000000) (disch := first | omega | decide | (simp only [go_sem]; omega)) only [go_sem, ↓reduceIte])
   first | exact leS_refl _ | (refine leS_le ?_ ?_ <;> first | exact leL_refl _ | exact leOs_refl _ | (simp only [List.append_assoc, List.cons_append, List.nil_append]; exact leOs_refl _) | (repeat (first | exact leL_refl _ | refine leL_cons (by first | exact leT_refl _ | exact leT_virt | exact leT_junk _ | exact leT_sl | exact leT_sln | exact leT_nil | (refine leT_agg (by repeat (first | exact leL_refl _ | refine leL_cons (by first | exact leT_refl _ | exact leT_sl | exact leT_sln | exact leT_nil) ?_)))) ?_)))
  ·clear h
   rintro m1 S ⟨x1, rfl, hm1, h⟩
   cases m1 with
   | zero => first | cases (show (none : Option _) = some _ from h) | (rw [F131000125_L1] at h; cases h)
   | succ m1 =>
    rw [F131000125_L1] at h
    simp only [F131000125_S1]
    refine runX_seq ?_
    refine runX_regionC fun C hC => ?_
    try simp -implicitDefEqProofs (maxSteps := 4000000) (disch := first | omega | decide | (simp only [go_sem]; omega)) only [go_sem, ↓reduceIte]
    repeat (with_reducible refine And.intro (by first | assumption | omega | (simp; done) | (simp; omega)) ?_)
    refine toEnd hC ?_
    refine endX_seq ?_
    refine runX_seq ?_
    rcases iteB_some h with ⟨c2, h⟩ | ⟨c2, h⟩
    ·refine runX_condT rfl c2 ?_
     refine runX_skip ?_
     refine endX_seq ?_
     refine runX_seq ?_
     refine runX_block ?_
     refine runX_seq ?_
     refine runX_regionC fun C hC => ?_
     obtain ⟨g3, h⟩ := grd_some h
     try simp -implicitDefEqProofs (maxSteps := 4000000) (disch := first | omega | decide | (simp only [go_sem]; omega)) only [go_sem, ↓reduceIte]
     repeat (with_reducible refine And.intro (by first | assumption | omega | (simp; done) | (simp; omega)) ?_)
     refine toEnd hC ?_
     refine endX_seq ?_
     refine runX_seq ?_
     refine runX_regionC fun C hC => ?_
     obtain ⟨v4, h4, h⟩ := bnd_some h
     try simp -implicitDefEqProofs (maxSteps := 4000000) (disch := first | omega | decide | (simp only [go_sem]; omega)) only [go_sem, ↓reduceIte]
     repeat (with_reducible refine And.intro (by first | assumption | omega | (simp; done) | (simp; omega)) ?_)
     refine callG_X (by first | rfl | (simp only [go_sem]; done) | (simp only [closedL, closedT, Bool.and_true]; exact closedL_map _ (fun _ => by first | rfl | (simp only [go_sem]; done)) _)) (F130_ok m1 (a0.getD x1.toNat default) _ h4) (by repeat (first | exact leL_refl _ | refine leL_cons (by first | exact leT_refl _ | exact leT_virt | exact leT_junk _ | exact leT_sl | exact leT_sln | exact leT_nil | (refine leT_agg (by repeat (first | exact leL_refl _ | refine leL_cons (by first | exact leT_refl _ | exact leT_sl | exact leT_sln | exact leT_nil) ?_)))) ?_)) ?_
     try simp -implicitDefEqProofs (maxSteps := 4000000) (disch := first | omega | decide | (simp only [go_sem]; omega)) only [go_sem, ↓reduceIte]
     repeat (with_reducible refine And.intro (by first | assumption | omega | (simp; done) | (simp; omega)) ?_)
     refine toEnd hC ?_
     refine endX_seq ?_
     rcases iteB_some h with ⟨c5, h⟩ | ⟨c5, h⟩
     ·refine runX_condT rfl c5 ?_
      refine runX_seq ?_
      refine runX_regionC fun C hC => ?_
      try simp -implicitDefEqProofs (maxSteps := 4000000) (disch := first | omega | decide | (simp only [go_sem]; omega)) only [go_sem, ↓reduceIte]
      repeat (with_reducible refine And.intro (by first | assumption | omega | (simp; done) | (simp; omega)) ?_)
      refine toEnd hC ?_
      refine endX_seq ?_
      refine runX_ret ?_
      refine endX_blkR ?_
      refine endX_seqR ?_
      refine endX_q (roundQ_ret ?_)
      refine endX_blkR ?_
      refine endX_seqR ?_
      refine endX_q ?_
      obtain rfl := Option.some.inj h
      show RetW _ _ _ _ _
      simp only [RetW]
      (try simp -implicitDefEqProofs (maxSteps := 4000000) (disch := first | omega | decide | (simp only [go_sem]; omega)) only [go_sem, ↓reduceIte])
      (try simp (disch := omega) only [if_pos, Nat.sub_zero])
      exact leT_refl _
     ·refine runX_condF rfl c5 ?_
      refine runX_skip ?_
      refine endX_blk ?_
      refine endX_seq ?_
      refine runX_regionC fun C hC => ?_
      try simp -implicitDefEqProofs (maxSteps := 4000000) (disch := first | omega | decide | (simp only [go_sem]; omega)) only [go_sem, ↓reduceIte]
      repeat (with_reducible refine And.intro (by first | assumption | omega | (simp; done) | (simp; omega)) ?_)
      refine toEnd hC ?_
      refine endX_q (roundQ_normal ⟨m1, by omega, F131000125_S1 a0 (IntKind.wrap .i64 (x1 + (1 : Int))), ?_, (IntKind.wrap .i64 (x1 + (1 : Int))), rfl, by omega, h⟩)
      simp only [F131000125_S1]
      (try simp -implicitDefEqProofs (maxSteps := 4000000) (disch := first | omega | decide | (simp only [go_sem]; omega)) only [go_sem, ↓reduceIte])
      first | exact leS_refl _ | (refine leS_le ?_ ?_ <;> first | exact leL_refl _ | exact leOs_refl _ | (simp only [List.append_assoc, List.cons_append, List.nil_append]; exact leOs_refl _) | (repeat (first | exact leL_refl _ | refine leL_cons (by first | exact leT_refl _ | exact leT_virt | exact leT_junk _ | exact leT_sl | exact leT_sln | exact leT_nil | (refine leT_agg (by repeat (first | exact leL_refl _ | refine leL_cons (by first | exact leT_refl _ | exact leT_sl | exact leT_sln | exact leT_nil) ?_)))) ?_)))
    ·refine runX_condF rfl c2 ?_
     refine runX_exit ?_
     refine endX_seqE ?_
     refine endX_q (roundQ_exit ?_)
     refine endX_blkE ?_
     refine endX_seq ?_
     refine runX_seq ?_
     refine runX_regionC fun C hC => ?_
     try simp -implicitDefEqProofs (maxSteps := 4000000) (disch := first | omega | decide | (simp only [go_sem]; omega)) only [go_sem, ↓reduceIte]
     repeat (with_reducible refine And.intro (by first | assumption | omega | (simp; done) | (simp; omega)) ?_)
     refine toEnd hC ?_
     refine endX_seq ?_
     refine runX_ret ?_
     refine endX_q ?_
     obtain rfl := Option.some.inj h
     show RetW _ _ _ _ _
     simp only [RetW]
     (try simp -implicitDefEqProofs (maxSteps := 4000000) (disch := first | omega | decide | (simp only [go_sem]; omega)) only [go_sem, ↓reduceIte])
     (try simp (disch := omega) only [if_pos, Nat.sub_zero])
     exact leT_refl _
end Go.Proofs.YtjkfobmfddfjhaaDoorX

set_option linter.unusedVariables false
set_option linter.unusedSimpArgs false
namespace Go.Proofs.YtjkfobmfddfjhaaDoorX
open Go Go.RowKit Go.Proofs
set_option maxRecDepth 100000
attribute [local go_sem ↓] stepsK_build stepsK_bs appendS
attribute [local go_sem] String.reduceEq String.reduceNe reduceCtorEq Int.reduceEq Nat.reduceAdd Nat.reduceSub Nat.reduceMul Nat.reduceLT Nat.reduceLeDiff Nat.reduceEqDiff Nat.reduceBEq Int.reduceToNat Int.reduceLT Int.reduceLE Int.reduceGT Int.reduceGE Int.reduceAdd Int.reduceSub Int.reduceMul Int.reduceNeg Int.reduceBEq Int.reduceBNe Int.reducePow Int.reduceDiv Int.reduceMod Int.reduceTDiv Int.reduceTMod Int.reduceNatCast
/-! ### lifecycle.prefix -/
def F90 (n : Nat) (a0 : List UInt8) : Option (Bool) := iteB (decide ((64 : Int) < (a0.length : Int))) (some false) ((F119 n a0).bind fun v2 => iteB (!v2) (some false) (iteB (!(a0 == [])) ((F30 n a0 ([32] : List UInt8)).bind fun v5 => iteB (v5 == []) (some false) ((F129 n a0).bind fun v7 => (F128 n v7).bind fun v8 => iteB v8.2 (iteB (v8.1 == a0) ((F113 n a0 (34 : Int)).bind fun v11 => iteB (decide (v11 < (0 : Int))) ((F131000125 n (a0.map ofB)).bind fun v13 => some (!v13)) (some false)) (some false)) (some false))) ((F129 n a0).bind fun v14 => (F128 n v14).bind fun v15 => iteB v15.2 (iteB (v15.1 == a0) ((F113 n a0 (34 : Int)).bind fun v18 => iteB (decide (v18 < (0 : Int))) ((F131000125 n (a0.map ofB)).bind fun v20 => some (!v20)) (some false)) (some false)) (some false))))
set_option maxHeartbeats 4000000 in
theorem F90_ok : ∀ (n : Nat) (a0 : List UInt8) (r : Bool), F90 n a0 = some r → FnC Tryd.prog 90 [.imm (.string (bs a0))] (.imm (.bool r))
 | n, a0, r, h => by
  unfold F90 at h
  refine FnC.goX mixed Tryd.func90 (by kernel_rfl) rfl ?_
  simp only [Tryd.ntmps90, List.length_cons, List.length_nil, List.replicate, List.cons_append, List.nil_append, Nat.reduceAdd, Nat.reduceSub]
  refine runX_seq ?_
  refine runX_regionC fun C hC => ?_
  try simp -implicitDefEqProofs (maxSteps := 4000000) (disch := first | omega | decide | (simp only [go_sem]; omega)) only [go_sem, ↓reduceIte]
  repeat (with_reducible refine And.intro (by first | assumption | omega | (simp; done) | (simp; omega)) ?_)
  refine toEnd hC ?_
  refine endX_seq ?_
  refine runX_seq ?_
  refine runX_seq ?_
  refine runX_regionC fun C hC => ?_
  try simp -implicitDefEqProofs (maxSteps := 4000000) (disch := first | omega | decide | (simp only [go_sem]; omega)) only [go_sem, ↓reduceIte]
  repeat (with_reducible refine And.intro (by first | assumption | omega | (simp; done) | (simp; omega)) ?_)
  rcases iteB_some h with ⟨c1, h⟩ | ⟨c1, h⟩
  ·refine guardK_F c1 ?_
   try simp -implicitDefEqProofs (maxSteps := 4000000) (disch := first | omega | decide | (simp only [go_sem]; omega)) only [go_sem, ↓reduceIte]
   repeat (with_reducible refine And.intro (by first | assumption | omega | (simp; done) | (simp; omega)) ?_)
   refine toEnd hC ?_
   refine endX_seq ?_
   refine runX_condT rfl rfl ?_
   refine runX_seq ?_
   refine runX_regionC fun C hC => ?_
   try simp -implicitDefEqProofs (maxSteps := 4000000) (disch := first | omega | decide | (simp only [go_sem]; omega)) only [go_sem, ↓reduceIte]
   repeat (with_reducible refine And.intro (by first | assumption | omega | (simp; done) | (simp; omega)) ?_)
   refine toEnd hC ?_
   refine endX_seq ?_
   refine runX_ret ?_
   refine endX_seqR ?_
   refine endX_q ?_
   obtain rfl := Option.some.inj h
   show RetW _ _ _ _ _
   simp only [RetW]
   (try simp -implicitDefEqProofs (maxSteps := 4000000) (disch := first | omega | decide | (simp only [go_sem]; omega)) only [go_sem, ↓reduceIte])
   (try simp (disch := omega) only [if_pos, Nat.sub_zero])
   exact leT_refl _
  ·refine guardK_T c1 ?_
   obtain ⟨v2, h2, h⟩ := bnd_some h
   try simp -implicitDefEqProofs (maxSteps := 4000000) (disch := first | omega | decide | (simp only [go_sem]; omega)) only [go_sem, ↓reduceIte]
   repeat (with_reducible refine And.intro (by first | assumption | omega | (simp; done) | (simp; omega)) ?_)
   refine callG_X (by first | rfl | (simp only [go_sem]; done) | (simp only [closedL, closedT, Bool.and_true]; exact closedL_map _ (fun _ => by first | rfl | (simp only [go_sem]; done)) _)) (F119_ok n a0 _ h2) (by repeat (first | exact leL_refl _ | refine leL_cons (by first | exact leT_refl _ | exact leT_virt | exact leT_junk _ | exact leT_sl | exact leT_sln | exact leT_nil | (refine leT_agg (by repeat (first | exact leL_refl _ | refine leL_cons (by first | exact leT_refl _ | exact leT_sl | exact leT_sln | exact leT_nil) ?_)))) ?_)) ?_
   try simp -implicitDefEqProofs (maxSteps := 4000000) (disch := first | omega | decide | (simp only [go_sem]; omega)) only [go_sem, ↓reduceIte]
   repeat (with_reducible refine And.intro (by first | assumption | omega | (simp; done) | (simp; omega)) ?_)
   rcases iteB_some h with ⟨c3, h⟩ | ⟨c3, h⟩
   ·refine guardK_F c3 ?_
    try simp -implicitDefEqProofs (maxSteps := 4000000) (disch := first | omega | decide | (simp only [go_sem]; omega)) only [go_sem, ↓reduceIte]
    repeat (with_reducible refine And.intro (by first | assumption | omega | (simp; done) | (simp; omega)) ?_)
    refine toEnd hC ?_
    refine endX_seq ?_
    refine runX_condT rfl rfl ?_
    refine runX_seq ?_
    refine runX_regionC fun C hC => ?_
    try simp -implicitDefEqProofs (maxSteps := 4000000) (disch := first | omega | decide | (simp only [go_sem]; omega)) only [go_sem, ↓reduceIte]
    repeat (with_reducible refine And.intro (by first | assumption | omega | (simp; done) | (simp; omega)) ?_)
    refine toEnd hC ?_
    refine endX_seq ?_
    refine runX_ret ?_
    refine endX_seqR ?_
    refine endX_q ?_
    obtain rfl := Option.some.inj h
    show RetW _ _ _ _ _
    simp only [RetW]
    (try simp -implicitDefEqProofs (maxSteps := 4000000) (disch := first | omega | decide | (simp only [go_sem]; omega)) only [go_sem, ↓reduceIte])
    (try simp (disch := omega) only [if_pos, Nat.sub_zero])
    exact leT_refl _
   ·refine guardK_T c3 ?_
    try simp -implicitDefEqProofs (maxSteps := 4000000) (disch := first | omega | decide | (simp only [go_sem]; omega)) only [go_sem, ↓reduceIte]
    repeat (with_reducible refine And.intro (by first | assumption | omega | (simp; done) | (simp; omega)) ?_)
    rcases iteB_some h with ⟨c4, h⟩ | ⟨c4, h⟩
    ·refine guardK_T c4 ?_
     obtain ⟨v5, h5, h⟩ := bnd_some h
     try simp -implicitDefEqProofs (maxSteps := 4000000) (disch := first | omega | decide | (simp only [go_sem]; omega)) only [go_sem, ↓reduceIte]
     repeat (with_reducible refine And.intro (by first | assumption | omega | (simp; done) | (simp; omega)) ?_)
     refine callG_X (by first | rfl | (simp only [go_sem]; done) | (simp only [closedL, closedT, Bool.and_true]; exact closedL_map _ (fun _ => by first | rfl | (simp only [go_sem]; done)) _)) (F30_ok n a0 ([32] : List UInt8) _ h5) (by repeat (first | exact leL_refl _ | refine leL_cons (by first | exact leT_refl _ | exact leT_virt | exact leT_junk _ | exact leT_sl | exact leT_sln | exact leT_nil | (refine leT_agg (by repeat (first | exact leL_refl _ | refine leL_cons (by first | exact leT_refl _ | exact leT_sl | exact leT_sln | exact leT_nil) ?_)))) ?_)) ?_
     try simp -implicitDefEqProofs (maxSteps := 4000000) (disch := first | omega | decide | (simp only [go_sem]; omega)) only [go_sem, ↓reduceIte]
     repeat (with_reducible refine And.intro (by first | assumption | omega | (simp; done) | (simp; omega)) ?_)
     refine toEnd hC ?_
     refine endX_seq ?_
     rcases iteB_some h with ⟨c6, h⟩ | ⟨c6, h⟩
     ·refine runX_condT rfl c6 ?_
      refine runX_seq ?_
      refine runX_regionC fun C hC => ?_
      try simp -implicitDefEqProofs (maxSteps := 4000000) (disch := first | omega | decide | (simp only [go_sem]; omega)) only [go_sem, ↓reduceIte]
      repeat (with_reducible refine And.intro (by first | assumption | omega | (simp; done) | (simp; omega)) ?_)
      refine toEnd hC ?_
      refine endX_seq ?_
      refine runX_ret ?_
      refine endX_seqR ?_
      refine endX_q ?_
      obtain rfl := Option.some.inj h
      show RetW _ _ _ _ _
      simp only [RetW]
      (try simp -implicitDefEqProofs (maxSteps := 4000000) (disch := first | omega | decide | (simp only [go_sem]; omega)) only [go_sem, ↓reduceIte])
      (try simp (disch := omega) only [if_pos, Nat.sub_zero])
      exact leT_refl _
     ·refine runX_condF rfl c6 ?_
      refine runX_skip ?_
      refine endX_seq ?_
      refine runX_seq ?_
      refine runX_regionC fun C hC => ?_
      obtain ⟨v7, h7, h⟩ := bnd_some h
      try simp -implicitDefEqProofs (maxSteps := 4000000) (disch := first | omega | decide | (simp only [go_sem]; omega)) only [go_sem, ↓reduceIte]
      repeat (with_reducible refine And.intro (by first | assumption | omega | (simp; done) | (simp; omega)) ?_)
      refine callG_X (by first | rfl | (simp only [go_sem]; done) | (simp only [closedL, closedT, Bool.and_true]; exact closedL_map _ (fun _ => by first | rfl | (simp only [go_sem]; done)) _)) (F129_ok n a0 _ h7) (by repeat (first | exact leL_refl _ | refine leL_cons (by first | exact leT_refl _ | exact leT_virt | exact leT_junk _ | exact leT_sl | exact leT_sln | exact leT_nil | (refine leT_agg (by repeat (first | exact leL_refl _ | refine leL_cons (by first | exact leT_refl _ | exact leT_sl | exact leT_sln | exact leT_nil) ?_)))) ?_)) ?_
      obtain ⟨v8, h8, h⟩ := bnd_some h
      try simp -implicitDefEqProofs (maxSteps := 4000000) (disch := first | omega | decide | (simp only [go_sem]; omega)) only [go_sem, ↓reduceIte]
      repeat (with_reducible refine And.intro (by first | assumption | omega | (simp; done) | (simp; omega)) ?_)
      refine callG_X (by first | rfl | (simp only [go_sem]; done) | (simp only [closedL, closedT, Bool.and_true]; exact closedL_map _ (fun _ => by first | rfl | (simp only [go_sem]; done)) _)) (F128_ok n v7 _ h8) (by repeat (first | exact leL_refl _ | refine leL_cons (by first | exact leT_refl _ | exact leT_virt | exact leT_junk _ | exact leT_sl | exact leT_sln | exact leT_nil | (refine leT_agg (by repeat (first | exact leL_refl _ | refine leL_cons (by first | exact leT_refl _ | exact leT_sl | exact leT_sln | exact leT_nil) ?_)))) ?_)) ?_
      try simp -implicitDefEqProofs (maxSteps := 4000000) (disch := first | omega | decide | (simp only [go_sem]; omega)) only [go_sem, ↓reduceIte]
      repeat (with_reducible refine And.intro (by first | assumption | omega | (simp; done) | (simp; omega)) ?_)
      refine toEnd hC ?_
      refine endX_seq ?_
      refine runX_seq ?_
      refine runX_regionC fun C hC => ?_
      try simp -implicitDefEqProofs (maxSteps := 4000000) (disch := first | omega | decide | (simp only [go_sem]; omega)) only [go_sem, ↓reduceIte]
      repeat (with_reducible refine And.intro (by first | assumption | omega | (simp; done) | (simp; omega)) ?_)
      rcases iteB_some h with ⟨c9, h⟩ | ⟨c9, h⟩
      ·refine guardK_T c9 ?_
       try simp -implicitDefEqProofs (maxSteps := 4000000) (disch := first | omega | decide | (simp only [go_sem]; omega)) only [go_sem, ↓reduceIte]
       repeat (with_reducible refine And.intro (by first | assumption | omega | (simp; done) | (simp; omega)) ?_)
       rcases iteB_some h with ⟨c10, h⟩ | ⟨c10, h⟩
       ·refine guardK_T c10 ?_
        obtain ⟨v11, h11, h⟩ := bnd_some h
        try simp -implicitDefEqProofs (maxSteps := 4000000) (disch := first | omega | decide | (simp only [go_sem]; omega)) only [go_sem, ↓reduceIte]
        repeat (with_reducible refine And.intro (by first | assumption | omega | (simp; done) | (simp; omega)) ?_)
        refine callG_X (by first | rfl | (simp only [go_sem]; done) | (simp only [closedL, closedT, Bool.and_true]; exact closedL_map _ (fun _ => by first | rfl | (simp only [go_sem]; done)) _)) (F113_ok n a0 (34 : Int) _ h11) (by repeat (first | exact leL_refl _ | refine leL_cons (by first | exact leT_refl _ | exact leT_virt | exact leT_junk _ | exact leT_sl | exact leT_sln | exact leT_nil | (refine leT_agg (by repeat (first | exact leL_refl _ | refine leL_cons (by first | exact leT_refl _ | exact leT_sl | exact leT_sln | exact leT_nil) ?_)))) ?_)) ?_
        try simp -implicitDefEqProofs (maxSteps := 4000000) (disch := first | omega | decide | (simp only [go_sem]; omega)) only [go_sem, ↓reduceIte]
        repeat (with_reducible refine And.intro (by first | assumption | omega | (simp; done) | (simp; omega)) ?_)
        rcases iteB_some h with ⟨c12, h⟩ | ⟨c12, h⟩
        ·refine guardK_T c12 ?_
         obtain ⟨v13, h13, h⟩ := bnd_some h
         try simp -implicitDefEqProofs (maxSteps := 4000000) (disch := first | omega | decide | (simp only [go_sem]; omega)) only [go_sem, ↓reduceIte]
         repeat (with_reducible refine And.intro (by first | assumption | omega | (simp; done) | (simp; omega)) ?_)
         refine callG_F 0 5 1 (List.map byteT (a0.map ofB)) 0 rfl (by (try simp -implicitDefEqProofs (maxSteps := 4000000) (disch := first | omega | decide | (simp only [go_sem]; omega)) only [go_sem, ↓reduceIte]); first | done | rfl | (simp only [closedL, closedT, Bool.and_true]; exact closedL_map _ (fun _ => by first | rfl | (simp only [go_sem]; done)) _)) (F131000125_ok n (a0.map ofB) _ h13) (by (try simp -implicitDefEqProofs (maxSteps := 4000000) (disch := first | omega | decide | (simp only [go_sem]; omega)) only [go_sem, ↓reduceIte]); repeat (first | exact leL_refl _ | refine leL_cons (by first | exact leT_refl _ | exact leT_virt | exact leT_junk _ | exact leT_sl | exact leT_sln | exact leT_nil | (refine leT_agg (by repeat (first | exact leL_refl _ | refine leL_cons (by first | exact leT_refl _ | exact leT_sl | exact leT_sln | exact leT_nil) ?_)))) ?_)) ?_
         try simp -implicitDefEqProofs (maxSteps := 4000000) (disch := first | omega | decide | (simp only [go_sem]; omega)) only [go_sem, ↓reduceIte]
         repeat (with_reducible refine And.intro (by first | assumption | omega | (simp; done) | (simp; omega)) ?_)
         refine toEnd hC ?_
         refine endX_seq ?_
         refine runX_ret ?_
         refine endX_q ?_
         obtain rfl := Option.some.inj h
         show RetW _ _ _ _ _
         simp only [RetW]
         (try simp -implicitDefEqProofs (maxSteps := 4000000) (disch := first | omega | decide | (simp only [go_sem]; omega)) only [go_sem, ↓reduceIte])
         (try simp (disch := omega) only [if_pos, Nat.sub_zero])
         exact leT_refl _
        ·refine guardK_F c12 ?_
         try simp -implicitDefEqProofs (maxSteps := 4000000) (disch := first | omega | decide | (simp only [go_sem]; omega)) only [go_sem, ↓reduceIte]
         repeat (with_reducible refine And.intro (by first | assumption | omega | (simp; done) | (simp; omega)) ?_)
         refine toEnd hC ?_
         refine endX_seq ?_
         refine runX_ret ?_
         refine endX_q ?_
         obtain rfl := Option.some.inj h
         show RetW _ _ _ _ _
         simp only [RetW]
         (try simp -implicitDefEqProofs (maxSteps := 4000000) (disch := first | omega | decide | (simp only [go_sem]; omega)) only [go_sem, ↓reduceIte])
         (try simp (disch := omega) only [if_pos, Nat.sub_zero])
         exact leT_refl _
       ·refine guardK_F c10 ?_
        try simp -implicitDefEqProofs (maxSteps := 4000000) (disch := first | omega | decide | (simp only [go_sem]; omega)) only [go_sem, ↓reduceIte]
        repeat (with_reducible refine And.intro (by first | assumption | omega | (simp; done) | (simp; omega)) ?_)
        refine toEnd hC ?_
        refine endX_seq ?_
        refine runX_ret ?_
        refine endX_q ?_
        obtain rfl := Option.some.inj h
        show RetW _ _ _ _ _
        simp only [RetW]
        (try simp -implicitDefEqProofs (maxSteps := 4000000) (disch := first | omega | decide | (simp only [go_sem]; omega)) only [go_sem, ↓reduceIte])
        (try simp (disch := omega) only [if_pos, Nat.sub_zero])
        exact leT_refl _
      ·refine guardK_F c9 ?_
       try simp -implicitDefEqProofs (maxSteps := 4000000) (disch := first | omega | decide | (simp only [go_sem]; omega)) only [go_sem, ↓reduceIte]
       repeat (with_reducible refine And.intro (by first | assumption | omega | (simp; done) | (simp; omega)) ?_)
       refine toEnd hC ?_
       refine endX_seq ?_
       refine runX_ret ?_
       refine endX_q ?_
       obtain rfl := Option.some.inj h
       show RetW _ _ _ _ _
       simp only [RetW]
       (try simp -implicitDefEqProofs (maxSteps := 4000000) (disch := first | omega | decide | (simp only [go_sem]; omega)) only [go_sem, ↓reduceIte])
       (try simp (disch := omega) only [if_pos, Nat.sub_zero])
       exact leT_refl _
    ·refine guardK_F c4 ?_
     try simp -implicitDefEqProofs (maxSteps := 4000000) (disch := first | omega | decide | (simp only [go_sem]; omega)) only [go_sem, ↓reduceIte]
     repeat (with_reducible refine And.intro (by first | assumption | omega | (simp; done) | (simp; omega)) ?_)
     refine toEnd hC ?_
     refine endX_seq ?_
     refine runX_condF rfl rfl ?_
     refine runX_skip ?_
     refine endX_seq ?_
     refine runX_seq ?_
     refine runX_regionC fun C hC => ?_
     obtain ⟨v14, h14, h⟩ := bnd_some h
     try simp -implicitDefEqProofs (maxSteps := 4000000) (disch := first | omega | decide | (simp only [go_sem]; omega)) only [go_sem, ↓reduceIte]
     repeat (with_reducible refine And.intro (by first | assumption | omega | (simp; done) | (simp; omega)) ?_)
     refine callG_X (by first | rfl | (simp only [go_sem]; done) | (simp only [closedL, closedT, Bool.and_true]; exact closedL_map _ (fun _ => by first | rfl | (simp only [go_sem]; done)) _)) (F129_ok n a0 _ h14) (by repeat (first | exact leL_refl _ | refine leL_cons (by first | exact leT_refl _ | exact leT_virt | exact leT_junk _ | exact leT_sl | exact leT_sln | exact leT_nil | (refine leT_agg (by repeat (first | exact leL_refl _ | refine leL_cons (by first | exact leT_refl _ | exact leT_sl | exact leT_sln | exact leT_nil) ?_)))) ?_)) ?_
     obtain ⟨v15, h15, h⟩ := bnd_some h
     try simp -implicitDefEqProofs (maxSteps := 4000000) (disch := first | omega | decide | (simp only [go_sem]; omega)) only [go_sem, ↓reduceIte]
     repeat (with_reducible refine And.intro (by first | assumption | omega | (simp; done) | (simp; omega)) ?_)
     refine callG_X (by first | rfl | (simp only [go_sem]; done) | (simp only [closedL, closedT, Bool.and_true]; exact closedL_map _ (fun _ => by first | rfl | (simp only [go_sem]; done)) _)) (F128_ok n v14 _ h15) (by repeat (first | exact leL_refl _ | refine leL_cons (by first | exact leT_refl _ | exact leT_virt | exact leT_junk _ | exact leT_sl | exact leT_sln | exact leT_nil | (refine leT_agg (by repeat (first | exact leL_refl _ | refine leL_cons (by first | exact leT_refl _ | exact leT_sl | exact leT_sln | exact leT_nil) ?_)))) ?_)) ?_
     try simp -implicitDefEqProofs (maxSteps := 4000000) (disch := first | omega | decide | (simp only [go_sem]; omega)) only [go_sem, ↓reduceIte]
     repeat (with_reducible refine And.intro (by first | assumption | omega | (simp; done) | (simp; omega)) ?_)
     refine toEnd hC ?_
     refine endX_seq ?_
     refine runX_seq ?_
     refine runX_regionC fun C hC => ?_
     try simp -implicitDefEqProofs (maxSteps := 4000000) (disch := first | omega | decide | (simp only [go_sem]; omega)) only [go_sem, ↓reduceIte]
     repeat (with_reducible refine And.intro (by first | assumption | omega | (simp; done) | (simp; omega)) ?_)
     rcases iteB_some h with ⟨c16, h⟩ | ⟨c16, h⟩
     ·refine guardK_T c16 ?_
      try simp -implicitDefEqProofs (maxSteps := 4000000) (disch := first | omega | decide | (simp only [go_sem]; omega)) only [go_sem, ↓reduceIte]
      repeat (with_reducible refine And.intro (by first | assumption | omega | (simp; done) | (simp; omega)) ?_)
      rcases iteB_some h with ⟨c17, h⟩ | ⟨c17, h⟩
      ·refine guardK_T c17 ?_
       obtain ⟨v18, h18, h⟩ := bnd_some h
       try simp -implicitDefEqProofs (maxSteps := 4000000) (disch := first | omega | decide | (simp only [go_sem]; omega)) only [go_sem, ↓reduceIte]
       repeat (with_reducible refine And.intro (by first | assumption | omega | (simp; done) | (simp; omega)) ?_)
       refine callG_X (by first | rfl | (simp only [go_sem]; done) | (simp only [closedL, closedT, Bool.and_true]; exact closedL_map _ (fun _ => by first | rfl | (simp only [go_sem]; done)) _)) (F113_ok n a0 (34 : Int) _ h18) (by repeat (first | exact leL_refl _ | refine leL_cons (by first | exact leT_refl _ | exact leT_virt | exact leT_junk _ | exact leT_sl | exact leT_sln | exact leT_nil | (refine leT_agg (by repeat (first | exact leL_refl _ | refine leL_cons (by first | exact leT_refl _ | exact leT_sl | exact leT_sln | exact leT_nil) ?_)))) ?_)) ?_
       try simp -implicitDefEqProofs (maxSteps := 4000000) (disch := first | omega | decide | (simp only [go_sem]; omega)) only [go_sem, ↓reduceIte]
       repeat (with_reducible refine And.intro (by first | assumption | omega | (simp; done) | (simp; omega)) ?_)
       rcases iteB_some h with ⟨c19, h⟩ | ⟨c19, h⟩
       ·refine guardK_T c19 ?_
        obtain ⟨v20, h20, h⟩ := bnd_some h
        try simp -implicitDefEqProofs (maxSteps := 4000000) (disch := first | omega | decide | (simp only [go_sem]; omega)) only [go_sem, ↓reduceIte]
        repeat (with_reducible refine And.intro (by first | assumption | omega | (simp; done) | (simp; omega)) ?_)
        refine callG_F 0 5 1 (List.map byteT (a0.map ofB)) 0 rfl (by (try simp -implicitDefEqProofs (maxSteps := 4000000) (disch := first | omega | decide | (simp only [go_sem]; omega)) only [go_sem, ↓reduceIte]); first | done | rfl | (simp only [closedL, closedT, Bool.and_true]; exact closedL_map _ (fun _ => by first | rfl | (simp only [go_sem]; done)) _)) (F131000125_ok n (a0.map ofB) _ h20) (by (try simp -implicitDefEqProofs (maxSteps := 4000000) (disch := first | omega | decide | (simp only [go_sem]; omega)) only [go_sem, ↓reduceIte]); repeat (first | exact leL_refl _ | refine leL_cons (by first | exact leT_refl _ | exact leT_virt | exact leT_junk _ | exact leT_sl | exact leT_sln | exact leT_nil | (refine leT_agg (by repeat (first | exact leL_refl _ | refine leL_cons (by first | exact leT_refl _ | exact leT_sl | exact leT_sln | exact leT_nil) ?_)))) ?_)) ?_
        try simp -implicitDefEqProofs (maxSteps := 4000000) (disch := first | omega | decide | (simp only [go_sem]; omega)) only [go_sem, ↓reduceIte]
        repeat (with_reducible refine And.intro (by first | assumption | omega | (simp; done) | (simp; omega)) ?_)
        refine toEnd hC ?_
        refine endX_seq ?_
        refine runX_ret ?_
        refine endX_q ?_
        obtain rfl := Option.some.inj h
        show RetW _ _ _ _ _
        simp only [RetW]
        (try simp -implicitDefEqProofs (maxSteps := 4000000) (disch := first | omega | decide | (simp only [go_sem]; omega)) only [go_sem, ↓reduceIte])
        (try simp (disch := omega) only [if_pos, Nat.sub_zero])
        exact leT_refl _
       ·refine guardK_F c19 ?_
        try simp -implicitDefEqProofs (maxSteps := 4000000) (disch := first | omega | decide | (simp only [go_sem]; omega)) only [go_sem, ↓reduceIte]
        repeat (with_reducible refine And.intro (by first | assumption | omega | (simp; done) | (simp; omega)) ?_)
        refine toEnd hC ?_
        refine endX_seq ?_
        refine runX_ret ?_
        refine endX_q ?_
        obtain rfl := Option.some.inj h
        show RetW _ _ _ _ _
        simp only [RetW]
        (try simp -implicitDefEqProofs (maxSteps := 4000000) (disch := first | omega | decide | (simp only [go_sem]; omega)) only [go_sem, ↓reduceIte])
        (try simp (disch := omega) only [if_pos, Nat.sub_zero])
        exact leT_refl _
      ·refine guardK_F c17 ?_
       try simp -implicitDefEqProofs (maxSteps := 4000000) (disch := first | omega | decide | (simp only [go_sem]; omega)) only [go_sem, ↓reduceIte]
       repeat (with_reducible refine And.intro (by first | assumption | omega | (simp; done) | (simp; omega)) ?_)
       refine toEnd hC ?_
       refine endX_seq ?_
       refine runX_ret ?_
       refine endX_q ?_
       obtain rfl := Option.some.inj h
       show RetW _ _ _ _ _
       simp only [RetW]
       (try simp -implicitDefEqProofs (maxSteps := 4000000) (disch := first | omega | decide | (simp only [go_sem]; omega)) only [go_sem, ↓reduceIte])
       (try simp (disch := omega) only [if_pos, Nat.sub_zero])
       exact leT_refl _
     ·refine guardK_F c16 ?_
      try simp -implicitDefEqProofs (maxSteps := 4000000) (disch := first | omega | decide | (simp only [go_sem]; omega)) only [go_sem, ↓reduceIte]
      repeat (with_reducible refine And.intro (by first | assumption | omega | (simp; done) | (simp; omega)) ?_)
      refine toEnd hC ?_
      refine endX_seq ?_
      refine runX_ret ?_
      refine endX_q ?_
      obtain rfl := Option.some.inj h
      show RetW _ _ _ _ _
      simp only [RetW]
      (try simp -implicitDefEqProofs (maxSteps := 4000000) (disch := first | omega | decide | (simp only [go_sem]; omega)) only [go_sem, ↓reduceIte])
      (try simp (disch := omega) only [if_pos, Nat.sub_zero])
      exact leT_refl _
end Go.Proofs.YtjkfobmfddfjhaaDoorX

set_option linter.unusedVariables false
set_option linter.unusedSimpArgs false
namespace Go.Proofs.YtjkfobmfddfjhaaDoorX
open Go Go.RowKit Go.Proofs
set_option maxRecDepth 100000
attribute [local go_sem ↓] stepsK_build stepsK_bs appendS
attribute [local go_sem] String.reduceEq String.reduceNe reduceCtorEq Int.reduceEq Nat.reduceAdd Nat.reduceSub Nat.reduceMul Nat.reduceLT Nat.reduceLeDiff Nat.reduceEqDiff Nat.reduceBEq Int.reduceToNat Int.reduceLT Int.reduceLE Int.reduceGT Int.reduceGE Int.reduceAdd Int.reduceSub Int.reduceMul Int.reduceNeg Int.reduceBEq Int.reduceBNe Int.reducePow Int.reduceDiv Int.reduceMod Int.reduceTDiv Int.reduceTMod Int.reduceNatCast
/-! ### (lifecycle.Rule).right$1 -/
def F88 (n : Nat) (a0 : Int) : Option (Bool) := iteB (decide (a0 < (0 : Int))) (some true) (some (decide ((100000 : Int) < a0)))
set_option maxHeartbeats 4000000 in
theorem F88_ok : ∀ (n : Nat) (a0 : Int) (r : Bool), F88 n a0 = some r → FnC Tryd.prog 88 [.imm (.int .i64 a0)] (.imm (.bool r))
 | n, a0, r, h => by
  unfold F88 at h
  refine FnC.goX mixed Tryd.func88 (by kernel_rfl) rfl ?_
  simp only [Tryd.ntmps88, List.length_cons, List.length_nil, List.replicate, List.cons_append, List.nil_append, Nat.reduceAdd, Nat.reduceSub]
  refine runX_seq ?_
  refine runX_regionC fun C hC => ?_
  try simp -implicitDefEqProofs (maxSteps := 4000000) (disch := first | omega | decide | (simp only [go_sem]; omega)) only [go_sem, ↓reduceIte]
  repeat (with_reducible refine And.intro (by first | assumption | omega | (simp; done) | (simp; omega)) ?_)
  refine toEnd hC ?_
  refine endX_seq ?_
  refine runX_seq ?_
  refine runX_regionC fun C hC => ?_
  try simp -implicitDefEqProofs (maxSteps := 4000000) (disch := first | omega | decide | (simp only [go_sem]; omega)) only [go_sem, ↓reduceIte]
  repeat (with_reducible refine And.intro (by first | assumption | omega | (simp; done) | (simp; omega)) ?_)
  rcases iteB_some h with ⟨c1, h⟩ | ⟨c1, h⟩
  ·refine guardK_F c1 ?_
   try simp -implicitDefEqProofs (maxSteps := 4000000) (disch := first | omega | decide | (simp only [go_sem]; omega)) only [go_sem, ↓reduceIte]
   repeat (with_reducible refine And.intro (by first | assumption | omega | (simp; done) | (simp; omega)) ?_)
   refine toEnd hC ?_
   refine endX_seq ?_
   refine runX_ret ?_
   refine endX_q ?_
   obtain rfl := Option.some.inj h
   show RetW _ _ _ _ _
   simp only [RetW]
   (try simp -implicitDefEqProofs (maxSteps := 4000000) (disch := first | omega | decide | (simp only [go_sem]; omega)) only [go_sem, ↓reduceIte])
   (try simp (disch := omega) only [if_pos, Nat.sub_zero])
   exact leT_refl _
  ·refine guardK_T c1 ?_
   try simp -implicitDefEqProofs (maxSteps := 4000000) (disch := first | omega | decide | (simp only [go_sem]; omega)) only [go_sem, ↓reduceIte]
   repeat (with_reducible refine And.intro (by first | assumption | omega | (simp; done) | (simp; omega)) ?_)
   refine toEnd hC ?_
   refine endX_seq ?_
   refine runX_ret ?_
   refine endX_q ?_
   obtain rfl := Option.some.inj h
   show RetW _ _ _ _ _
   simp only [RetW]
   (try simp -implicitDefEqProofs (maxSteps := 4000000) (disch := first | omega | decide | (simp only [go_sem]; omega)) only [go_sem, ↓reduceIte])
   (try simp (disch := omega) only [if_pos, Nat.sub_zero])
   exact leT_refl _
end Go.Proofs.YtjkfobmfddfjhaaDoorX

set_option linter.unusedVariables false
set_option linter.unusedSimpArgs false
namespace Go.Proofs.YtjkfobmfddfjhaaDoorX
open Go Go.RowKit Go.Proofs
set_option maxRecDepth 100000
attribute [local go_sem ↓] stepsK_build stepsK_bs appendS
attribute [local go_sem] String.reduceEq String.reduceNe reduceCtorEq Int.reduceEq Nat.reduceAdd Nat.reduceSub Nat.reduceMul Nat.reduceLT Nat.reduceLeDiff Nat.reduceEqDiff Nat.reduceBEq Int.reduceToNat Int.reduceLT Int.reduceLE Int.reduceGT Int.reduceGE Int.reduceAdd Int.reduceSub Int.reduceMul Int.reduceNeg Int.reduceBEq Int.reduceBNe Int.reducePow Int.reduceDiv Int.reduceMod Int.reduceTDiv Int.reduceTMod Int.reduceNatCast
/-! ### lifecycle.either[int]@lifecycle.Rule).right$1 -/
def F89000091_S1 (a0 : List (Int)) (x1 : Int) : St := ⟨[.junk, .fn 88 [], .junk, .junk, .junk, .junk, .junk, .sl 1 false (List.map (eI .i64) a0), .imm (.int .i64 (a0.length : Int)), .imm (.int .i64 x1), .junk, .junk, .junk, .junk, .junk, .junk, .junk], []⟩
def F89000091_L1 : Nat → (List (Int)) → (Int) → Option (Bool)
 | 0, _, _ => none
 | m1 + 1, a0, x1 => iteB (decide (x1 < (a0.length : Int))) (grd (0 ≤ x1 ∧ x1 < (a0.length : Int)) ((F88 m1 (a0.getD x1.toNat default)).bind fun v4 => iteB v4 (some true) (F89000091_L1 m1 a0 (IntKind.wrap .i64 (x1 + (1 : Int)))))) (some false)
def F89000091 (n : Nat) (a0 : List (Int)) : Option (Bool) := F89000091_L1 n a0 (0 : Int)
set_option maxHeartbeats 4000000 in
theorem F89000091_ok : ∀ (n : Nat) (a0 : List (Int)) (r : Bool), F89000091 n a0 = some r → FnC Tryd.prog 91 [.sl 1 false (List.map (eI .i64) a0), .fn 88 []] (.imm (.bool r))
 | n, a0, r, h => by
  unfold F89000091 at h
  refine FnC.goX mixed Tryd.func91 (by kernel_rfl) rfl ?_
  simp only [Tryd.ntmps91, List.length_cons, List.length_nil, List.replicate, List.cons_append, List.nil_append, Nat.reduceAdd, Nat.reduceSub]
  refine runX_seq ?_
  refine runX_regionC fun C hC => ?_
  try simp -implicitDefEqProofs (maxSteps := 4000000) (disch := first | omega | decide | (simp only [go_sem]; omega)) only [go_sem, ↓reduceIte]
  repeat (with_reducible refine And.intro (by first | assumption | omega | (simp; done) | (simp; omega)) ?_)
  refine toEnd hC ?_
  refine endX_seq ?_
  refine runX_seq ?_
  refine runX_seq ?_
  refine runX_regionC fun C hC => ?_
  try simp -implicitDefEqProofs (maxSteps := 4000000) (disch := first | omega | decide | (simp only [go_sem]; omega)) only [go_sem, ↓reduceIte]
  repeat (with_reducible refine And.intro (by first | assumption | omega | (simp; done) | (simp; omega)) ?_)
  refine toEnd hC ?_
  refine endX_seq ?_
  refine runX_block ?_
  refine runX_loop [1, 7, 8, 9] (fun m S => ∃ (x1 : Int), S = F89000091_S1 a0 x1 ∧ m ≤ n ∧ F89000091_L1 m a0 x1 = some r) n ⟨F89000091_S1 a0 (0 : Int), ?_, (0 : Int), rfl, Nat.le_refl _, h⟩ ?_
  ·simp only [F89000091_S1]
   (try simp -implicitDefEqProofs (maxSteps := 4000000) (disch := first | omega | decide | (simp only [go_sem]; omega)) only [go_sem, ↓reduceIte])
   first | exact leS_refl _ | (refine leS_le ?_ ?_ <;> first | exact leL_refl _ | exact leOs_refl _ | (simp only [List.append_assoc, List.cons_append, List.nil_append]; exact leOs_refl _) | (repeat (first | exact leL_refl _ | refine leL_cons (by first | exact leT_refl _ | exact leT_virt | exact leT_junk _ | exact leT_sl | exact leT_sln | exact leT_nil | (refine leT_agg (by repeat (first | exact leL_refl _ | refine leL_cons (by first | exact leT_refl _ | exact leT_sl | exact leT_sln | exact leT_nil) ?_)))) ?_)))
  ·clear h
   rintro m1 S ⟨x1, rfl, hm1, h⟩
   cases m1 with
   | zero => first | cases (show (none : Option _) = some _ from h) | (rw [F89000091_L1] at h; cases h)
   | succ m1 =>
    rw [F89000091_L1] at h
    simp only [F89000091_S1]
    refine runX_seq ?_
    refine runX_regionC fun C hC => ?_
    try simp -implicitDefEqProofs (maxSteps := 4000000) (disch := first | omega | decide | (simp only [go_sem]; omega)) only [go_sem, ↓reduceIte]
    repeat (with_reducible refine And.intro (by first | assumption | omega | (simp; done) | (simp; omega)) ?_)
    refine toEnd hC ?_
    refine endX_seq ?_
    refine runX_seq ?_
    rcases iteB_some h with ⟨c2, h⟩ | ⟨c2, h⟩
    ·refine runX_condT rfl c2 ?_
     refine runX_skip ?_
     refine endX_seq ?_
     refine runX_seq ?_
     refine runX_block ?_
     refine runX_seq ?_
     refine runX_regionC fun C hC => ?_
     obtain ⟨g3, h⟩ := grd_some h
     try simp -implicitDefEqProofs (maxSteps := 4000000) (disch := first | omega | decide | (simp only [go_sem]; omega)) only [go_sem, ↓reduceIte]
     repeat (with_reducible refine And.intro (by first | assumption | omega | (simp; done) | (simp; omega)) ?_)
     refine toEnd hC ?_
     refine endX_seq ?_
     refine runX_seq ?_
     refine runX_regionC fun C hC => ?_
     obtain ⟨v4, h4, h⟩ := bnd_some h
     try simp -implicitDefEqProofs (maxSteps := 4000000) (disch := first | omega | decide | (simp only [go_sem]; omega)) only [go_sem, ↓reduceIte]
     repeat (with_reducible refine And.intro (by first | assumption | omega | (simp; done) | (simp; omega)) ?_)
     refine callG_X (by first | rfl | (simp only [go_sem]; done) | (simp only [closedL, closedT, Bool.and_true]; exact closedL_map _ (fun _ => by first | rfl | (simp only [go_sem]; done)) _)) (F88_ok m1 (a0.getD x1.toNat default) _ h4) (by repeat (first | exact leL_refl _ | refine leL_cons (by first | exact leT_refl _ | exact leT_virt | exact leT_junk _ | exact leT_sl | exact leT_sln | exact leT_nil | (refine leT_agg (by repeat (first | exact leL_refl _ | refine leL_cons (by first | exact leT_refl _ | exact leT_sl | exact leT_sln | exact leT_nil) ?_)))) ?_)) ?_
     try simp -implicitDefEqProofs (maxSteps := 4000000) (disch := first | omega | decide | (simp only [go_sem]; omega)) only [go_sem, ↓reduceIte]
     repeat (with_reducible refine And.intro (by first | assumption | omega | (simp; done) | (simp; omega)) ?_)
     refine toEnd hC ?_
     refine endX_seq ?_
     rcases iteB_some h with ⟨c5, h⟩ | ⟨c5, h⟩
     ·refine runX_condT rfl c5 ?_
      refine runX_seq ?_
      refine runX_regionC fun C hC => ?_
      try simp -implicitDefEqProofs (maxSteps := 4000000) (disch := first | omega | decide | (simp only [go_sem]; omega)) only [go_sem, ↓reduceIte]
      repeat (with_reducible refine And.intro (by first | assumption | omega | (simp; done) | (simp; omega)) ?_)
      refine toEnd hC ?_
      refine endX_seq ?_
      refine runX_ret ?_
      refine endX_blkR ?_
      refine endX_seqR ?_
      refine endX_q (roundQ_ret ?_)
      refine endX_blkR ?_
      refine endX_seqR ?_
      refine endX_q ?_
      obtain rfl := Option.some.inj h
      show RetW _ _ _ _ _
      simp only [RetW]
      (try simp -implicitDefEqProofs (maxSteps := 4000000) (disch := first | omega | decide | (simp only [go_sem]; omega)) only [go_sem, ↓reduceIte])
      (try simp (disch := omega) only [if_pos, Nat.sub_zero])
      exact leT_refl _
     ·refine runX_condF rfl c5 ?_
      refine runX_skip ?_
      refine endX_blk ?_
      refine endX_seq ?_
      refine runX_regionC fun C hC => ?_
      try simp -implicitDefEqProofs (maxSteps := 4000000) (disch := first | omega | decide | (simp only [go_sem]; omega)) only [go_sem, ↓reduceIte]
      repeat (with_reducible refine And.intro (by first | assumption | omega | (simp; done) | (simp; omega)) ?_)
      refine toEnd hC ?_
      refine endX_q (roundQ_normal ⟨m1, by omega, F89000091_S1 a0 (IntKind.wrap .i64 (x1 + (1 : Int))), ?_, (IntKind.wrap .i64 (x1 + (1 : Int))), rfl, by omega, h⟩)
      simp only [F89000091_S1]
      (try simp -implicitDefEqProofs (maxSteps := 4000000) (disch := first | omega | decide | (simp only [go_sem]; omega)) only [go_sem, ↓reduceIte])
      first | exact leS_refl _ | (refine leS_le ?_ ?_ <;> first | exact leL_refl _ | exact leOs_refl _ | (simp only [List.append_assoc, List.cons_append, List.nil_append]; exact leOs_refl _) | (repeat (first | exact leL_refl _ | refine leL_cons (by first | exact leT_refl _ | exact leT_virt | exact leT_junk _ | exact leT_sl | exact leT_sln | exact leT_nil | (refine leT_agg (by repeat (first | exact leL_refl _ | refine leL_cons (by first | exact leT_refl _ | exact leT_sl | exact leT_sln | exact leT_nil) ?_)))) ?_)))
    ·refine runX_condF rfl c2 ?_
     refine runX_exit ?_
     refine endX_seqE ?_
     refine endX_q (roundQ_exit ?_)
     refine endX_blkE ?_
     refine endX_seq ?_
     refine runX_seq ?_
     refine runX_regionC fun C hC => ?_
     try simp -implicitDefEqProofs (maxSteps := 4000000) (disch := first | omega | decide | (simp only [go_sem]; omega)) only [go_sem, ↓reduceIte]
     repeat (with_reducible refine And.intro (by first | assumption | omega | (simp; done) | (simp; omega)) ?_)
     refine toEnd hC ?_
     refine endX_seq ?_
     refine runX_ret ?_
     refine endX_q ?_
     obtain rfl := Option.some.inj h
     show RetW _ _ _ _ _
     simp only [RetW]
     (try simp -implicitDefEqProofs (maxSteps := 4000000) (disch := first | omega | decide | (simp only [go_sem]; omega)) only [go_sem, ↓reduceIte])
     (try simp (disch := omega) only [if_pos, Nat.sub_zero])
     exact leT_refl _
end Go.Proofs.YtjkfobmfddfjhaaDoorX

set_option linter.unusedVariables false
set_option linter.unusedSimpArgs false
namespace Go.Proofs.YtjkfobmfddfjhaaDoorX
open Go Go.RowKit Go.Proofs
set_option maxRecDepth 100000
attribute [local go_sem ↓] stepsK_build stepsK_bs appendS
attribute [local go_sem] String.reduceEq String.reduceNe reduceCtorEq Int.reduceEq Nat.reduceAdd Nat.reduceSub Nat.reduceMul Nat.reduceLT Nat.reduceLeDiff Nat.reduceEqDiff Nat.reduceBEq Int.reduceToNat Int.reduceLT Int.reduceLE Int.reduceGT Int.reduceGE Int.reduceAdd Int.reduceSub Int.reduceMul Int.reduceNeg Int.reduceBEq Int.reduceBNe Int.reducePow Int.reduceDiv Int.reduceMod Int.reduceTDiv Int.reduceTMod Int.reduceNatCast
/-! ### (lifecycle.Rule).right$2 -/
def F92 (n : Nat) (a0 : Int) : Option (Bool) := some (decide ((0 : Int) < a0))
set_option maxHeartbeats 4000000 in
theorem F92_ok : ∀ (n : Nat) (a0 : Int) (r : Bool), F92 n a0 = some r → FnC Tryd.prog 92 [.imm (.int .i64 a0)] (.imm (.bool r))
 | n, a0, r, h => by
  unfold F92 at h
  refine FnC.goX mixed Tryd.func92 (by kernel_rfl) rfl ?_
  simp only [Tryd.ntmps92, List.length_cons, List.length_nil, List.replicate, List.cons_append, List.nil_append, Nat.reduceAdd, Nat.reduceSub]
  refine runX_seq ?_
  refine runX_regionC fun C hC => ?_
  try simp -implicitDefEqProofs (maxSteps := 4000000) (disch := first | omega | decide | (simp only [go_sem]; omega)) only [go_sem, ↓reduceIte]
  repeat (with_reducible refine And.intro (by first | assumption | omega | (simp; done) | (simp; omega)) ?_)
  refine toEnd hC ?_
  refine endX_seq ?_
  refine runX_seq ?_
  refine runX_regionC fun C hC => ?_
  try simp -implicitDefEqProofs (maxSteps := 4000000) (disch := first | omega | decide | (simp only [go_sem]; omega)) only [go_sem, ↓reduceIte]
  repeat (with_reducible refine And.intro (by first | assumption | omega | (simp; done) | (simp; omega)) ?_)
  refine toEnd hC ?_
  refine endX_seq ?_
  refine runX_ret ?_
  refine endX_q ?_
  obtain rfl := Option.some.inj h
  show RetW _ _ _ _ _
  simp only [RetW]
  (try simp -implicitDefEqProofs (maxSteps := 4000000) (disch := first | omega | decide | (simp only [go_sem]; omega)) only [go_sem, ↓reduceIte])
  (try simp (disch := omega) only [if_pos, Nat.sub_zero])
  exact leT_refl _
end Go.Proofs.YtjkfobmfddfjhaaDoorX

set_option linter.unusedVariables false
set_option linter.unusedSimpArgs false
namespace Go.Proofs.YtjkfobmfddfjhaaDoorX
open Go Go.RowKit Go.Proofs
set_option maxRecDepth 100000
attribute [local go_sem ↓] stepsK_build stepsK_bs appendS
attribute [local go_sem] String.reduceEq String.reduceNe reduceCtorEq Int.reduceEq Nat.reduceAdd Nat.reduceSub Nat.reduceMul Nat.reduceLT Nat.reduceLeDiff Nat.reduceEqDiff Nat.reduceBEq Int.reduceToNat Int.reduceLT Int.reduceLE Int.reduceGT Int.reduceGE Int.reduceAdd Int.reduceSub Int.reduceMul Int.reduceNeg Int.reduceBEq Int.reduceBNe Int.reducePow Int.reduceDiv Int.reduceMod Int.reduceTDiv Int.reduceTMod Int.reduceNatCast
/-! ### lifecycle.either[int]@lifecycle.Rule).right$2 -/
def F93000091_S1 (a0 : List (Int)) (x1 : Int) : St := ⟨[.junk, .fn 92 [], .junk, .junk, .junk, .junk, .junk, .sl 1 false (List.map (eI .i64) a0), .imm (.int .i64 (a0.length : Int)), .imm (.int .i64 x1), .junk, .junk, .junk, .junk, .junk, .junk, .junk], []⟩
def F93000091_L1 : Nat → (List (Int)) → (Int) → Option (Bool)
 | 0, _, _ => none
 | m1 + 1, a0, x1 => iteB (decide (x1 < (a0.length : Int))) (grd (0 ≤ x1 ∧ x1 < (a0.length : Int)) ((F92 m1 (a0.getD x1.toNat default)).bind fun v4 => iteB v4 (some true) (F93000091_L1 m1 a0 (IntKind.wrap .i64 (x1 + (1 : Int)))))) (some false)
def F93000091 (n : Nat) (a0 : List (Int)) : Option (Bool) := F93000091_L1 n a0 (0 : Int)
set_option maxHeartbeats 4000000 in
theorem F93000091_ok : ∀ (n : Nat) (a0 : List (Int)) (r : Bool), F93000091 n a0 = some r → FnC Tryd.prog 91 [.sl 1 false (List.map (eI .i64) a0), .fn 92 []] (.imm (.bool r))
 | n, a0, r, h => by
  unfold F93000091 at h
  refine FnC.goX mixed Tryd.func91 (by kernel_rfl) rfl ?_
  simp only [Tryd.ntmps91, List.length_cons, List.length_nil, List.replicate, List.cons_append, List.nil_append, Nat.reduceAdd, Nat.reduceSub]
  refine runX_seq ?_
  refine runX_regionC fun C hC => ?_
  try simp -implicitDefEqProofs (maxSteps := 4000000) (disch := first | omega | decide | (simp only [go_sem]; omega)) only [go_sem, ↓reduceIte]
  repeat (with_reducible refine And.intro (by first | assumption | omega | (simp; done) | (simp; omega)) ?_)
  refine toEnd hC ?_
  refine endX_seq ?_
  refine runX_seq ?_
  refine runX_seq ?_
  refine runX_regionC fun C hC => ?_
  try simp -implicitDefEqProofs (maxSteps := 4000000) (disch := first | omega | decide | (simp only [go_sem]; omega)) only [go_sem, ↓reduceIte]
  repeat (with_reducible refine And.intro (by first | assumption | omega | (simp; done) | (simp; omega)) ?_)
  refine toEnd hC ?_
  refine endX_seq ?_
  refine runX_block ?_
  refine runX_loop [1, 7, 8, 9] (fun m S => ∃ (x1 : Int), S = F93000091_S1 a0 x1 ∧ m ≤ n ∧ F93000091_L1 m a0 x1 = some r) n ⟨F93000091_S1 a0 (0 : Int), ?_, (0 : Int), rfl, Nat.le_refl _, h⟩ ?_
  ·simp only [F93000091_S1]
   (try simp -implicitDefEqProofs (maxSteps := 4000000) (disch := first | omega | decide | (simp only [go_sem]; omega)) only [go_sem, ↓reduceIte])
   first | exact leS_refl _ | (refine leS_le ?_ ?_ <;> first | exact leL_refl _ | exact leOs_refl _ | (simp only [List.append_assoc, List.cons_append, List.nil_append]; exact leOs_refl _) | (repeat (first | exact leL_refl _ | refine leL_cons (by first | exact leT_refl _ | exact leT_virt | exact leT_junk _ | exact leT_sl | exact leT_sln | exact leT_nil | (refine leT_agg (by repeat (first | exact leL_refl _ | refine leL_cons (by first | exact leT_refl _ | exact leT_sl | exact leT_sln | exact leT_nil) ?_)))) ?_)))
  ·clear h
   rintro m1 S ⟨x1, rfl, hm1, h⟩
   cases m1 with
   | zero => first | cases (show (none : Option _) = some _ from h) | (rw [F93000091_L1] at h; cases h)
   | succ m1 =>
    rw [F93000091_L1] at h
    simp only [F93000091_S1]
    refine runX_seq ?_
    refine runX_regionC fun C hC => ?_
    try simp -implicitDefEqProofs (maxSteps := 4000000) (disch := first | omega | decide | (simp only [go_sem]; omega)) only [go_sem, ↓reduceIte]
    repeat (with_reducible refine And.intro (by first | assumption | omega | (simp; done) | (simp; omega)) ?_)
    refine toEnd hC ?_
    refine endX_seq ?_
    refine runX_seq ?_
    rcases iteB_some h with ⟨c2, h⟩ | ⟨c2, h⟩
    ·refine runX_condT rfl c2 ?_
     refine runX_skip ?_
     refine endX_seq ?_
     refine runX_seq ?_
     refine runX_block ?_
     refine runX_seq ?_
     refine runX_regionC fun C hC => ?_
     obtain ⟨g3, h⟩ := grd_some h
     try simp -implicitDefEqProofs (maxSteps := 4000000) (disch := first | omega | decide | (simp only [go_sem]; omega)) only [go_sem, ↓reduceIte]
     repeat (with_reducible refine And.intro (by first | assumption | omega | (simp; done) | (simp; omega)) ?_)
     refine toEnd hC ?_
     refine endX_seq ?_
     refine runX_seq ?_
     refine runX_regionC fun C hC => ?_
     obtain ⟨v4, h4, h⟩ := bnd_some h
     try simp -implicitDefEqProofs (maxSteps := 4000000) (disch := first | omega | decide | (simp only [go_sem]; omega)) only [go_sem, ↓reduceIte]
     repeat (with_reducible refine And.intro (by first | assumption | omega | (simp; done) | (simp; omega)) ?_)
     refine callG_X (by first | rfl | (simp only [go_sem]; done) | (simp only [closedL, closedT, Bool.and_true]; exact closedL_map _ (fun _ => by first | rfl | (simp only [go_sem]; done)) _)) (F92_ok m1 (a0.getD x1.toNat default) _ h4) (by repeat (first | exact leL_refl _ | refine leL_cons (by first | exact leT_refl _ | exact leT_virt | exact leT_junk _ | exact leT_sl | exact leT_sln | exact leT_nil | (refine leT_agg (by repeat (first | exact leL_refl _ | refine leL_cons (by first | exact leT_refl _ | exact leT_sl | exact leT_sln | exact leT_nil) ?_)))) ?_)) ?_
     try simp -implicitDefEqProofs (maxSteps := 4000000) (disch := first | omega | decide | (simp only [go_sem]; omega)) only [go_sem, ↓reduceIte]
     repeat (with_reducible refine And.intro (by first | assumption | omega | (simp; done) | (simp; omega)) ?_)
     refine toEnd hC ?_
     refine endX_seq ?_
     rcases iteB_some h with ⟨c5, h⟩ | ⟨c5, h⟩
     ·refine runX_condT rfl c5 ?_
      refine runX_seq ?_
      refine runX_regionC fun C hC => ?_
      try simp -implicitDefEqProofs (maxSteps := 4000000) (disch := first | omega | decide | (simp only [go_sem]; omega)) only [go_sem, ↓reduceIte]
      repeat (with_reducible refine And.intro (by first | assumption | omega | (simp; done) | (simp; omega)) ?_)
      refine toEnd hC ?_
      refine endX_seq ?_
      refine runX_ret ?_
      refine endX_blkR ?_
      refine endX_seqR ?_
      refine endX_q (roundQ_ret ?_)
      refine endX_blkR ?_
      refine endX_seqR ?_
      refine endX_q ?_
      obtain rfl := Option.some.inj h
      show RetW _ _ _ _ _
      simp only [RetW]
      (try simp -implicitDefEqProofs (maxSteps := 4000000) (disch := first | omega | decide | (simp only [go_sem]; omega)) only [go_sem, ↓reduceIte])
      (try simp (disch := omega) only [if_pos, Nat.sub_zero])
      exact leT_refl _
     ·refine runX_condF rfl c5 ?_
      refine runX_skip ?_
      refine endX_blk ?_
      refine endX_seq ?_
      refine runX_regionC fun C hC => ?_
      try simp -implicitDefEqProofs (maxSteps := 4000000) (disch := first | omega | decide | (simp only [go_sem]; omega)) only [go_sem, ↓reduceIte]
      repeat (with_reducible refine And.intro (by first | assumption | omega | (simp; done) | (simp; omega)) ?_)
      refine toEnd hC ?_
      refine endX_q (roundQ_normal ⟨m1, by omega, F93000091_S1 a0 (IntKind.wrap .i64 (x1 + (1 : Int))), ?_, (IntKind.wrap .i64 (x1 + (1 : Int))), rfl, by omega, h⟩)
      simp only [F93000091_S1]
      (try simp -implicitDefEqProofs (maxSteps := 4000000) (disch := first | omega | decide | (simp only [go_sem]; omega)) only [go_sem, ↓reduceIte])
      first | exact leS_refl _ | (refine leS_le ?_ ?_ <;> first | exact leL_refl _ | exact leOs_refl _ | (simp only [List.append_assoc, List.cons_append, List.nil_append]; exact leOs_refl _) | (repeat (first | exact leL_refl _ | refine leL_cons (by first | exact leT_refl _ | exact leT_virt | exact leT_junk _ | exact leT_sl | exact leT_sln | exact leT_nil | (refine leT_agg (by repeat (first | exact leL_refl _ | refine leL_cons (by first | exact leT_refl _ | exact leT_sl | exact leT_sln | exact leT_nil) ?_)))) ?_)))
    ·refine runX_condF rfl c2 ?_
     refine runX_exit ?_
     refine endX_seqE ?_
     refine endX_q (roundQ_exit ?_)
     refine endX_blkE ?_
     refine endX_seq ?_
     refine runX_seq ?_
     refine runX_regionC fun C hC => ?_
     try simp -implicitDefEqProofs (maxSteps := 4000000) (disch := first | omega | decide | (simp only [go_sem]; omega)) only [go_sem, ↓reduceIte]
     repeat (with_reducible refine And.intro (by first | assumption | omega | (simp; done) | (simp; omega)) ?_)
     refine toEnd hC ?_
     refine endX_seq ?_
     refine runX_ret ?_
     refine endX_q ?_
     obtain rfl := Option.some.inj h
     show RetW _ _ _ _ _
     simp only [RetW]
     (try simp -implicitDefEqProofs (maxSteps := 4000000) (disch := first | omega | decide | (simp only [go_sem]; omega)) only [go_sem, ↓reduceIte])
     (try simp (disch := omega) only [if_pos, Nat.sub_zero])
     exact leT_refl _
end Go.Proofs.YtjkfobmfddfjhaaDoorX

set_option linter.unusedVariables false
set_option linter.unusedSimpArgs false
namespace Go.Proofs.YtjkfobmfddfjhaaDoorX
open Go Go.RowKit Go.Proofs
set_option maxRecDepth 100000
attribute [local go_sem ↓] stepsK_build stepsK_bs appendS
attribute [local go_sem] String.reduceEq String.reduceNe reduceCtorEq Int.reduceEq Nat.reduceAdd Nat.reduceSub Nat.reduceMul Nat.reduceLT Nat.reduceLeDiff Nat.reduceEqDiff Nat.reduceBEq Int.reduceToNat Int.reduceLT Int.reduceLE Int.reduceGT Int.reduceGE Int.reduceAdd Int.reduceSub Int.reduceMul Int.reduceNeg Int.reduceBEq Int.reduceBNe Int.reducePow Int.reduceDiv Int.reduceMod Int.reduceTDiv Int.reduceTMod Int.reduceNatCast
/-! ### (lifecycle.Rule).right -/
def F59 (n : Nat) (a0 : (List UInt8) × (List UInt8) × (Bool) × (Int) × (Int) × (Int)) : Option (Bool) := (F89 n a0.1).bind fun v1 => iteB v1 ((F90 n a0.2.1).bind fun v3 => iteB v3 ((F89000091 n [a0.2.2.2.1, a0.2.2.2.2.1, a0.2.2.2.2.2]).bind fun v5 => iteB (!v5) ((F93000091 n [a0.2.2.2.1, a0.2.2.2.2.1, a0.2.2.2.2.2]).bind fun v7 => some v7) (some false)) (some false)) (some false)
set_option maxHeartbeats 4000000 in
theorem F59_ok : ∀ (n : Nat) (a0 : (List UInt8) × (List UInt8) × (Bool) × (Int) × (Int) × (Int)) (r : Bool), F59 n a0 = some r → FnC Tryd.prog 59 [.agg [.imm (.string (bs a0.1)), .imm (.string (bs a0.2.1)), .imm (.bool a0.2.2.1), .imm (.int .i64 a0.2.2.2.1), .imm (.int .i64 a0.2.2.2.2.1), .imm (.int .i64 a0.2.2.2.2.2)]] (.imm (.bool r))
 | n, a0, r, h => by
  unfold F59 at h
  refine FnC.goX mixed Tryd.func59 (by kernel_rfl) rfl ?_
  simp only [Tryd.ntmps59, List.length_cons, List.length_nil, List.replicate, List.cons_append, List.nil_append, Nat.reduceAdd, Nat.reduceSub]
  refine runX_seq ?_
  refine runX_regionC fun C hC => ?_
  try simp -implicitDefEqProofs (maxSteps := 4000000) (disch := first | omega | decide | (simp only [go_sem]; omega)) only [go_sem, ↓reduceIte]
  repeat (with_reducible refine And.intro (by first | assumption | omega | (simp; done) | (simp; omega)) ?_)
  refine toEnd hC ?_
  refine endX_seq ?_
  refine runX_seq ?_
  refine runX_regionC fun C hC => ?_
  try simp -implicitDefEqProofs (maxSteps := 4000000) (disch := first | omega | decide | (simp only [go_sem]; omega)) only [go_sem, ↓reduceIte]
  repeat (with_reducible refine And.intro (by first | assumption | omega | (simp; done) | (simp; omega)) ?_)
  refine toEnd hC ?_
  refine endX_seq ?_
  refine runX_seq ?_
  refine runX_regionC fun C hC => ?_
  try simp -implicitDefEqProofs (maxSteps := 4000000) (disch := first | omega | decide | (simp only [go_sem]; omega)) only [go_sem, ↓reduceIte]
  repeat (with_reducible refine And.intro (by first | assumption | omega | (simp; done) | (simp; omega)) ?_)
  refine bs_go <| buildX_val ?_
  try simp -implicitDefEqProofs (maxSteps := 4000000) (disch := first | omega | decide | (simp only [go_sem]; omega)) only [go_sem, ↓reduceIte]
  repeat (with_reducible refine And.intro (by first | assumption | omega | (simp; done) | (simp; omega)) ?_)
  refine toEnd hC ?_
  refine endX_seq ?_
  refine runX_seq ?_
  refine runX_regionC fun C hC => ?_
  obtain ⟨v1, h1, h⟩ := bnd_some h
  try simp -implicitDefEqProofs (maxSteps := 4000000) (disch := first | omega | decide | (simp only [go_sem]; omega)) only [go_sem, ↓reduceIte]
  repeat (with_reducible refine And.intro (by first | assumption | omega | (simp; done) | (simp; omega)) ?_)
  refine callG_X (by first | rfl | (simp only [go_sem]; done) | (simp only [closedL, closedT, Bool.and_true]; exact closedL_map _ (fun _ => by first | rfl | (simp only [go_sem]; done)) _)) (F89_ok n a0.1 _ h1) (by repeat (first | exact leL_refl _ | refine leL_cons (by first | exact leT_refl _ | exact leT_virt | exact leT_junk _ | exact leT_sl | exact leT_sln | exact leT_nil | (refine leT_agg (by repeat (first | exact leL_refl _ | refine leL_cons (by first | exact leT_refl _ | exact leT_sl | exact leT_sln | exact leT_nil) ?_)))) ?_)) ?_
  try simp -implicitDefEqProofs (maxSteps := 4000000) (disch := first | omega | decide | (simp only [go_sem]; omega)) only [go_sem, ↓reduceIte]
  repeat (with_reducible refine And.intro (by first | assumption | omega | (simp; done) | (simp; omega)) ?_)
  rcases iteB_some h with ⟨c2, h⟩ | ⟨c2, h⟩
  ·refine guardK_T c2 ?_
   obtain ⟨v3, h3, h⟩ := bnd_some h
   try simp -implicitDefEqProofs (maxSteps := 4000000) (disch := first | omega | decide | (simp only [go_sem]; omega)) only [go_sem, ↓reduceIte]
   repeat (with_reducible refine And.intro (by first | assumption | omega | (simp; done) | (simp; omega)) ?_)
   refine callG_X (by first | rfl | (simp only [go_sem]; done) | (simp only [closedL, closedT, Bool.and_true]; exact closedL_map _ (fun _ => by first | rfl | (simp only [go_sem]; done)) _)) (F90_ok n a0.2.1 _ h3) (by repeat (first | exact leL_refl _ | refine leL_cons (by first | exact leT_refl _ | exact leT_virt | exact leT_junk _ | exact leT_sl | exact leT_sln | exact leT_nil | (refine leT_agg (by repeat (first | exact leL_refl _ | refine leL_cons (by first | exact leT_refl _ | exact leT_sl | exact leT_sln | exact leT_nil) ?_)))) ?_)) ?_
   try simp -implicitDefEqProofs (maxSteps := 4000000) (disch := first | omega | decide | (simp only [go_sem]; omega)) only [go_sem, ↓reduceIte]
   repeat (with_reducible refine And.intro (by first | assumption | omega | (simp; done) | (simp; omega)) ?_)
   rcases iteB_some h with ⟨c4, h⟩ | ⟨c4, h⟩
   ·refine guardK_T c4 ?_
    obtain ⟨v5, h5, h⟩ := bnd_some h
    try simp -implicitDefEqProofs (maxSteps := 4000000) (disch := first | omega | decide | (simp only [go_sem]; omega)) only [go_sem, ↓reduceIte]
    repeat (with_reducible refine And.intro (by first | assumption | omega | (simp; done) | (simp; omega)) ?_)
    refine callG_X (by first | rfl | (simp only [go_sem]; done) | (simp only [closedL, closedT, Bool.and_true]; exact closedL_map _ (fun _ => by first | rfl | (simp only [go_sem]; done)) _)) (F89000091_ok n [a0.2.2.2.1, a0.2.2.2.2.1, a0.2.2.2.2.2] _ h5) (by repeat (first | exact leL_refl _ | refine leL_cons (by first | exact leT_refl _ | exact leT_virt | exact leT_junk _ | exact leT_sl | exact leT_sln | exact leT_nil | (refine leT_agg (by repeat (first | exact leL_refl _ | refine leL_cons (by first | exact leT_refl _ | exact leT_sl | exact leT_sln | exact leT_nil) ?_)))) ?_)) ?_
    try simp -implicitDefEqProofs (maxSteps := 4000000) (disch := first | omega | decide | (simp only [go_sem]; omega)) only [go_sem, ↓reduceIte]
    repeat (with_reducible refine And.intro (by first | assumption | omega | (simp; done) | (simp; omega)) ?_)
    rcases iteB_some h with ⟨c6, h⟩ | ⟨c6, h⟩
    ·refine guardK_T c6 ?_
     obtain ⟨v7, h7, h⟩ := bnd_some h
     try simp -implicitDefEqProofs (maxSteps := 4000000) (disch := first | omega | decide | (simp only [go_sem]; omega)) only [go_sem, ↓reduceIte]
     repeat (with_reducible refine And.intro (by first | assumption | omega | (simp; done) | (simp; omega)) ?_)
     refine callG_X (by first | rfl | (simp only [go_sem]; done) | (simp only [closedL, closedT, Bool.and_true]; exact closedL_map _ (fun _ => by first | rfl | (simp only [go_sem]; done)) _)) (F93000091_ok n [a0.2.2.2.1, a0.2.2.2.2.1, a0.2.2.2.2.2] _ h7) (by repeat (first | exact leL_refl _ | refine leL_cons (by first | exact leT_refl _ | exact leT_virt | exact leT_junk _ | exact leT_sl | exact leT_sln | exact leT_nil | (refine leT_agg (by repeat (first | exact leL_refl _ | refine leL_cons (by first | exact leT_refl _ | exact leT_sl | exact leT_sln | exact leT_nil) ?_)))) ?_)) ?_
     try simp -implicitDefEqProofs (maxSteps := 4000000) (disch := first | omega | decide | (simp only [go_sem]; omega)) only [go_sem, ↓reduceIte]
     repeat (with_reducible refine And.intro (by first | assumption | omega | (simp; done) | (simp; omega)) ?_)
     refine toEnd hC ?_
     refine endX_seq ?_
     refine runX_ret ?_
     refine endX_q ?_
     obtain rfl := Option.some.inj h
     show RetW _ _ _ _ _
     simp only [RetW]
     (try simp -implicitDefEqProofs (maxSteps := 4000000) (disch := first | omega | decide | (simp only [go_sem]; omega)) only [go_sem, ↓reduceIte])
     (try simp (disch := omega) only [if_pos, Nat.sub_zero])
     exact leT_refl _
    ·refine guardK_F c6 ?_
     try simp -implicitDefEqProofs (maxSteps := 4000000) (disch := first | omega | decide | (simp only [go_sem]; omega)) only [go_sem, ↓reduceIte]
     repeat (with_reducible refine And.intro (by first | assumption | omega | (simp; done) | (simp; omega)) ?_)
     refine toEnd hC ?_
     refine endX_seq ?_
     refine runX_ret ?_
     refine endX_q ?_
     obtain rfl := Option.some.inj h
     show RetW _ _ _ _ _
     simp only [RetW]
     (try simp -implicitDefEqProofs (maxSteps := 4000000) (disch := first | omega | decide | (simp only [go_sem]; omega)) only [go_sem, ↓reduceIte])
     (try simp (disch := omega) only [if_pos, Nat.sub_zero])
     exact leT_refl _
   ·refine guardK_F c4 ?_
    try simp -implicitDefEqProofs (maxSteps := 4000000) (disch := first | omega | decide | (simp only [go_sem]; omega)) only [go_sem, ↓reduceIte]
    repeat (with_reducible refine And.intro (by first | assumption | omega | (simp; done) | (simp; omega)) ?_)
    refine toEnd hC ?_
    refine endX_seq ?_
    refine runX_ret ?_
    refine endX_q ?_
    obtain rfl := Option.some.inj h
    show RetW _ _ _ _ _
    simp only [RetW]
    (try simp -implicitDefEqProofs (maxSteps := 4000000) (disch := first | omega | decide | (simp only [go_sem]; omega)) only [go_sem, ↓reduceIte])
    (try simp (disch := omega) only [if_pos, Nat.sub_zero])
    exact leT_refl _
  ·refine guardK_F c2 ?_
   try simp -implicitDefEqProofs (maxSteps := 4000000) (disch := first | omega | decide | (simp only [go_sem]; omega)) only [go_sem, ↓reduceIte]
   repeat (with_reducible refine And.intro (by first | assumption | omega | (simp; done) | (simp; omega)) ?_)
   refine toEnd hC ?_
   refine endX_seq ?_
   refine runX_ret ?_
   refine endX_q ?_
   obtain rfl := Option.some.inj h
   show RetW _ _ _ _ _
   simp only [RetW]
   (try simp -implicitDefEqProofs (maxSteps := 4000000) (disch := first | omega | decide | (simp only [go_sem]; omega)) only [go_sem, ↓reduceIte])
   (try simp (disch := omega) only [if_pos, Nat.sub_zero])
   exact leT_refl _
end Go.Proofs.YtjkfobmfddfjhaaDoorX

set_option linter.unusedVariables false
set_option linter.unusedSimpArgs false
namespace Go.Proofs.YtjkfobmfddfjhaaDoorX
open Go Go.RowKit Go.Proofs
set_option maxRecDepth 100000
attribute [local go_sem ↓] stepsK_build stepsK_bs appendS
attribute [local go_sem] String.reduceEq String.reduceNe reduceCtorEq Int.reduceEq Nat.reduceAdd Nat.reduceSub Nat.reduceMul Nat.reduceLT Nat.reduceLeDiff Nat.reduceEqDiff Nat.reduceBEq Int.reduceToNat Int.reduceLT Int.reduceLE Int.reduceGT Int.reduceGE Int.reduceAdd Int.reduceSub Int.reduceMul Int.reduceNeg Int.reduceBEq Int.reduceBNe Int.reducePow Int.reduceDiv Int.reduceMod Int.reduceTDiv Int.reduceTMod Int.reduceNatCast
/-! ### lifecycle.Right$1 -/
def F60 (n : Nat) (a0 : (List UInt8) × (List UInt8) × (Bool) × (Int) × (Int) × (Int)) (a1 : (List UInt8) × (List UInt8) × (Bool) × (Int) × (Int) × (Int)) : Option ((Bool) × ((List UInt8) × (List UInt8) × (Bool) × (Int) × (Int) × (Int))) := some ((a0.1 == a1.1), (a1.1, a1.2.1, a1.2.2.1, a1.2.2.2.1, a1.2.2.2.2.1, a1.2.2.2.2.2))
set_option maxHeartbeats 4000000 in
theorem F60_ok : ∀ (n : Nat) (a0 : (List UInt8) × (List UInt8) × (Bool) × (Int) × (Int) × (Int)) (a1 : (List UInt8) × (List UInt8) × (Bool) × (Int) × (Int) × (Int)) (r : (Bool) × ((List UInt8) × (List UInt8) × (Bool) × (Int) × (Int) × (Int))), F60 n a0 a1 = some r → FnR Tryd.prog 60 [some (.box 4294967352 (.agg [.imm (.string (bs a1.1)), .imm (.string (bs a1.2.1)), .imm (.bool a1.2.2.1), .imm (.int .i64 a1.2.2.2.1), .imm (.int .i64 a1.2.2.2.2.1), .imm (.int .i64 a1.2.2.2.2.2)]) false)] [.agg [.imm (.string (bs a0.1)), .imm (.string (bs a0.2.1)), .imm (.bool a0.2.2.1), .imm (.int .i64 a0.2.2.2.1), .imm (.int .i64 a0.2.2.2.2.1), .imm (.int .i64 a0.2.2.2.2.2)], .ref 0 0 0 0] (.imm (.bool r.1)) [some (.box 4294967352 (.agg [.imm (.string (bs r.2.1)), .imm (.string (bs r.2.2.1)), .imm (.bool r.2.2.2.1), .imm (.int .i64 r.2.2.2.2.1), .imm (.int .i64 r.2.2.2.2.2.1), .imm (.int .i64 r.2.2.2.2.2.2)]) false)]
 | n, a0, a1, r, h => by
  unfold F60 at h
  refine FnR.goX mixed [3] Tryd.func60 (by kernel_rfl) rfl (by simp [rowsOk, refsC, refsCL, adT_refsC, tagM]) (by simp [sameO]) (by simp [refsC, refsCL]) ?_
  simp only [Tryd.ntmps60, List.length_cons, List.length_nil, List.replicate, List.cons_append, List.nil_append, Nat.reduceAdd, Nat.reduceSub]
  refine runX_seq ?_
  refine runX_regionC fun C hC => ?_
  try simp -implicitDefEqProofs (maxSteps := 4000000) (disch := first | omega | decide | (simp only [go_sem]; omega)) only [go_sem, ↓reduceIte]
  repeat (with_reducible refine And.intro (by first | assumption | omega | (simp; done) | (simp; omega)) ?_)
  refine toEnd hC ?_
  refine endX_seq ?_
  refine runX_seq ?_
  refine runX_regionC fun C hC => ?_
  try simp -implicitDefEqProofs (maxSteps := 4000000) (disch := first | omega | decide | (simp only [go_sem]; omega)) only [go_sem, ↓reduceIte]
  repeat (with_reducible refine And.intro (by first | assumption | omega | (simp; done) | (simp; omega)) ?_)
  refine toEnd hC ?_
  refine endX_seq ?_
  refine runX_ret ?_
  refine endX_q ?_
  obtain rfl := Option.some.inj h
  show RetR _ _ _ _ _ _ _ _
  simp only [RetR]
  (try simp -implicitDefEqProofs (maxSteps := 4000000) (disch := first | omega | decide | (simp only [go_sem]; omega)) only [go_sem, ↓reduceIte])
  exact ⟨leOs_refl _, leT_refl _⟩
end Go.Proofs.YtjkfobmfddfjhaaDoorX

set_option linter.unusedVariables false
set_option linter.unusedSimpArgs false
namespace Go.Proofs.YtjkfobmfddfjhaaDoorX
open Go Go.RowKit Go.Proofs
set_option maxRecDepth 100000
attribute [local go_sem ↓] stepsK_build stepsK_bs appendS
attribute [local go_sem] String.reduceEq String.reduceNe reduceCtorEq Int.reduceEq Nat.reduceAdd Nat.reduceSub Nat.reduceMul Nat.reduceLT Nat.reduceLeDiff Nat.reduceEqDiff Nat.reduceBEq Int.reduceToNat Int.reduceLT Int.reduceLE Int.reduceGT Int.reduceGE Int.reduceAdd Int.reduceSub Int.reduceMul Int.reduceNeg Int.reduceBEq Int.reduceBNe Int.reducePow Int.reduceDiv Int.reduceMod Int.reduceTDiv Int.reduceTMod Int.reduceNatCast
/-! ### lifecycle.either[lifecycle.Rule]@lifecycle.Right$1 -/
def F61000044_S1 (a0 : List ((List UInt8) × (List UInt8) × (Bool) × (Int) × (Int) × (Int))) (x1 : Int) (x2 : List UInt8) (x3 : List UInt8) (x4 : Bool) (x5 : Int) (x6 : Int) (x7 : Int) : St := ⟨[.junk, .fn 60 [.ref 0 0 0 0], .junk, .junk, .junk, .junk, .junk, .sl 6 false (List.map eT55 a0), .imm (.int .i64 (a0.length : Int)), .imm (.int .i64 x1), .junk, .junk, .junk, .junk, .junk, .junk, .junk], [some (.box 4294967352 (.agg [.imm (.string (bs x2)), .imm (.string (bs x3)), .imm (.bool x4), .imm (.int .i64 x5), .imm (.int .i64 x6), .imm (.int .i64 x7)]) false)]⟩
def F61000044_L1 : Nat → (List ((List UInt8) × (List UInt8) × (Bool) × (Int) × (Int) × (Int))) → (Int) → (List UInt8) → (List UInt8) → (Bool) → (Int) → (Int) → (Int) → Option ((Bool) × ((List UInt8) × (List UInt8) × (Bool) × (Int) × (Int) × (Int)))
 | 0, _, _, _, _, _, _, _, _ => none
 | m1 + 1, a0, x1, x2, x3, x4, x5, x6, x7 => iteB (decide (x1 < (a0.length : Int))) (grd (0 ≤ x1 ∧ x1 < (a0.length : Int)) ((F60 m1 ((a0.getD x1.toNat default).1, (a0.getD x1.toNat default).2.1, (a0.getD x1.toNat default).2.2.1, (a0.getD x1.toNat default).2.2.2.1, (a0.getD x1.toNat default).2.2.2.2.1, (a0.getD x1.toNat default).2.2.2.2.2) (x2, x3, x4, x5, x6, x7)).bind fun v10 => iteB v10.1 (some (true, (v10.2.1, v10.2.2.1, v10.2.2.2.1, v10.2.2.2.2.1, v10.2.2.2.2.2.1, v10.2.2.2.2.2.2))) (F61000044_L1 m1 a0 (IntKind.wrap .i64 (x1 + (1 : Int))) v10.2.1 v10.2.2.1 v10.2.2.2.1 v10.2.2.2.2.1 v10.2.2.2.2.2.1 v10.2.2.2.2.2.2))) (some (false, (x2, x3, x4, x5, x6, x7)))
def F61000044 (n : Nat) (a0 : List ((List UInt8) × (List UInt8) × (Bool) × (Int) × (Int) × (Int))) (a1_0 : (List UInt8) × (List UInt8) × (Bool) × (Int) × (Int) × (Int)) : Option ((Bool) × ((List UInt8) × (List UInt8) × (Bool) × (Int) × (Int) × (Int))) := F61000044_L1 n a0 (0 : Int) a1_0.1 a1_0.2.1 a1_0.2.2.1 a1_0.2.2.2.1 a1_0.2.2.2.2.1 a1_0.2.2.2.2.2
set_option maxHeartbeats 4000000 in
theorem F61000044_ok : ∀ (n : Nat) (a0 : List ((List UInt8) × (List UInt8) × (Bool) × (Int) × (Int) × (Int))) (a1_0 : (List UInt8) × (List UInt8) × (Bool) × (Int) × (Int) × (Int)) (r : (Bool) × ((List UInt8) × (List UInt8) × (Bool) × (Int) × (Int) × (Int))), F61000044 n a0 a1_0 = some r → FnR Tryd.prog 44 [some (.box 4294967352 (.agg [.imm (.string (bs a1_0.1)), .imm (.string (bs a1_0.2.1)), .imm (.bool a1_0.2.2.1), .imm (.int .i64 a1_0.2.2.2.1), .imm (.int .i64 a1_0.2.2.2.2.1), .imm (.int .i64 a1_0.2.2.2.2.2)]) false)] [.sl 6 false (List.map eT55 a0), .fn 60 [.ref 0 0 0 0]] (.imm (.bool r.1)) [some (.box 4294967352 (.agg [.imm (.string (bs r.2.1)), .imm (.string (bs r.2.2.1)), .imm (.bool r.2.2.2.1), .imm (.int .i64 r.2.2.2.2.1), .imm (.int .i64 r.2.2.2.2.2.1), .imm (.int .i64 r.2.2.2.2.2.2)]) false)]
 | n, a0, a1_0, r, h => by
  unfold F61000044 at h
  refine FnR.goX mixed [4] Tryd.func44 (by kernel_rfl) rfl (by simp [rowsOk, refsC, refsCL, adT_refsC, tagM]) (by simp [sameO]) (by simp [refsC, refsCL]) ?_
  simp only [Tryd.ntmps44, List.length_cons, List.length_nil, List.replicate, List.cons_append, List.nil_append, Nat.reduceAdd, Nat.reduceSub]
  refine runX_seq ?_
  refine runX_regionC fun C hC => ?_
  try simp -implicitDefEqProofs (maxSteps := 4000000) (disch := first | omega | decide | (simp only [go_sem]; omega)) only [go_sem, ↓reduceIte]
  repeat (with_reducible refine And.intro (by first | assumption | omega | (simp; done) | (simp; omega)) ?_)
  refine toEnd hC ?_
  refine endX_seq ?_
  refine runX_seq ?_
  refine runX_seq ?_
  refine runX_regionC fun C hC => ?_
  try simp -implicitDefEqProofs (maxSteps := 4000000) (disch := first | omega | decide | (simp only [go_sem]; omega)) only [go_sem, ↓reduceIte]
  repeat (with_reducible refine And.intro (by first | assumption | omega | (simp; done) | (simp; omega)) ?_)
  refine toEnd hC ?_
  refine endX_seq ?_
  refine runX_block ?_
  refine runX_loop [1, 7, 8, 9] (fun m S => ∃ (x1 : Int) (x2 : List UInt8) (x3 : List UInt8) (x4 : Bool) (x5 : Int) (x6 : Int) (x7 : Int), S = F61000044_S1 a0 x1 x2 x3 x4 x5 x6 x7 ∧ m ≤ n ∧ F61000044_L1 m a0 x1 x2 x3 x4 x5 x6 x7 = some r) n ⟨F61000044_S1 a0 (0 : Int) a1_0.1 a1_0.2.1 a1_0.2.2.1 a1_0.2.2.2.1 a1_0.2.2.2.2.1 a1_0.2.2.2.2.2, ?_, (0 : Int), a1_0.1, a1_0.2.1, a1_0.2.2.1, a1_0.2.2.2.1, a1_0.2.2.2.2.1, a1_0.2.2.2.2.2, rfl, Nat.le_refl _, h⟩ ?_
  ·simp only [F61000044_S1]
   (try simp -implicitDefEqProofs (maxSteps := 4000000) (disch := first | omega | decide | (simp only [go_sem]; omega)) only [go_sem, ↓reduceIte])
   first | exact leS_refl _ | (refine leS_le ?_ ?_ <;> first | exact leL_refl _ | exact leOs_refl _ | (simp only [List.append_assoc, List.cons_append, List.nil_append]; exact leOs_refl _) | (repeat (first | exact leL_refl _ | refine leL_cons (by first | exact leT_refl _ | exact leT_virt | exact leT_junk _ | exact leT_sl | exact leT_sln | exact leT_nil | (refine leT_agg (by repeat (first | exact leL_refl _ | refine leL_cons (by first | exact leT_refl _ | exact leT_sl | exact leT_sln | exact leT_nil) ?_)))) ?_)))
  ·clear h
   rintro m1 S ⟨x1, x2, x3, x4, x5, x6, x7, rfl, hm1, h⟩
   cases m1 with
   | zero => first | cases (show (none : Option _) = some _ from h) | (rw [F61000044_L1] at h; cases h)
   | succ m1 =>
    rw [F61000044_L1] at h
    simp only [F61000044_S1]
    refine runX_seq ?_
    refine runX_regionC fun C hC => ?_
    try simp -implicitDefEqProofs (maxSteps := 4000000) (disch := first | omega | decide | (simp only [go_sem]; omega)) only [go_sem, ↓reduceIte]
    repeat (with_reducible refine And.intro (by first | assumption | omega | (simp; done) | (simp; omega)) ?_)
    refine toEnd hC ?_
    refine endX_seq ?_
    refine runX_seq ?_
    rcases iteB_some h with ⟨c8, h⟩ | ⟨c8, h⟩
    ·refine runX_condT rfl c8 ?_
     refine runX_skip ?_
     refine endX_seq ?_
     refine runX_seq ?_
     refine runX_block ?_
     refine runX_seq ?_
     refine runX_regionC fun C hC => ?_
     obtain ⟨g9, h⟩ := grd_some h
     try simp -implicitDefEqProofs (maxSteps := 4000000) (disch := first | omega | decide | (simp only [go_sem]; omega)) only [go_sem, ↓reduceIte]
     repeat (with_reducible refine And.intro (by first | assumption | omega | (simp; done) | (simp; omega)) ?_)
     refine toEnd hC ?_
     refine endX_seq ?_
     refine runX_seq ?_
     refine runX_regionC fun C hC => ?_
     obtain ⟨v10, h10, h⟩ := bnd_some h
     try simp -implicitDefEqProofs (maxSteps := 4000000) (disch := first | omega | decide | (simp only [go_sem]; omega)) only [go_sem, ↓reduceIte]
     repeat (with_reducible refine And.intro (by first | assumption | omega | (simp; done) | (simp; omega)) ?_)
     refine callR_X [0] (F60_ok m1 ((a0.getD x1.toNat default).1, (a0.getD x1.toNat default).2.1, (a0.getD x1.toNat default).2.2.1, (a0.getD x1.toNat default).2.2.2.1, (a0.getD x1.toNat default).2.2.2.2.1, (a0.getD x1.toNat default).2.2.2.2.2) (x2, x3, x4, x5, x6, x7) _ h10) (by decide) (by (try simp -implicitDefEqProofs (maxSteps := 4000000) (disch := first | omega | decide | (simp only [go_sem]; omega)) only [go_sem, ↓reduceIte]); repeat (first | exact trivial | refine And.intro ?_ ?_ | exact fun _ => trivial | exact fun _ _ => trivial | exact fun _ _ h => h | rfl | decide)) (by (try simp -implicitDefEqProofs (maxSteps := 4000000) (disch := first | omega | decide | (simp only [go_sem]; omega)) only [go_sem, ↓reduceIte]); repeat (first | exact leL_refl _ | refine leL_cons (by first | exact leT_refl _ | exact leT_virt | exact leT_junk _ | exact leT_sl | exact leT_sln | exact leT_nil | (refine leT_agg (by repeat (first | exact leL_refl _ | refine leL_cons (by first | exact leT_refl _ | exact leT_sl | exact leT_sln | exact leT_nil) ?_)))) ?_)) ?_
     try simp -implicitDefEqProofs (maxSteps := 4000000) (disch := first | omega | decide | (simp only [go_sem]; omega)) only [go_sem, ↓reduceIte]
     repeat (with_reducible refine And.intro (by first | assumption | omega | (simp; done) | (simp; omega)) ?_)
     refine toEnd hC ?_
     refine endX_seq ?_
     rcases iteB_some h with ⟨c11, h⟩ | ⟨c11, h⟩
     ·refine runX_condT rfl c11 ?_
      refine runX_seq ?_
      refine runX_regionC fun C hC => ?_
      try simp -implicitDefEqProofs (maxSteps := 4000000) (disch := first | omega | decide | (simp only [go_sem]; omega)) only [go_sem, ↓reduceIte]
      repeat (with_reducible refine And.intro (by first | assumption | omega | (simp; done) | (simp; omega)) ?_)
      refine toEnd hC ?_
      refine endX_seq ?_
      refine runX_ret ?_
      refine endX_blkR ?_
      refine endX_seqR ?_
      refine endX_q (roundQ_ret ?_)
      refine endX_blkR ?_
      refine endX_seqR ?_
      refine endX_q ?_
      obtain rfl := Option.some.inj h
      show RetR _ _ _ _ _ _ _ _
      simp only [RetR]
      (try simp -implicitDefEqProofs (maxSteps := 4000000) (disch := first | omega | decide | (simp only [go_sem]; omega)) only [go_sem, ↓reduceIte])
      exact ⟨leOs_refl _, leT_refl _⟩
     ·refine runX_condF rfl c11 ?_
      refine runX_skip ?_
      refine endX_blk ?_
      refine endX_seq ?_
      refine runX_regionC fun C hC => ?_
      try simp -implicitDefEqProofs (maxSteps := 4000000) (disch := first | omega | decide | (simp only [go_sem]; omega)) only [go_sem, ↓reduceIte]
      repeat (with_reducible refine And.intro (by first | assumption | omega | (simp; done) | (simp; omega)) ?_)
      refine toEnd hC ?_
      refine endX_q (roundQ_normal ⟨m1, by omega, F61000044_S1 a0 (IntKind.wrap .i64 (x1 + (1 : Int))) v10.2.1 v10.2.2.1 v10.2.2.2.1 v10.2.2.2.2.1 v10.2.2.2.2.2.1 v10.2.2.2.2.2.2, ?_, (IntKind.wrap .i64 (x1 + (1 : Int))), v10.2.1, v10.2.2.1, v10.2.2.2.1, v10.2.2.2.2.1, v10.2.2.2.2.2.1, v10.2.2.2.2.2.2, rfl, by omega, h⟩)
      simp only [F61000044_S1]
      (try simp -implicitDefEqProofs (maxSteps := 4000000) (disch := first | omega | decide | (simp only [go_sem]; omega)) only [go_sem, ↓reduceIte])
      first | exact leS_refl _ | (refine leS_le ?_ ?_ <;> first | exact leL_refl _ | exact leOs_refl _ | (simp only [List.append_assoc, List.cons_append, List.nil_append]; exact leOs_refl _) | (repeat (first | exact leL_refl _ | refine leL_cons (by first | exact leT_refl _ | exact leT_virt | exact leT_junk _ | exact leT_sl | exact leT_sln | exact leT_nil | (refine leT_agg (by repeat (first | exact leL_refl _ | refine leL_cons (by first | exact leT_refl _ | exact leT_sl | exact leT_sln | exact leT_nil) ?_)))) ?_)))
    ·refine runX_condF rfl c8 ?_
     refine runX_exit ?_
     refine endX_seqE ?_
     refine endX_q (roundQ_exit ?_)
     refine endX_blkE ?_
     refine endX_seq ?_
     refine runX_seq ?_
     refine runX_regionC fun C hC => ?_
     try simp -implicitDefEqProofs (maxSteps := 4000000) (disch := first | omega | decide | (simp only [go_sem]; omega)) only [go_sem, ↓reduceIte]
     repeat (with_reducible refine And.intro (by first | assumption | omega | (simp; done) | (simp; omega)) ?_)
     refine toEnd hC ?_
     refine endX_seq ?_
     refine runX_ret ?_
     refine endX_q ?_
     obtain rfl := Option.some.inj h
     show RetR _ _ _ _ _ _ _ _
     simp only [RetR]
     (try simp -implicitDefEqProofs (maxSteps := 4000000) (disch := first | omega | decide | (simp only [go_sem]; omega)) only [go_sem, ↓reduceIte])
     exact ⟨leOs_refl _, leT_refl _⟩
end Go.Proofs.YtjkfobmfddfjhaaDoorX

set_option linter.unusedVariables false
set_option linter.unusedSimpArgs false
namespace Go.Proofs.YtjkfobmfddfjhaaDoorX
open Go Go.RowKit Go.Proofs
set_option maxRecDepth 100000
attribute [local go_sem ↓] stepsK_build stepsK_bs appendS
attribute [local go_sem] String.reduceEq String.reduceNe reduceCtorEq Int.reduceEq Nat.reduceAdd Nat.reduceSub Nat.reduceMul Nat.reduceLT Nat.reduceLeDiff Nat.reduceEqDiff Nat.reduceBEq Int.reduceToNat Int.reduceLT Int.reduceLE Int.reduceGT Int.reduceGE Int.reduceAdd Int.reduceSub Int.reduceMul Int.reduceNeg Int.reduceBEq Int.reduceBNe Int.reducePow Int.reduceDiv Int.reduceMod Int.reduceTDiv Int.reduceTMod Int.reduceNatCast
/-! ### lifecycle.Right -/
def F27_S1 (a0 : List ((List UInt8) × (List UInt8) × (Bool) × (Int) × (Int) × (Int))) (x1 : Int) : St := ⟨[.sl 6 false (List.map eT55 a0), .junk, .junk, .junk, .junk, .sl 6 false (List.map eT55 a0), .imm (.int .i64 (a0.length : Int)), .imm (.int .i64 x1), .junk, .junk, .junk, .junk, .junk, .junk, .junk, .junk, .junk, .junk, .junk, .junk, .junk, .junk, .junk, .junk, .junk, .junk, .junk, .junk, .junk, .junk, .junk], []⟩
def F27_L1 : Nat → (List ((List UInt8) × (List UInt8) × (Bool) × (Int) × (Int) × (Int))) → (Int) → Option (Bool)
 | 0, _, _ => none
 | m1 + 1, a0, x1 => iteB (decide (x1 < (a0.length : Int))) (grd (0 ≤ x1 ∧ x1 < (a0.length : Int)) ((F59 m1 ((a0.getD x1.toNat default).1, (a0.getD x1.toNat default).2.1, (a0.getD x1.toNat default).2.2.1, (a0.getD x1.toNat default).2.2.2.1, (a0.getD x1.toNat default).2.2.2.2.1, (a0.getD x1.toNat default).2.2.2.2.2)).bind fun v4 => iteB (!v4) (some false) (grd (0 ≤ x1 ∧ x1 ≤ (a0.length : Int)) ((F61000044 m1 (a0.take x1.toNat) ((a0.getD x1.toNat default).1, (a0.getD x1.toNat default).2.1, (a0.getD x1.toNat default).2.2.1, (a0.getD x1.toNat default).2.2.2.1, (a0.getD x1.toNat default).2.2.2.2.1, (a0.getD x1.toNat default).2.2.2.2.2)).bind fun v7 => iteB v7.1 (some false) (F27_L1 m1 a0 (IntKind.wrap .i64 (x1 + (1 : Int)))))))) (iteB (decide ((0 : Int) < (a0.length : Int))) (some (decide ((a0.length : Int) ≤ (16 : Int)))) (some false))
def F27 (n : Nat) (a0 : List ((List UInt8) × (List UInt8) × (Bool) × (Int) × (Int) × (Int))) : Option (Bool) := F27_L1 n a0 (0 : Int)
set_option maxHeartbeats 4000000 in
theorem F27_ok : ∀ (n : Nat) (a0 : List ((List UInt8) × (List UInt8) × (Bool) × (Int) × (Int) × (Int))) (r : Bool), F27 n a0 = some r → FnC Tryd.prog 27 [.sl 6 false (List.map eT55 a0)] (.imm (.bool r))
 | n, a0, r, h => by
  unfold F27 at h
  refine FnC.goX mixed Tryd.func27 (by kernel_rfl) rfl ?_
  simp only [Tryd.ntmps27, List.length_cons, List.length_nil, List.replicate, List.cons_append, List.nil_append, Nat.reduceAdd, Nat.reduceSub]
  refine runX_seq ?_
  refine runX_regionC fun C hC => ?_
  try simp -implicitDefEqProofs (maxSteps := 4000000) (disch := first | omega | decide | (simp only [go_sem]; omega)) only [go_sem, ↓reduceIte]
  repeat (with_reducible refine And.intro (by first | assumption | omega | (simp; done) | (simp; omega)) ?_)
  refine toEnd hC ?_
  refine endX_seq ?_
  refine runX_seq ?_
  refine runX_seq ?_
  refine runX_regionC fun C hC => ?_
  try simp -implicitDefEqProofs (maxSteps := 4000000) (disch := first | omega | decide | (simp only [go_sem]; omega)) only [go_sem, ↓reduceIte]
  repeat (with_reducible refine And.intro (by first | assumption | omega | (simp; done) | (simp; omega)) ?_)
  refine toEnd hC ?_
  refine endX_seq ?_
  refine runX_block ?_
  refine runX_loop [0, 5, 6, 7] (fun m S => ∃ (x1 : Int), S = F27_S1 a0 x1 ∧ m ≤ n ∧ F27_L1 m a0 x1 = some r) n ⟨F27_S1 a0 (0 : Int), ?_, (0 : Int), rfl, Nat.le_refl _, h⟩ ?_
  ·simp only [F27_S1]
   (try simp -implicitDefEqProofs (maxSteps := 4000000) (disch := first | omega | decide | (simp only [go_sem]; omega)) only [go_sem, ↓reduceIte])
   first | exact leS_refl _ | (refine leS_le ?_ ?_ <;> first | exact leL_refl _ | exact leOs_refl _ | (simp only [List.append_assoc, List.cons_append, List.nil_append]; exact leOs_refl _) | (repeat (first | exact leL_refl _ | refine leL_cons (by first | exact leT_refl _ | exact leT_virt | exact leT_junk _ | exact leT_sl | exact leT_sln | exact leT_nil | (refine leT_agg (by repeat (first | exact leL_refl _ | refine leL_cons (by first | exact leT_refl _ | exact leT_sl | exact leT_sln | exact leT_nil) ?_)))) ?_)))
  ·clear h
   rintro m1 S ⟨x1, rfl, hm1, h⟩
   cases m1 with
   | zero => first | cases (show (none : Option _) = some _ from h) | (rw [F27_L1] at h; cases h)
   | succ m1 =>
    rw [F27_L1] at h
    simp only [F27_S1]
    refine runX_seq ?_
    refine runX_regionC fun C hC => ?_
    try simp -implicitDefEqProofs (maxSteps := 4000000) (disch := first | omega | decide | (simp only [go_sem]; omega)) only [go_sem, ↓reduceIte]
    repeat (with_reducible refine And.intro (by first | assumption | omega | (simp; done) | (simp; omega)) ?_)
    refine toEnd hC ?_
    refine endX_seq ?_
    refine runX_seq ?_
    rcases iteB_some h with ⟨c2, h⟩ | ⟨c2, h⟩
    ·refine runX_condT rfl c2 ?_
     refine runX_skip ?_
     refine endX_seq ?_
     refine runX_seq ?_
     refine runX_block ?_
     refine runX_seq ?_
     refine runX_regionC fun C hC => ?_
     obtain ⟨g3, h⟩ := grd_some h
     try simp -implicitDefEqProofs (maxSteps := 4000000) (disch := first | omega | decide | (simp only [go_sem]; omega)) only [go_sem, ↓reduceIte]
     repeat (with_reducible refine And.intro (by first | assumption | omega | (simp; done) | (simp; omega)) ?_)
     refine toEnd hC ?_
     refine endX_seq ?_
     refine runX_seq ?_
     refine runX_regionC fun C hC => ?_
     obtain ⟨v4, h4, h⟩ := bnd_some h
     try simp -implicitDefEqProofs (maxSteps := 4000000) (disch := first | omega | decide | (simp only [go_sem]; omega)) only [go_sem, ↓reduceIte]
     repeat (with_reducible refine And.intro (by first | assumption | omega | (simp; done) | (simp; omega)) ?_)
     refine callG_X (by first | rfl | (simp only [go_sem]; done) | (simp only [closedL, closedT, Bool.and_true]; exact closedL_map _ (fun _ => by first | rfl | (simp only [go_sem]; done)) _)) (F59_ok m1 ((a0.getD x1.toNat default).1, (a0.getD x1.toNat default).2.1, (a0.getD x1.toNat default).2.2.1, (a0.getD x1.toNat default).2.2.2.1, (a0.getD x1.toNat default).2.2.2.2.1, (a0.getD x1.toNat default).2.2.2.2.2) _ h4) (by repeat (first | exact leL_refl _ | refine leL_cons (by first | exact leT_refl _ | exact leT_virt | exact leT_junk _ | exact leT_sl | exact leT_sln | exact leT_nil | (refine leT_agg (by repeat (first | exact leL_refl _ | refine leL_cons (by first | exact leT_refl _ | exact leT_sl | exact leT_sln | exact leT_nil) ?_)))) ?_)) ?_
     try simp -implicitDefEqProofs (maxSteps := 4000000) (disch := first | omega | decide | (simp only [go_sem]; omega)) only [go_sem, ↓reduceIte]
     repeat (with_reducible refine And.intro (by first | assumption | omega | (simp; done) | (simp; omega)) ?_)
     rcases iteB_some h with ⟨c5, h⟩ | ⟨c5, h⟩
     ·refine guardK_F c5 ?_
      try simp -implicitDefEqProofs (maxSteps := 4000000) (disch := first | omega | decide | (simp only [go_sem]; omega)) only [go_sem, ↓reduceIte]
      repeat (with_reducible refine And.intro (by first | assumption | omega | (simp; done) | (simp; omega)) ?_)
      refine toEnd hC ?_
      refine endX_seq ?_
      refine runX_condT rfl rfl ?_
      refine runX_seq ?_
      refine runX_regionC fun C hC => ?_
      try simp -implicitDefEqProofs (maxSteps := 4000000) (disch := first | omega | decide | (simp only [go_sem]; omega)) only [go_sem, ↓reduceIte]
      repeat (with_reducible refine And.intro (by first | assumption | omega | (simp; done) | (simp; omega)) ?_)
      refine toEnd hC ?_
      refine endX_seq ?_
      refine runX_ret ?_
      refine endX_blkR ?_
      refine endX_seqR ?_
      refine endX_q (roundQ_ret ?_)
      refine endX_blkR ?_
      refine endX_seqR ?_
      refine endX_q ?_
      obtain rfl := Option.some.inj h
      show RetW _ _ _ _ _
      simp only [RetW]
      (try simp -implicitDefEqProofs (maxSteps := 4000000) (disch := first | omega | decide | (simp only [go_sem]; omega)) only [go_sem, ↓reduceIte])
      (try simp (disch := omega) only [if_pos, Nat.sub_zero])
      exact leT_refl _
     ·refine guardK_T c5 ?_
      obtain ⟨g6, h⟩ := grd_some h
      obtain ⟨v7, h7, h⟩ := bnd_some h
      try simp -implicitDefEqProofs (maxSteps := 4000000) (disch := first | omega | decide | (simp only [go_sem]; omega)) only [go_sem, ↓reduceIte]
      repeat (with_reducible refine And.intro (by first | assumption | omega | (simp; done) | (simp; omega)) ?_)
      refine callR_X [0] (F61000044_ok m1 (a0.take x1.toNat) ((a0.getD x1.toNat default).1, (a0.getD x1.toNat default).2.1, (a0.getD x1.toNat default).2.2.1, (a0.getD x1.toNat default).2.2.2.1, (a0.getD x1.toNat default).2.2.2.2.1, (a0.getD x1.toNat default).2.2.2.2.2) _ h7) (by decide) (by (try simp -implicitDefEqProofs (maxSteps := 4000000) (disch := first | omega | decide | (simp only [go_sem]; omega)) only [go_sem, ↓reduceIte]); repeat (first | exact trivial | refine And.intro ?_ ?_ | exact fun _ => trivial | exact fun _ _ => trivial | exact fun _ _ h => h | rfl | decide)) (by (try simp -implicitDefEqProofs (maxSteps := 4000000) (disch := first | omega | decide | (simp only [go_sem]; omega)) only [go_sem, ↓reduceIte]); repeat (first | exact leL_refl _ | refine leL_cons (by first | exact leT_refl _ | exact leT_virt | exact leT_junk _ | exact leT_sl | exact leT_sln | exact leT_nil | (refine leT_agg (by repeat (first | exact leL_refl _ | refine leL_cons (by first | exact leT_refl _ | exact leT_sl | exact leT_sln | exact leT_nil) ?_)))) ?_)) ?_
      try simp -implicitDefEqProofs (maxSteps := 4000000) (disch := first | omega | decide | (simp only [go_sem]; omega)) only [go_sem, ↓reduceIte]
      repeat (with_reducible refine And.intro (by first | assumption | omega | (simp; done) | (simp; omega)) ?_)
      refine toEnd hC ?_
      refine endX_seq ?_
      rcases iteB_some h with ⟨c8, h⟩ | ⟨c8, h⟩
      ·refine runX_condT rfl c8 ?_
       refine runX_seq ?_
       refine runX_regionC fun C hC => ?_
       try simp -implicitDefEqProofs (maxSteps := 4000000) (disch := first | omega | decide | (simp only [go_sem]; omega)) only [go_sem, ↓reduceIte]
       repeat (with_reducible refine And.intro (by first | assumption | omega | (simp; done) | (simp; omega)) ?_)
       refine toEnd hC ?_
       refine endX_seq ?_
       refine runX_ret ?_
       refine endX_blkR ?_
       refine endX_seqR ?_
       refine endX_q (roundQ_ret ?_)
       refine endX_blkR ?_
       refine endX_seqR ?_
       refine endX_q ?_
       obtain rfl := Option.some.inj h
       show RetW _ _ _ _ _
       simp only [RetW]
       (try simp -implicitDefEqProofs (maxSteps := 4000000) (disch := first | omega | decide | (simp only [go_sem]; omega)) only [go_sem, ↓reduceIte])
       (try simp (disch := omega) only [if_pos, Nat.sub_zero])
       exact leT_refl _
      ·refine runX_condF rfl c8 ?_
       refine runX_skip ?_
       refine endX_blk ?_
       refine endX_seq ?_
       refine runX_regionC fun C hC => ?_
       try simp -implicitDefEqProofs (maxSteps := 4000000) (disch := first | omega | decide | (simp only [go_sem]; omega)) only [go_sem, ↓reduceIte]
       repeat (with_reducible refine And.intro (by first | assumption | omega | (simp; done) | (simp; omega)) ?_)
       refine toEnd hC ?_
       refine endX_q (roundQ_normal ⟨m1, by omega, F27_S1 a0 (IntKind.wrap .i64 (x1 + (1 : Int))), ?_, (IntKind.wrap .i64 (x1 + (1 : Int))), rfl, by omega, h⟩)
       simp only [F27_S1]
       (try simp -implicitDefEqProofs (maxSteps := 4000000) (disch := first | omega | decide | (simp only [go_sem]; omega)) only [go_sem, ↓reduceIte])
       first | exact leS_refl _ | (refine leS_le ?_ ?_ <;> first | exact leL_refl _ | exact leOs_refl _ | (simp only [List.append_assoc, List.cons_append, List.nil_append]; exact leOs_refl _) | (repeat (first | exact leL_refl _ | refine leL_cons (by first | exact leT_refl _ | exact leT_virt | exact leT_junk _ | exact leT_sl | exact leT_sln | exact leT_nil | (refine leT_agg (by repeat (first | exact leL_refl _ | refine leL_cons (by first | exact leT_refl _ | exact leT_sl | exact leT_sln | exact leT_nil) ?_)))) ?_)))
    ·refine runX_condF rfl c2 ?_
     refine runX_exit ?_
     refine endX_seqE ?_
     refine endX_q (roundQ_exit ?_)
     refine endX_blkE ?_
     refine endX_seq ?_
     refine runX_seq ?_
     refine runX_regionC fun C hC => ?_
     try simp -implicitDefEqProofs (maxSteps := 4000000) (disch := first | omega | decide | (simp only [go_sem]; omega)) only [go_sem, ↓reduceIte]
     repeat (with_reducible refine And.intro (by first | assumption | omega | (simp; done) | (simp; omega)) ?_)
     rcases iteB_some h with ⟨c9, h⟩ | ⟨c9, h⟩
     ·refine guardK_T c9 ?_
      try simp -implicitDefEqProofs (maxSteps := 4000000) (disch := first | omega | decide | (simp only [go_sem]; omega)) only [go_sem, ↓reduceIte]
      repeat (with_reducible refine And.intro (by first | assumption | omega | (simp; done) | (simp; omega)) ?_)
      refine toEnd hC ?_
      refine endX_seq ?_
      refine runX_ret ?_
      refine endX_q ?_
      obtain rfl := Option.some.inj h
      show RetW _ _ _ _ _
      simp only [RetW]
      (try simp -implicitDefEqProofs (maxSteps := 4000000) (disch := first | omega | decide | (simp only [go_sem]; omega)) only [go_sem, ↓reduceIte])
      (try simp (disch := omega) only [if_pos, Nat.sub_zero])
      exact leT_refl _
     ·refine guardK_F c9 ?_
      try simp -implicitDefEqProofs (maxSteps := 4000000) (disch := first | omega | decide | (simp only [go_sem]; omega)) only [go_sem, ↓reduceIte]
      repeat (with_reducible refine And.intro (by first | assumption | omega | (simp; done) | (simp; omega)) ?_)
      refine toEnd hC ?_
      refine endX_seq ?_
      refine runX_ret ?_
      refine endX_q ?_
      obtain rfl := Option.some.inj h
      show RetW _ _ _ _ _
      simp only [RetW]
      (try simp -implicitDefEqProofs (maxSteps := 4000000) (disch := first | omega | decide | (simp only [go_sem]; omega)) only [go_sem, ↓reduceIte])
      (try simp (disch := omega) only [if_pos, Nat.sub_zero])
      exact leT_refl _
end Go.Proofs.YtjkfobmfddfjhaaDoorX

set_option linter.unusedVariables false
set_option linter.unusedSimpArgs false
namespace Go.Proofs.YtjkfobmfddfjhaaDoorX
open Go Go.RowKit Go.Proofs
set_option maxRecDepth 100000
attribute [local go_sem ↓] stepsK_build stepsK_bs appendS
attribute [local go_sem] String.reduceEq String.reduceNe reduceCtorEq Int.reduceEq Nat.reduceAdd Nat.reduceSub Nat.reduceMul Nat.reduceLT Nat.reduceLeDiff Nat.reduceEqDiff Nat.reduceBEq Int.reduceToNat Int.reduceLT Int.reduceLE Int.reduceGT Int.reduceGE Int.reduceAdd Int.reduceSub Int.reduceMul Int.reduceNeg Int.reduceBEq Int.reduceBNe Int.reducePow Int.reduceDiv Int.reduceMod Int.reduceTDiv Int.reduceTMod Int.reduceNatCast
/-! ### lifecycle.inOrder -/
def F42_S1 (a0 : List ((List UInt8) × (Int) × (Bool) × (Int))) (x1 : Int) : St := ⟨[.sl 4 false (List.map eT57 a0), .junk, .junk, .imm (.int .i64 x1), .junk, .junk, .junk, .junk, .junk, .junk, .junk, .junk, .junk, .junk, .junk, .junk, .junk, .junk, .junk, .junk, .junk, .junk, .junk, .junk, .junk, .junk, .junk, .junk, .junk, .junk, .junk, .junk, .junk, .junk, .junk, .junk, .junk, .junk, .junk, .junk], []⟩
def F42_L1 : Nat → (List ((List UInt8) × (Int) × (Bool) × (Int))) → (Int) → Option (Bool)
 | 0, _, _ => none
 | m1 + 1, a0, x1 => iteB (decide (x1 < (a0.length : Int))) (grd (0 ≤ (IntKind.wrap .i64 (x1 - (1 : Int))) ∧ (IntKind.wrap .i64 (x1 - (1 : Int))) < (a0.length : Int)) (grd (0 ≤ x1 ∧ x1 < (a0.length : Int)) (iteB (!(Op.bytesLess ((a0.getD (IntKind.wrap .i64 (x1 - (1 : Int))).toNat default).1) ((a0.getD x1.toNat default).1) || ((a0.getD (IntKind.wrap .i64 (x1 - (1 : Int))).toNat default).1) == ((a0.getD x1.toNat default).1))) (some false) (iteB (((a0.getD (IntKind.wrap .i64 (x1 - (1 : Int))).toNat default).1) == ((a0.getD x1.toNat default).1)) (iteB (decide ((a0.getD (IntKind.wrap .i64 (x1 - (1 : Int))).toNat default).2.1 ≤ (a0.getD x1.toNat default).2.1)) (some false) (F42_L1 m1 a0 (IntKind.wrap .i64 (x1 + (1 : Int))))) (F42_L1 m1 a0 (IntKind.wrap .i64 (x1 + (1 : Int)))))))) (some true)
def F42 (n : Nat) (a0 : List ((List UInt8) × (Int) × (Bool) × (Int))) : Option (Bool) := F42_L1 n a0 (1 : Int)
set_option maxHeartbeats 4000000 in
theorem F42_ok : ∀ (n : Nat) (a0 : List ((List UInt8) × (Int) × (Bool) × (Int))) (r : Bool), F42 n a0 = some r → FnC Tryd.prog 42 [.sl 4 false (List.map eT57 a0)] (.imm (.bool r))
 | n, a0, r, h => by
  unfold F42 at h
  refine FnC.goX mixed Tryd.func42 (by kernel_rfl) rfl ?_
  simp only [Tryd.ntmps42, List.length_cons, List.length_nil, List.replicate, List.cons_append, List.nil_append, Nat.reduceAdd, Nat.reduceSub]
  refine runX_seq ?_
  refine runX_regionC fun C hC => ?_
  try simp -implicitDefEqProofs (maxSteps := 4000000) (disch := first | omega | decide | (simp only [go_sem]; omega)) only [go_sem, ↓reduceIte]
  repeat (with_reducible refine And.intro (by first | assumption | omega | (simp; done) | (simp; omega)) ?_)
  refine toEnd hC ?_
  refine endX_seq ?_
  refine runX_seq ?_
  refine runX_seq ?_
  refine runX_regionC fun C hC => ?_
  try simp -implicitDefEqProofs (maxSteps := 4000000) (disch := first | omega | decide | (simp only [go_sem]; omega)) only [go_sem, ↓reduceIte]
  repeat (with_reducible refine And.intro (by first | assumption | omega | (simp; done) | (simp; omega)) ?_)
  refine toEnd hC ?_
  refine endX_seq ?_
  refine runX_block ?_
  refine runX_loop [0, 3] (fun m S => ∃ (x1 : Int), S = F42_S1 a0 x1 ∧ m ≤ n ∧ F42_L1 m a0 x1 = some r) n ⟨F42_S1 a0 (1 : Int), ?_, (1 : Int), rfl, Nat.le_refl _, h⟩ ?_
  ·simp only [F42_S1]
   (try simp -implicitDefEqProofs (maxSteps := 4000000) (disch := first | omega | decide | (simp only [go_sem]; omega)) only [go_sem, ↓reduceIte])
   first | exact leS_refl _ | (refine leS_le ?_ ?_ <;> first | exact leL_refl _ | exact leOs_refl _ | (simp only [List.append_assoc, List.cons_append, List.nil_append]; exact leOs_refl _) | (repeat (first | exact leL_refl _ | refine leL_cons (by first | exact leT_refl _ | exact leT_virt | exact leT_junk _ | exact leT_sl | exact leT_sln | exact leT_nil | (refine leT_agg (by repeat (first | exact leL_refl _ | refine leL_cons (by first | exact leT_refl _ | exact leT_sl | exact leT_sln | exact leT_nil) ?_)))) ?_)))
  ·clear h
   rintro m1 S ⟨x1, rfl, hm1, h⟩
   cases m1 with
   | zero => first | cases (show (none : Option _) = some _ from h) | (rw [F42_L1] at h; cases h)
   | succ m1 =>
    rw [F42_L1] at h
    simp only [F42_S1]
    refine runX_seq ?_
    refine runX_seq ?_
    refine runX_regionC fun C hC => ?_
    try simp -implicitDefEqProofs (maxSteps := 4000000) (disch := first | omega | decide | (simp only [go_sem]; omega)) only [go_sem, ↓reduceIte]
    repeat (with_reducible refine And.intro (by first | assumption | omega | (simp; done) | (simp; omega)) ?_)
    refine toEnd hC ?_
    refine endX_seq ?_
    rcases iteB_some h with ⟨c2, h⟩ | ⟨c2, h⟩
    ·refine runX_condT rfl c2 ?_
     refine runX_skip ?_
     refine endX_seq ?_
     refine runX_seq ?_
     refine runX_block ?_
     refine runX_seq ?_
     refine runX_draw2C mixed [5, 6, 7, 8] (by kernel_rfl) fun C hC => ?_
     obtain ⟨g3, h⟩ := grd_some h
     obtain ⟨g4, h⟩ := grd_some h
     try simp -implicitDefEqProofs (maxSteps := 4000000) (disch := first | omega | decide | (simp only [go_sem]; omega)) only [go_sem, ↓reduceIte]
     repeat (with_reducible refine And.intro (by first | assumption | omega | (simp; done) | (simp; omega)) ?_)
     refine toEnd hC ?_
     refine endX_seq ?_
     refine runX_seq ?_
     refine runX_regionC fun C hC => ?_
     try simp -implicitDefEqProofs (maxSteps := 4000000) (disch := first | omega | decide | (simp only [go_sem]; omega)) only [go_sem, ↓reduceIte]
     repeat (with_reducible refine And.intro (by first | assumption | omega | (simp; done) | (simp; omega)) ?_)
     rcases iteB_some h with ⟨c5, h⟩ | ⟨c5, h⟩
     ·refine guardK_F c5 ?_
      try simp -implicitDefEqProofs (maxSteps := 4000000) (disch := first | omega | decide | (simp only [go_sem]; omega)) only [go_sem, ↓reduceIte]
      repeat (with_reducible refine And.intro (by first | assumption | omega | (simp; done) | (simp; omega)) ?_)
      refine toEnd hC ?_
      refine endX_seq ?_
      refine runX_condT rfl rfl ?_
      refine runX_seq ?_
      refine runX_regionC fun C hC => ?_
      try simp -implicitDefEqProofs (maxSteps := 4000000) (disch := first | omega | decide | (simp only [go_sem]; omega)) only [go_sem, ↓reduceIte]
      repeat (with_reducible refine And.intro (by first | assumption | omega | (simp; done) | (simp; omega)) ?_)
      refine toEnd hC ?_
      refine endX_seq ?_
      refine runX_ret ?_
      refine endX_blkR ?_
      refine endX_seqR ?_
      refine endX_q (roundQ_ret ?_)
      refine endX_blkR ?_
      refine endX_seqR ?_
      refine endX_q ?_
      obtain rfl := Option.some.inj h
      show RetW _ _ _ _ _
      simp only [RetW]
      (try simp -implicitDefEqProofs (maxSteps := 4000000) (disch := first | omega | decide | (simp only [go_sem]; omega)) only [go_sem, ↓reduceIte])
      (try simp (disch := omega) only [if_pos, Nat.sub_zero])
      exact leT_refl _
     ·refine guardK_T c5 ?_
      try simp -implicitDefEqProofs (maxSteps := 4000000) (disch := first | omega | decide | (simp only [go_sem]; omega)) only [go_sem, ↓reduceIte]
      repeat (with_reducible refine And.intro (by first | assumption | omega | (simp; done) | (simp; omega)) ?_)
      rcases iteB_some h with ⟨c6, h⟩ | ⟨c6, h⟩
      ·refine guardK_T c6 ?_
       try simp -implicitDefEqProofs (maxSteps := 4000000) (disch := first | omega | decide | (simp only [go_sem]; omega)) only [go_sem, ↓reduceIte]
       repeat (with_reducible refine And.intro (by first | assumption | omega | (simp; done) | (simp; omega)) ?_)
       refine toEnd hC ?_
       refine endX_seq ?_
       rcases iteB_some h with ⟨c7, h⟩ | ⟨c7, h⟩
       ·refine runX_condT rfl c7 ?_
        refine runX_seq ?_
        refine runX_regionC fun C hC => ?_
        try simp -implicitDefEqProofs (maxSteps := 4000000) (disch := first | omega | decide | (simp only [go_sem]; omega)) only [go_sem, ↓reduceIte]
        repeat (with_reducible refine And.intro (by first | assumption | omega | (simp; done) | (simp; omega)) ?_)
        refine toEnd hC ?_
        refine endX_seq ?_
        refine runX_ret ?_
        refine endX_blkR ?_
        refine endX_seqR ?_
        refine endX_q (roundQ_ret ?_)
        refine endX_blkR ?_
        refine endX_seqR ?_
        refine endX_q ?_
        obtain rfl := Option.some.inj h
        show RetW _ _ _ _ _
        simp only [RetW]
        (try simp -implicitDefEqProofs (maxSteps := 4000000) (disch := first | omega | decide | (simp only [go_sem]; omega)) only [go_sem, ↓reduceIte])
        (try simp (disch := omega) only [if_pos, Nat.sub_zero])
        exact leT_refl _
       ·refine runX_condF rfl c7 ?_
        refine runX_skip ?_
        refine endX_blk ?_
        refine endX_seq ?_
        refine runX_regionC fun C hC => ?_
        try simp -implicitDefEqProofs (maxSteps := 4000000) (disch := first | omega | decide | (simp only [go_sem]; omega)) only [go_sem, ↓reduceIte]
        repeat (with_reducible refine And.intro (by first | assumption | omega | (simp; done) | (simp; omega)) ?_)
        refine toEnd hC ?_
        refine endX_q (roundQ_normal ⟨m1, by omega, F42_S1 a0 (IntKind.wrap .i64 (x1 + (1 : Int))), ?_, (IntKind.wrap .i64 (x1 + (1 : Int))), rfl, by omega, h⟩)
        simp only [F42_S1]
        (try simp -implicitDefEqProofs (maxSteps := 4000000) (disch := first | omega | decide | (simp only [go_sem]; omega)) only [go_sem, ↓reduceIte])
        first | exact leS_refl _ | (refine leS_le ?_ ?_ <;> first | exact leL_refl _ | exact leOs_refl _ | (simp only [List.append_assoc, List.cons_append, List.nil_append]; exact leOs_refl _) | (repeat (first | exact leL_refl _ | refine leL_cons (by first | exact leT_refl _ | exact leT_virt | exact leT_junk _ | exact leT_sl | exact leT_sln | exact leT_nil | (refine leT_agg (by repeat (first | exact leL_refl _ | refine leL_cons (by first | exact leT_refl _ | exact leT_sl | exact leT_sln | exact leT_nil) ?_)))) ?_)))
      ·refine guardK_F c6 ?_
       try simp -implicitDefEqProofs (maxSteps := 4000000) (disch := first | omega | decide | (simp only [go_sem]; omega)) only [go_sem, ↓reduceIte]
       repeat (with_reducible refine And.intro (by first | assumption | omega | (simp; done) | (simp; omega)) ?_)
       refine toEnd hC ?_
       refine endX_seq ?_
       refine runX_condF rfl rfl ?_
       refine runX_skip ?_
       refine endX_blk ?_
       refine endX_seq ?_
       refine runX_regionC fun C hC => ?_
       try simp -implicitDefEqProofs (maxSteps := 4000000) (disch := first | omega | decide | (simp only [go_sem]; omega)) only [go_sem, ↓reduceIte]
       repeat (with_reducible refine And.intro (by first | assumption | omega | (simp; done) | (simp; omega)) ?_)
       refine toEnd hC ?_
       refine endX_q (roundQ_normal ⟨m1, by omega, F42_S1 a0 (IntKind.wrap .i64 (x1 + (1 : Int))), ?_, (IntKind.wrap .i64 (x1 + (1 : Int))), rfl, by omega, h⟩)
       simp only [F42_S1]
       (try simp -implicitDefEqProofs (maxSteps := 4000000) (disch := first | omega | decide | (simp only [go_sem]; omega)) only [go_sem, ↓reduceIte])
       first | exact leS_refl _ | (refine leS_le ?_ ?_ <;> first | exact leL_refl _ | exact leOs_refl _ | (simp only [List.append_assoc, List.cons_append, List.nil_append]; exact leOs_refl _) | (repeat (first | exact leL_refl _ | refine leL_cons (by first | exact leT_refl _ | exact leT_virt | exact leT_junk _ | exact leT_sl | exact leT_sln | exact leT_nil | (refine leT_agg (by repeat (first | exact leL_refl _ | refine leL_cons (by first | exact leT_refl _ | exact leT_sl | exact leT_sln | exact leT_nil) ?_)))) ?_)))
    ·refine runX_condF rfl c2 ?_
     refine runX_exit ?_
     refine endX_seqE ?_
     refine endX_q (roundQ_exit ?_)
     refine endX_blkE ?_
     refine endX_seq ?_
     refine runX_seq ?_
     refine runX_regionC fun C hC => ?_
     try simp -implicitDefEqProofs (maxSteps := 4000000) (disch := first | omega | decide | (simp only [go_sem]; omega)) only [go_sem, ↓reduceIte]
     repeat (with_reducible refine And.intro (by first | assumption | omega | (simp; done) | (simp; omega)) ?_)
     refine toEnd hC ?_
     refine endX_seq ?_
     refine runX_ret ?_
     refine endX_q ?_
     obtain rfl := Option.some.inj h
     show RetW _ _ _ _ _
     simp only [RetW]
     (try simp -implicitDefEqProofs (maxSteps := 4000000) (disch := first | omega | decide | (simp only [go_sem]; omega)) only [go_sem, ↓reduceIte])
     (try simp (disch := omega) only [if_pos, Nat.sub_zero])
     exact leT_refl _
end Go.Proofs.YtjkfobmfddfjhaaDoorX

set_option linter.unusedVariables false
set_option linter.unusedSimpArgs false
namespace Go.Proofs.YtjkfobmfddfjhaaDoorX
open Go Go.RowKit Go.Proofs
set_option maxRecDepth 100000
attribute [local go_sem ↓] stepsK_build stepsK_bs appendS
attribute [local go_sem] String.reduceEq String.reduceNe reduceCtorEq Int.reduceEq Nat.reduceAdd Nat.reduceSub Nat.reduceMul Nat.reduceLT Nat.reduceLeDiff Nat.reduceEqDiff Nat.reduceBEq Int.reduceToNat Int.reduceLT Int.reduceLE Int.reduceGT Int.reduceGE Int.reduceAdd Int.reduceSub Int.reduceMul Int.reduceNeg Int.reduceBEq Int.reduceBNe Int.reducePow Int.reduceDiv Int.reduceMod Int.reduceTDiv Int.reduceTMod Int.reduceNatCast
/-! ### strings.HasPrefix -/
def F80 (n : Nat) (a0 : List UInt8) (a1 : List UInt8) : Option (Bool) := (F118 n a0 a1).bind fun v1 => some v1
set_option maxHeartbeats 4000000 in
theorem F80_ok : ∀ (n : Nat) (a0 : List UInt8) (a1 : List UInt8) (r : Bool), F80 n a0 a1 = some r → FnC Tryd.prog 80 [.imm (.string (bs a0)), .imm (.string (bs a1))] (.imm (.bool r))
 | n, a0, a1, r, h => by
  unfold F80 at h
  refine FnC.goX mixed Tryd.func80 (by kernel_rfl) rfl ?_
  simp only [Tryd.ntmps80, List.length_cons, List.length_nil, List.replicate, List.cons_append, List.nil_append, Nat.reduceAdd, Nat.reduceSub]
  refine runX_seq ?_
  refine runX_regionC fun C hC => ?_
  try simp -implicitDefEqProofs (maxSteps := 4000000) (disch := first | omega | decide | (simp only [go_sem]; omega)) only [go_sem, ↓reduceIte]
  repeat (with_reducible refine And.intro (by first | assumption | omega | (simp; done) | (simp; omega)) ?_)
  refine toEnd hC ?_
  refine endX_seq ?_
  refine runX_seq ?_
  refine runX_regionC fun C hC => ?_
  obtain ⟨v1, h1, h⟩ := bnd_some h
  try simp -implicitDefEqProofs (maxSteps := 4000000) (disch := first | omega | decide | (simp only [go_sem]; omega)) only [go_sem, ↓reduceIte]
  repeat (with_reducible refine And.intro (by first | assumption | omega | (simp; done) | (simp; omega)) ?_)
  refine callG_X (by first | rfl | (simp only [go_sem]; done) | (simp only [closedL, closedT, Bool.and_true]; exact closedL_map _ (fun _ => by first | rfl | (simp only [go_sem]; done)) _)) (F118_ok n a0 a1 _ h1) (by repeat (first | exact leL_refl _ | refine leL_cons (by first | exact leT_refl _ | exact leT_virt | exact leT_junk _ | exact leT_sl | exact leT_sln | exact leT_nil | (refine leT_agg (by repeat (first | exact leL_refl _ | refine leL_cons (by first | exact leT_refl _ | exact leT_sl | exact leT_sln | exact leT_nil) ?_)))) ?_)) ?_
  try simp -implicitDefEqProofs (maxSteps := 4000000) (disch := first | omega | decide | (simp only [go_sem]; omega)) only [go_sem, ↓reduceIte]
  repeat (with_reducible refine And.intro (by first | assumption | omega | (simp; done) | (simp; omega)) ?_)
  refine toEnd hC ?_
  refine endX_seq ?_
  refine runX_ret ?_
  refine endX_q ?_
  obtain rfl := Option.some.inj h
  show RetW _ _ _ _ _
  simp only [RetW]
  (try simp -implicitDefEqProofs (maxSteps := 4000000) (disch := first | omega | decide | (simp only [go_sem]; omega)) only [go_sem, ↓reduceIte])
  (try simp (disch := omega) only [if_pos, Nat.sub_zero])
  exact leT_refl _
end Go.Proofs.YtjkfobmfddfjhaaDoorX

set_option linter.unusedVariables false
set_option linter.unusedSimpArgs false
namespace Go.Proofs.YtjkfobmfddfjhaaDoorX
open Go Go.RowKit Go.Proofs
set_option maxRecDepth 100000
attribute [local go_sem ↓] stepsK_build stepsK_bs appendS
attribute [local go_sem] String.reduceEq String.reduceNe reduceCtorEq Int.reduceEq Nat.reduceAdd Nat.reduceSub Nat.reduceMul Nat.reduceLT Nat.reduceLeDiff Nat.reduceEqDiff Nat.reduceBEq Int.reduceToNat Int.reduceLT Int.reduceLE Int.reduceGT Int.reduceGE Int.reduceAdd Int.reduceSub Int.reduceMul Int.reduceNeg Int.reduceBEq Int.reduceBNe Int.reducePow Int.reduceDiv Int.reduceMod Int.reduceTDiv Int.reduceTMod Int.reduceNatCast
/-! ### (lifecycle.Rule).means -/
def F46 (n : Nat) (a0 : (List UInt8) × (List UInt8) × (Bool) × (Int) × (Int) × (Int)) (a1 : List UInt8) : Option (Bool) := iteB a0.2.2.1 ((F80 n a1 a0.2.1).bind fun v2 => some v2) (some false)
set_option maxHeartbeats 4000000 in
theorem F46_ok : ∀ (n : Nat) (a0 : (List UInt8) × (List UInt8) × (Bool) × (Int) × (Int) × (Int)) (a1 : List UInt8) (r : Bool), F46 n a0 a1 = some r → FnC Tryd.prog 46 [.agg [.imm (.string (bs a0.1)), .imm (.string (bs a0.2.1)), .imm (.bool a0.2.2.1), .imm (.int .i64 a0.2.2.2.1), .imm (.int .i64 a0.2.2.2.2.1), .imm (.int .i64 a0.2.2.2.2.2)], .imm (.string (bs a1))] (.imm (.bool r))
 | n, a0, a1, r, h => by
  unfold F46 at h
  refine FnC.goX mixed Tryd.func46 (by kernel_rfl) rfl ?_
  simp only [Tryd.ntmps46, List.length_cons, List.length_nil, List.replicate, List.cons_append, List.nil_append, Nat.reduceAdd, Nat.reduceSub]
  refine runX_seq ?_
  refine runX_regionC fun C hC => ?_
  try simp -implicitDefEqProofs (maxSteps := 4000000) (disch := first | omega | decide | (simp only [go_sem]; omega)) only [go_sem, ↓reduceIte]
  repeat (with_reducible refine And.intro (by first | assumption | omega | (simp; done) | (simp; omega)) ?_)
  refine toEnd hC ?_
  refine endX_seq ?_
  refine runX_seq ?_
  refine runX_regionC fun C hC => ?_
  try simp -implicitDefEqProofs (maxSteps := 4000000) (disch := first | omega | decide | (simp only [go_sem]; omega)) only [go_sem, ↓reduceIte]
  repeat (with_reducible refine And.intro (by first | assumption | omega | (simp; done) | (simp; omega)) ?_)
  rcases iteB_some h with ⟨c1, h⟩ | ⟨c1, h⟩
  ·refine guardK_T c1 ?_
   obtain ⟨v2, h2, h⟩ := bnd_some h
   try simp -implicitDefEqProofs (maxSteps := 4000000) (disch := first | omega | decide | (simp only [go_sem]; omega)) only [go_sem, ↓reduceIte]
   repeat (with_reducible refine And.intro (by first | assumption | omega | (simp; done) | (simp; omega)) ?_)
   refine callG_X (by first | rfl | (simp only [go_sem]; done) | (simp only [closedL, closedT, Bool.and_true]; exact closedL_map _ (fun _ => by first | rfl | (simp only [go_sem]; done)) _)) (F80_ok n a1 a0.2.1 _ h2) (by repeat (first | exact leL_refl _ | refine leL_cons (by first | exact leT_refl _ | exact leT_virt | exact leT_junk _ | exact leT_sl | exact leT_sln | exact leT_nil | (refine leT_agg (by repeat (first | exact leL_refl _ | refine leL_cons (by first | exact leT_refl _ | exact leT_sl | exact leT_sln | exact leT_nil) ?_)))) ?_)) ?_
   try simp -implicitDefEqProofs (maxSteps := 4000000) (disch := first | omega | decide | (simp only [go_sem]; omega)) only [go_sem, ↓reduceIte]
   repeat (with_reducible refine And.intro (by first | assumption | omega | (simp; done) | (simp; omega)) ?_)
   refine toEnd hC ?_
   refine endX_seq ?_
   refine runX_ret ?_
   refine endX_q ?_
   obtain rfl := Option.some.inj h
   show RetW _ _ _ _ _
   simp only [RetW]
   (try simp -implicitDefEqProofs (maxSteps := 4000000) (disch := first | omega | decide | (simp only [go_sem]; omega)) only [go_sem, ↓reduceIte])
   (try simp (disch := omega) only [if_pos, Nat.sub_zero])
   exact leT_refl _
  ·refine guardK_F c1 ?_
   try simp -implicitDefEqProofs (maxSteps := 4000000) (disch := first | omega | decide | (simp only [go_sem]; omega)) only [go_sem, ↓reduceIte]
   repeat (with_reducible refine And.intro (by first | assumption | omega | (simp; done) | (simp; omega)) ?_)
   refine toEnd hC ?_
   refine endX_seq ?_
   refine runX_ret ?_
   refine endX_q ?_
   obtain rfl := Option.some.inj h
   show RetW _ _ _ _ _
   simp only [RetW]
   (try simp -implicitDefEqProofs (maxSteps := 4000000) (disch := first | omega | decide | (simp only [go_sem]; omega)) only [go_sem, ↓reduceIte])
   (try simp (disch := omega) only [if_pos, Nat.sub_zero])
   exact leT_refl _
end Go.Proofs.YtjkfobmfddfjhaaDoorX

set_option linter.unusedVariables false
set_option linter.unusedSimpArgs false
namespace Go.Proofs.YtjkfobmfddfjhaaDoorX
open Go Go.RowKit Go.Proofs
set_option maxRecDepth 100000
attribute [local go_sem ↓] stepsK_build stepsK_bs appendS
attribute [local go_sem] String.reduceEq String.reduceNe reduceCtorEq Int.reduceEq Nat.reduceAdd Nat.reduceSub Nat.reduceMul Nat.reduceLT Nat.reduceLeDiff Nat.reduceEqDiff Nat.reduceBEq Int.reduceToNat Int.reduceLT Int.reduceLE Int.reduceGT Int.reduceGE Int.reduceAdd Int.reduceSub Int.reduceMul Int.reduceNeg Int.reduceBEq Int.reduceBNe Int.reducePow Int.reduceDiv Int.reduceMod Int.reduceTDiv Int.reduceTMod Int.reduceNatCast
/-! ### lifecycle.clamp -/
def F81 (n : Nat) (a0 : Int) : Option (Int) := some (if (1125899906842624 : Int) < (if a0 < (0 : Int) then (0 : Int) else a0) then (1125899906842624 : Int) else (if a0 < (0 : Int) then (0 : Int) else a0))
set_option maxHeartbeats 4000000 in
theorem F81_ok : ∀ (n : Nat) (a0 : Int) (r : Int), F81 n a0 = some r → FnC Tryd.prog 81 [.imm (.int .i64 a0)] (.imm (.int .i64 r))
 | n, a0, r, h => by
  unfold F81 at h
  refine FnC.goX mixed Tryd.func81 (by kernel_rfl) rfl ?_
  simp only [Tryd.ntmps81, List.length_cons, List.length_nil, List.replicate, List.cons_append, List.nil_append, Nat.reduceAdd, Nat.reduceSub]
  refine runX_seq ?_
  refine runX_regionC fun C hC => ?_
  try simp -implicitDefEqProofs (maxSteps := 4000000) (disch := first | omega | decide | (simp only [go_sem]; omega)) only [go_sem, ↓reduceIte]
  repeat (with_reducible refine And.intro (by first | assumption | omega | (simp; done) | (simp; omega)) ?_)
  refine toEnd hC ?_
  refine endX_seq ?_
  refine runX_seq ?_
  refine runX_regionC fun C hC => ?_
  try simp -implicitDefEqProofs (maxSteps := 4000000) (disch := first | omega | decide | (simp only [go_sem]; omega)) only [go_sem, ↓reduceIte]
  repeat (with_reducible refine And.intro (by first | assumption | omega | (simp; done) | (simp; omega)) ?_)
  refine toEnd hC ?_
  refine endX_seq ?_
  refine runX_ret ?_
  refine endX_q ?_
  obtain rfl := Option.some.inj h
  show RetW _ _ _ _ _
  simp only [RetW]
  (try simp -implicitDefEqProofs (maxSteps := 4000000) (disch := first | omega | decide | (simp only [go_sem]; omega)) only [go_sem, ↓reduceIte])
  (try simp (disch := omega) only [if_pos, Nat.sub_zero])
  exact leT_refl _
end Go.Proofs.YtjkfobmfddfjhaaDoorX

set_option linter.unusedVariables false
set_option linter.unusedSimpArgs false
namespace Go.Proofs.YtjkfobmfddfjhaaDoorX
open Go Go.RowKit Go.Proofs
set_option maxRecDepth 100000
attribute [local go_sem ↓] stepsK_build stepsK_bs appendS
attribute [local go_sem] String.reduceEq String.reduceNe reduceCtorEq Int.reduceEq Nat.reduceAdd Nat.reduceSub Nat.reduceMul Nat.reduceLT Nat.reduceLeDiff Nat.reduceEqDiff Nat.reduceBEq Int.reduceToNat Int.reduceLT Int.reduceLE Int.reduceGT Int.reduceGE Int.reduceAdd Int.reduceSub Int.reduceMul Int.reduceNeg Int.reduceBEq Int.reduceBNe Int.reducePow Int.reduceDiv Int.reduceMod Int.reduceTDiv Int.reduceTMod Int.reduceNatCast
/-! ### lifecycle.due -/
def F47 (n : Nat) (a0 : Int) (a1 : Int) (a2 : Int) : Option (Bool) := iteB (decide ((0 : Int) < a0)) ((F81 n a1).bind fun v2 => (F81 n a2).bind fun v3 => some (decide (v2 ≤ (IntKind.wrap .i64 (v3 - (IntKind.wrap .i64 (a0 * (86400 : Int)))))))) (some false)
set_option maxHeartbeats 4000000 in
theorem F47_ok : ∀ (n : Nat) (a0 : Int) (a1 : Int) (a2 : Int) (r : Bool), F47 n a0 a1 a2 = some r → FnC Tryd.prog 47 [.imm (.int .i64 a0), .imm (.int .i64 a1), .imm (.int .i64 a2)] (.imm (.bool r))
 | n, a0, a1, a2, r, h => by
  unfold F47 at h
  refine FnC.goX mixed Tryd.func47 (by kernel_rfl) rfl ?_
  simp only [Tryd.ntmps47, List.length_cons, List.length_nil, List.replicate, List.cons_append, List.nil_append, Nat.reduceAdd, Nat.reduceSub]
  refine runX_seq ?_
  refine runX_regionC fun C hC => ?_
  try simp -implicitDefEqProofs (maxSteps := 4000000) (disch := first | omega | decide | (simp only [go_sem]; omega)) only [go_sem, ↓reduceIte]
  repeat (with_reducible refine And.intro (by first | assumption | omega | (simp; done) | (simp; omega)) ?_)
  refine toEnd hC ?_
  refine endX_seq ?_
  refine runX_seq ?_
  refine runX_regionC fun C hC => ?_
  try simp -implicitDefEqProofs (maxSteps := 4000000) (disch := first | omega | decide | (simp only [go_sem]; omega)) only [go_sem, ↓reduceIte]
  repeat (with_reducible refine And.intro (by first | assumption | omega | (simp; done) | (simp; omega)) ?_)
  rcases iteB_some h with ⟨c1, h⟩ | ⟨c1, h⟩
  ·refine guardK_T c1 ?_
   obtain ⟨v2, h2, h⟩ := bnd_some h
   try simp -implicitDefEqProofs (maxSteps := 4000000) (disch := first | omega | decide | (simp only [go_sem]; omega)) only [go_sem, ↓reduceIte]
   repeat (with_reducible refine And.intro (by first | assumption | omega | (simp; done) | (simp; omega)) ?_)
   refine callG_X (by first | rfl | (simp only [go_sem]; done) | (simp only [closedL, closedT, Bool.and_true]; exact closedL_map _ (fun _ => by first | rfl | (simp only [go_sem]; done)) _)) (F81_ok n a1 _ h2) (by repeat (first | exact leL_refl _ | refine leL_cons (by first | exact leT_refl _ | exact leT_virt | exact leT_junk _ | exact leT_sl | exact leT_sln | exact leT_nil | (refine leT_agg (by repeat (first | exact leL_refl _ | refine leL_cons (by first | exact leT_refl _ | exact leT_sl | exact leT_sln | exact leT_nil) ?_)))) ?_)) ?_
   obtain ⟨v3, h3, h⟩ := bnd_some h
   try simp -implicitDefEqProofs (maxSteps := 4000000) (disch := first | omega | decide | (simp only [go_sem]; omega)) only [go_sem, ↓reduceIte]
   repeat (with_reducible refine And.intro (by first | assumption | omega | (simp; done) | (simp; omega)) ?_)
   refine callG_X (by first | rfl | (simp only [go_sem]; done) | (simp only [closedL, closedT, Bool.and_true]; exact closedL_map _ (fun _ => by first | rfl | (simp only [go_sem]; done)) _)) (F81_ok n a2 _ h3) (by repeat (first | exact leL_refl _ | refine leL_cons (by first | exact leT_refl _ | exact leT_virt | exact leT_junk _ | exact leT_sl | exact leT_sln | exact leT_nil | (refine leT_agg (by repeat (first | exact leL_refl _ | refine leL_cons (by first | exact leT_refl _ | exact leT_sl | exact leT_sln | exact leT_nil) ?_)))) ?_)) ?_
   try simp -implicitDefEqProofs (maxSteps := 4000000) (disch := first | omega | decide | (simp only [go_sem]; omega)) only [go_sem, ↓reduceIte]
   repeat (with_reducible refine And.intro (by first | assumption | omega | (simp; done) | (simp; omega)) ?_)
   refine toEnd hC ?_
   refine endX_seq ?_
   refine runX_ret ?_
   refine endX_q ?_
   obtain rfl := Option.some.inj h
   show RetW _ _ _ _ _
   simp only [RetW]
   (try simp -implicitDefEqProofs (maxSteps := 4000000) (disch := first | omega | decide | (simp only [go_sem]; omega)) only [go_sem, ↓reduceIte])
   (try simp (disch := omega) only [if_pos, Nat.sub_zero])
   exact leT_refl _
  ·refine guardK_F c1 ?_
   try simp -implicitDefEqProofs (maxSteps := 4000000) (disch := first | omega | decide | (simp only [go_sem]; omega)) only [go_sem, ↓reduceIte]
   repeat (with_reducible refine And.intro (by first | assumption | omega | (simp; done) | (simp; omega)) ?_)
   refine toEnd hC ?_
   refine endX_seq ?_
   refine runX_ret ?_
   refine endX_q ?_
   obtain rfl := Option.some.inj h
   show RetW _ _ _ _ _
   simp only [RetW]
   (try simp -implicitDefEqProofs (maxSteps := 4000000) (disch := first | omega | decide | (simp only [go_sem]; omega)) only [go_sem, ↓reduceIte])
   (try simp (disch := omega) only [if_pos, Nat.sub_zero])
   exact leT_refl _
end Go.Proofs.YtjkfobmfddfjhaaDoorX

set_option linter.unusedVariables false
set_option linter.unusedSimpArgs false
namespace Go.Proofs.YtjkfobmfddfjhaaDoorX
open Go Go.RowKit Go.Proofs
set_option maxRecDepth 100000
attribute [local go_sem ↓] stepsK_build stepsK_bs appendS
attribute [local go_sem] String.reduceEq String.reduceNe reduceCtorEq Int.reduceEq Nat.reduceAdd Nat.reduceSub Nat.reduceMul Nat.reduceLT Nat.reduceLeDiff Nat.reduceEqDiff Nat.reduceBEq Int.reduceToNat Int.reduceLT Int.reduceLE Int.reduceGT Int.reduceGE Int.reduceAdd Int.reduceSub Int.reduceMul Int.reduceNeg Int.reduceBEq Int.reduceBNe Int.reducePow Int.reduceDiv Int.reduceMod Int.reduceTDiv Int.reduceTMod Int.reduceNatCast
/-! ### lifecycle.Due$2 -/
def F48 (n : Nat) (a0 : (List UInt8) × (List UInt8) × (Bool) × (Int) × (Int) × (Int)) : Option (Int) := some a0.2.2.2.2.1
set_option maxHeartbeats 4000000 in
theorem F48_ok : ∀ (n : Nat) (a0 : (List UInt8) × (List UInt8) × (Bool) × (Int) × (Int) × (Int)) (r : Int), F48 n a0 = some r → FnC Tryd.prog 48 [.agg [.imm (.string (bs a0.1)), .imm (.string (bs a0.2.1)), .imm (.bool a0.2.2.1), .imm (.int .i64 a0.2.2.2.1), .imm (.int .i64 a0.2.2.2.2.1), .imm (.int .i64 a0.2.2.2.2.2)]] (.imm (.int .i64 r))
 | n, a0, r, h => by
  unfold F48 at h
  refine FnC.goX mixed Tryd.func48 (by kernel_rfl) rfl ?_
  simp only [Tryd.ntmps48, List.length_cons, List.length_nil, List.replicate, List.cons_append, List.nil_append, Nat.reduceAdd, Nat.reduceSub]
  refine runX_seq ?_
  refine runX_regionC fun C hC => ?_
  try simp -implicitDefEqProofs (maxSteps := 4000000) (disch := first | omega | decide | (simp only [go_sem]; omega)) only [go_sem, ↓reduceIte]
  repeat (with_reducible refine And.intro (by first | assumption | omega | (simp; done) | (simp; omega)) ?_)
  refine toEnd hC ?_
  refine endX_seq ?_
  refine runX_seq ?_
  refine runX_regionC fun C hC => ?_
  try simp -implicitDefEqProofs (maxSteps := 4000000) (disch := first | omega | decide | (simp only [go_sem]; omega)) only [go_sem, ↓reduceIte]
  repeat (with_reducible refine And.intro (by first | assumption | omega | (simp; done) | (simp; omega)) ?_)
  refine toEnd hC ?_
  refine endX_seq ?_
  refine runX_ret ?_
  refine endX_q ?_
  obtain rfl := Option.some.inj h
  show RetW _ _ _ _ _
  simp only [RetW]
  (try simp -implicitDefEqProofs (maxSteps := 4000000) (disch := first | omega | decide | (simp only [go_sem]; omega)) only [go_sem, ↓reduceIte])
  (try simp (disch := omega) only [if_pos, Nat.sub_zero])
  exact leT_refl _
end Go.Proofs.YtjkfobmfddfjhaaDoorX

set_option linter.unusedVariables false
set_option linter.unusedSimpArgs false
namespace Go.Proofs.YtjkfobmfddfjhaaDoorX
open Go Go.RowKit Go.Proofs
set_option maxRecDepth 100000
attribute [local go_sem ↓] stepsK_build stepsK_bs appendS
attribute [local go_sem] String.reduceEq String.reduceNe reduceCtorEq Int.reduceEq Nat.reduceAdd Nat.reduceSub Nat.reduceMul Nat.reduceLT Nat.reduceLeDiff Nat.reduceEqDiff Nat.reduceBEq Int.reduceToNat Int.reduceLT Int.reduceLE Int.reduceGT Int.reduceGE Int.reduceAdd Int.reduceSub Int.reduceMul Int.reduceNeg Int.reduceBEq Int.reduceBNe Int.reducePow Int.reduceDiv Int.reduceMod Int.reduceTDiv Int.reduceTMod Int.reduceNatCast
/-! ### lifecycle.Due$1$1+lifecycle.Due$2 -/
def F1000001001000045 (n : Nat) (a0 : (List UInt8) × (List UInt8) × (Bool) × (Int) × (Int) × (Int)) (a1 : (List UInt8) × (Int) × (Bool) × (Int)) (a2 : Unit) (a3 : Int) (a4 : Int) : Option ((Bool) × ((List UInt8) × (Int) × (Bool) × (Int)) × (Unit) × (Int) × (Int)) := (F46 n (a0.1, a0.2.1, a0.2.2.1, a0.2.2.2.1, a0.2.2.2.2.1, a0.2.2.2.2.2) a1.1).bind fun v1 => iteB v1 ((F48 n (a0.1, a0.2.1, a0.2.2.1, a0.2.2.2.1, a0.2.2.2.2.1, a0.2.2.2.2.2)).bind fun v3 => (F47 n v3 a3 a4).bind fun v4 => some (v4, (a1.1, a1.2.1, a1.2.2.1, a1.2.2.2), (), a3, a4)) (some (false, (a1.1, a1.2.1, a1.2.2.1, a1.2.2.2), (), a3, a4))
set_option maxHeartbeats 4000000 in
theorem F1000001001000045_ok : ∀ (n : Nat) (a0 : (List UInt8) × (List UInt8) × (Bool) × (Int) × (Int) × (Int)) (a1 : (List UInt8) × (Int) × (Bool) × (Int)) (a2 : Unit) (a3 : Int) (a4 : Int) (r : (Bool) × ((List UInt8) × (Int) × (Bool) × (Int)) × (Unit) × (Int) × (Int)), F1000001001000045 n a0 a1 a2 a3 a4 = some r → FnR Tryd.prog 45 [some (.box 4294967354 (.agg [.imm (.string (bs a1.1)), .imm (.int .i64 a1.2.1), .imm (.bool a1.2.2.1), .imm (.int .i64 a1.2.2.2)]) false), some (.box 8589934690 (.fn 48 []) false), some (.box 12884901891 (.imm (.int .i64 a3)) false), some (.box 17179869187 (.imm (.int .i64 a4)) false)] [.agg [.imm (.string (bs a0.1)), .imm (.string (bs a0.2.1)), .imm (.bool a0.2.2.1), .imm (.int .i64 a0.2.2.2.1), .imm (.int .i64 a0.2.2.2.2.1), .imm (.int .i64 a0.2.2.2.2.2)], .ref 0 0 0 0, .ref 1 0 0 0, .ref 2 0 0 0, .ref 3 0 0 0] (.imm (.bool r.1)) [some (.box 4294967354 (.agg [.imm (.string (bs r.2.1.1)), .imm (.int .i64 r.2.1.2.1), .imm (.bool r.2.1.2.2.1), .imm (.int .i64 r.2.1.2.2.2)]) false), some (.box 8589934690 (.fn 48 []) false), some (.box 12884901891 (.imm (.int .i64 r.2.2.2.1)) false), some (.box 17179869187 (.imm (.int .i64 r.2.2.2.2)) false)]
 | n, a0, a1, a2, a3, a4, r, h => by
  unfold F1000001001000045 at h
  refine FnR.goX mixed [6] Tryd.func45 (by kernel_rfl) rfl (by simp [rowsOk, refsC, refsCL, adT_refsC, tagM]) (by simp [sameO]) (by simp [refsC, refsCL]) ?_
  simp only [Tryd.ntmps45, List.length_cons, List.length_nil, List.replicate, List.cons_append, List.nil_append, Nat.reduceAdd, Nat.reduceSub]
  refine runX_seq ?_
  refine runX_regionC fun C hC => ?_
  try simp -implicitDefEqProofs (maxSteps := 4000000) (disch := first | omega | decide | (simp only [go_sem]; omega)) only [go_sem, ↓reduceIte]
  repeat (with_reducible refine And.intro (by first | assumption | omega | (simp; done) | (simp; omega)) ?_)
  refine toEnd hC ?_
  refine endX_seq ?_
  refine runX_seq ?_
  refine runX_drawC mixed (by kernel_rfl) fun C hC => ?_
  obtain ⟨v1, h1, h⟩ := bnd_some h
  try simp -implicitDefEqProofs (maxSteps := 4000000) (disch := first | omega | decide | (simp only [go_sem]; omega)) only [go_sem, ↓reduceIte]
  repeat (with_reducible refine And.intro (by first | assumption | omega | (simp; done) | (simp; omega)) ?_)
  refine callD_X (F46_ok n (a0.1, a0.2.1, a0.2.2.1, a0.2.2.2.1, a0.2.2.2.2.1, a0.2.2.2.2.2) a1.1 _ h1) (by repeat (first | exact leL_refl _ | refine leL_cons (by first | exact leT_refl _ | exact leT_virt | exact leT_junk _ | exact leT_sl | exact leT_sln | exact leT_nil | (refine leT_agg (by repeat (first | exact leL_refl _ | refine leL_cons (by first | exact leT_refl _ | exact leT_sl | exact leT_sln | exact leT_nil) ?_)))) ?_)) ?_
  try simp -implicitDefEqProofs (maxSteps := 4000000) (disch := first | omega | decide | (simp only [go_sem]; omega)) only [go_sem, ↓reduceIte]
  repeat (with_reducible refine And.intro (by first | assumption | omega | (simp; done) | (simp; omega)) ?_)
  rcases iteB_some h with ⟨c2, h⟩ | ⟨c2, h⟩
  ·refine guardD_T c2 ?_
   obtain ⟨v3, h3, h⟩ := bnd_some h
   try simp -implicitDefEqProofs (maxSteps := 4000000) (disch := first | omega | decide | (simp only [go_sem]; omega)) only [go_sem, ↓reduceIte]
   repeat (with_reducible refine And.intro (by first | assumption | omega | (simp; done) | (simp; omega)) ?_)
   refine callD_X (F48_ok n (a0.1, a0.2.1, a0.2.2.1, a0.2.2.2.1, a0.2.2.2.2.1, a0.2.2.2.2.2) _ h3) (by repeat (first | exact leL_refl _ | refine leL_cons (by first | exact leT_refl _ | exact leT_virt | exact leT_junk _ | exact leT_sl | exact leT_sln | exact leT_nil | (refine leT_agg (by repeat (first | exact leL_refl _ | refine leL_cons (by first | exact leT_refl _ | exact leT_sl | exact leT_sln | exact leT_nil) ?_)))) ?_)) ?_
   obtain ⟨v4, h4, h⟩ := bnd_some h
   try simp -implicitDefEqProofs (maxSteps := 4000000) (disch := first | omega | decide | (simp only [go_sem]; omega)) only [go_sem, ↓reduceIte]
   repeat (with_reducible refine And.intro (by first | assumption | omega | (simp; done) | (simp; omega)) ?_)
   refine callD_X (F47_ok n v3 a3 a4 _ h4) (by repeat (first | exact leL_refl _ | refine leL_cons (by first | exact leT_refl _ | exact leT_virt | exact leT_junk _ | exact leT_sl | exact leT_sln | exact leT_nil | (refine leT_agg (by repeat (first | exact leL_refl _ | refine leL_cons (by first | exact leT_refl _ | exact leT_sl | exact leT_sln | exact leT_nil) ?_)))) ?_)) ?_
   try simp -implicitDefEqProofs (maxSteps := 4000000) (disch := first | omega | decide | (simp only [go_sem]; omega)) only [go_sem, ↓reduceIte]
   repeat (with_reducible refine And.intro (by first | assumption | omega | (simp; done) | (simp; omega)) ?_)
   refine toEnd hC ?_
   refine endX_seq ?_
   refine runX_ret ?_
   refine endX_q ?_
   obtain rfl := Option.some.inj h
   show RetR _ _ _ _ _ _ _ _
   simp only [RetR]
   (try simp -implicitDefEqProofs (maxSteps := 4000000) (disch := first | omega | decide | (simp only [go_sem]; omega)) only [go_sem, ↓reduceIte])
   exact ⟨leOs_refl _, leT_refl _⟩
  ·refine guardD_F c2 ?_
   try simp -implicitDefEqProofs (maxSteps := 4000000) (disch := first | omega | decide | (simp only [go_sem]; omega)) only [go_sem, ↓reduceIte]
   repeat (with_reducible refine And.intro (by first | assumption | omega | (simp; done) | (simp; omega)) ?_)
   refine toEnd hC ?_
   refine endX_seq ?_
   refine runX_ret ?_
   refine endX_q ?_
   obtain rfl := Option.some.inj h
   show RetR _ _ _ _ _ _ _ _
   simp only [RetR]
   (try simp -implicitDefEqProofs (maxSteps := 4000000) (disch := first | omega | decide | (simp only [go_sem]; omega)) only [go_sem, ↓reduceIte])
   exact ⟨leOs_refl _, leT_refl _⟩
end Go.Proofs.YtjkfobmfddfjhaaDoorX

set_option linter.unusedVariables false
set_option linter.unusedSimpArgs false
namespace Go.Proofs.YtjkfobmfddfjhaaDoorX
open Go Go.RowKit Go.Proofs
set_option maxRecDepth 100000
attribute [local go_sem ↓] stepsK_build stepsK_bs appendS
attribute [local go_sem] String.reduceEq String.reduceNe reduceCtorEq Int.reduceEq Nat.reduceAdd Nat.reduceSub Nat.reduceMul Nat.reduceLT Nat.reduceLeDiff Nat.reduceEqDiff Nat.reduceBEq Int.reduceToNat Int.reduceLT Int.reduceLE Int.reduceGT Int.reduceGE Int.reduceAdd Int.reduceSub Int.reduceMul Int.reduceNeg Int.reduceBEq Int.reduceBNe Int.reducePow Int.reduceDiv Int.reduceMod Int.reduceTDiv Int.reduceTMod Int.reduceNatCast
/-! ### lifecycle.either[lifecycle.Rule]@lifecycle.Due$1$1+lifecycle.Due$2 -/
def F1000000000046000044_S1 (a0 : List ((List UInt8) × (List UInt8) × (Bool) × (Int) × (Int) × (Int))) (x1 : Int) (x2 : List UInt8) (x3 : Int) (x4 : Bool) (x5 : Int) (x6 : Int) (x7 : Int) : St := ⟨[.junk, .fn 45 [.ref 0 0 0 0, .ref 1 0 0 0, .ref 2 0 0 0, .ref 3 0 0 0], .junk, .junk, .junk, .junk, .junk, .sl 6 false (List.map eT55 a0), .imm (.int .i64 (a0.length : Int)), .imm (.int .i64 x1), .junk, .junk, .junk, .junk, .junk, .junk, .junk], [some (.box 4294967354 (.agg [.imm (.string (bs x2)), .imm (.int .i64 x3), .imm (.bool x4), .imm (.int .i64 x5)]) false), some (.box 8589934690 (.fn 48 []) false), some (.box 12884901891 (.imm (.int .i64 x6)) false), some (.box 17179869187 (.imm (.int .i64 x7)) false)]⟩
def F1000000000046000044_L1 : Nat → (List ((List UInt8) × (List UInt8) × (Bool) × (Int) × (Int) × (Int))) → (Int) → (List UInt8) → (Int) → (Bool) → (Int) → (Int) → (Int) → Option ((Bool) × ((List UInt8) × (Int) × (Bool) × (Int)) × (Unit) × (Int) × (Int))
 | 0, _, _, _, _, _, _, _, _ => none
 | m1 + 1, a0, x1, x2, x3, x4, x5, x6, x7 => iteB (decide (x1 < (a0.length : Int))) (grd (0 ≤ x1 ∧ x1 < (a0.length : Int)) ((F1000001001000045 m1 ((a0.getD x1.toNat default).1, (a0.getD x1.toNat default).2.1, (a0.getD x1.toNat default).2.2.1, (a0.getD x1.toNat default).2.2.2.1, (a0.getD x1.toNat default).2.2.2.2.1, (a0.getD x1.toNat default).2.2.2.2.2) (x2, x3, x4, x5) () x6 x7).bind fun v10 => iteB v10.1 (some (true, (v10.2.1.1, v10.2.1.2.1, v10.2.1.2.2.1, v10.2.1.2.2.2), (), v10.2.2.2.1, v10.2.2.2.2)) (F1000000000046000044_L1 m1 a0 (IntKind.wrap .i64 (x1 + (1 : Int))) v10.2.1.1 v10.2.1.2.1 v10.2.1.2.2.1 v10.2.1.2.2.2 v10.2.2.2.1 v10.2.2.2.2))) (some (false, (x2, x3, x4, x5), (), x6, x7))
def F1000000000046000044 (n : Nat) (a0 : List ((List UInt8) × (List UInt8) × (Bool) × (Int) × (Int) × (Int))) (a1_0 : (List UInt8) × (Int) × (Bool) × (Int)) (a1_1 : Unit) (a1_2 : Int) (a1_3 : Int) : Option ((Bool) × ((List UInt8) × (Int) × (Bool) × (Int)) × (Unit) × (Int) × (Int)) := F1000000000046000044_L1 n a0 (0 : Int) a1_0.1 a1_0.2.1 a1_0.2.2.1 a1_0.2.2.2 a1_2 a1_3
set_option maxHeartbeats 4000000 in
theorem F1000000000046000044_ok : ∀ (n : Nat) (a0 : List ((List UInt8) × (List UInt8) × (Bool) × (Int) × (Int) × (Int))) (a1_0 : (List UInt8) × (Int) × (Bool) × (Int)) (a1_1 : Unit) (a1_2 : Int) (a1_3 : Int) (r : (Bool) × ((List UInt8) × (Int) × (Bool) × (Int)) × (Unit) × (Int) × (Int)), F1000000000046000044 n a0 a1_0 a1_1 a1_2 a1_3 = some r → FnR Tryd.prog 44 [some (.box 4294967354 (.agg [.imm (.string (bs a1_0.1)), .imm (.int .i64 a1_0.2.1), .imm (.bool a1_0.2.2.1), .imm (.int .i64 a1_0.2.2.2)]) false), some (.box 8589934690 (.fn 48 []) false), some (.box 12884901891 (.imm (.int .i64 a1_2)) false), some (.box 17179869187 (.imm (.int .i64 a1_3)) false)] [.sl 6 false (List.map eT55 a0), .fn 45 [.ref 0 0 0 0, .ref 1 0 0 0, .ref 2 0 0 0, .ref 3 0 0 0]] (.imm (.bool r.1)) [some (.box 4294967354 (.agg [.imm (.string (bs r.2.1.1)), .imm (.int .i64 r.2.1.2.1), .imm (.bool r.2.1.2.2.1), .imm (.int .i64 r.2.1.2.2.2)]) false), some (.box 8589934690 (.fn 48 []) false), some (.box 12884901891 (.imm (.int .i64 r.2.2.2.1)) false), some (.box 17179869187 (.imm (.int .i64 r.2.2.2.2)) false)]
 | n, a0, a1_0, a1_1, a1_2, a1_3, r, h => by
  unfold F1000000000046000044 at h
  refine FnR.goX mixed [4] Tryd.func44 (by kernel_rfl) rfl (by simp [rowsOk, refsC, refsCL, adT_refsC, tagM]) (by simp [sameO]) (by simp [refsC, refsCL]) ?_
  simp only [Tryd.ntmps44, List.length_cons, List.length_nil, List.replicate, List.cons_append, List.nil_append, Nat.reduceAdd, Nat.reduceSub]
  refine runX_seq ?_
  refine runX_regionC fun C hC => ?_
  try simp -implicitDefEqProofs (maxSteps := 4000000) (disch := first | omega | decide | (simp only [go_sem]; omega)) only [go_sem, ↓reduceIte]
  repeat (with_reducible refine And.intro (by first | assumption | omega | (simp; done) | (simp; omega)) ?_)
  refine toEnd hC ?_
  refine endX_seq ?_
  refine runX_seq ?_
  refine runX_seq ?_
  refine runX_regionC fun C hC => ?_
  try simp -implicitDefEqProofs (maxSteps := 4000000) (disch := first | omega | decide | (simp only [go_sem]; omega)) only [go_sem, ↓reduceIte]
  repeat (with_reducible refine And.intro (by first | assumption | omega | (simp; done) | (simp; omega)) ?_)
  refine toEnd hC ?_
  refine endX_seq ?_
  refine runX_block ?_
  refine runX_loop [1, 7, 8, 9] (fun m S => ∃ (x1 : Int) (x2 : List UInt8) (x3 : Int) (x4 : Bool) (x5 : Int) (x6 : Int) (x7 : Int), S = F1000000000046000044_S1 a0 x1 x2 x3 x4 x5 x6 x7 ∧ m ≤ n ∧ F1000000000046000044_L1 m a0 x1 x2 x3 x4 x5 x6 x7 = some r) n ⟨F1000000000046000044_S1 a0 (0 : Int) a1_0.1 a1_0.2.1 a1_0.2.2.1 a1_0.2.2.2 a1_2 a1_3, ?_, (0 : Int), a1_0.1, a1_0.2.1, a1_0.2.2.1, a1_0.2.2.2, a1_2, a1_3, rfl, Nat.le_refl _, h⟩ ?_
  ·simp only [F1000000000046000044_S1]
   (try simp -implicitDefEqProofs (maxSteps := 4000000) (disch := first | omega | decide | (simp only [go_sem]; omega)) only [go_sem, ↓reduceIte])
   first | exact leS_refl _ | (refine leS_le ?_ ?_ <;> first | exact leL_refl _ | exact leOs_refl _ | (simp only [List.append_assoc, List.cons_append, List.nil_append]; exact leOs_refl _) | (repeat (first | exact leL_refl _ | refine leL_cons (by first | exact leT_refl _ | exact leT_virt | exact leT_junk _ | exact leT_sl | exact leT_sln | exact leT_nil | (refine leT_agg (by repeat (first | exact leL_refl _ | refine leL_cons (by first | exact leT_refl _ | exact leT_sl | exact leT_sln | exact leT_nil) ?_)))) ?_)))
  ·clear h
   rintro m1 S ⟨x1, x2, x3, x4, x5, x6, x7, rfl, hm1, h⟩
   cases m1 with
   | zero => first | cases (show (none : Option _) = some _ from h) | (rw [F1000000000046000044_L1] at h; cases h)
   | succ m1 =>
    rw [F1000000000046000044_L1] at h
    simp only [F1000000000046000044_S1]
    refine runX_seq ?_
    refine runX_regionC fun C hC => ?_
    try simp -implicitDefEqProofs (maxSteps := 4000000) (disch := first | omega | decide | (simp only [go_sem]; omega)) only [go_sem, ↓reduceIte]
    repeat (with_reducible refine And.intro (by first | assumption | omega | (simp; done) | (simp; omega)) ?_)
    refine toEnd hC ?_
    refine endX_seq ?_
    refine runX_seq ?_
    rcases iteB_some h with ⟨c8, h⟩ | ⟨c8, h⟩
    ·refine runX_condT rfl c8 ?_
     refine runX_skip ?_
     refine endX_seq ?_
     refine runX_seq ?_
     refine runX_block ?_
     refine runX_seq ?_
     refine runX_regionC fun C hC => ?_
     obtain ⟨g9, h⟩ := grd_some h
     try simp -implicitDefEqProofs (maxSteps := 4000000) (disch := first | omega | decide | (simp only [go_sem]; omega)) only [go_sem, ↓reduceIte]
     repeat (with_reducible refine And.intro (by first | assumption | omega | (simp; done) | (simp; omega)) ?_)
     refine toEnd hC ?_
     refine endX_seq ?_
     refine runX_seq ?_
     refine runX_regionC fun C hC => ?_
     obtain ⟨v10, h10, h⟩ := bnd_some h
     try simp -implicitDefEqProofs (maxSteps := 4000000) (disch := first | omega | decide | (simp only [go_sem]; omega)) only [go_sem, ↓reduceIte]
     repeat (with_reducible refine And.intro (by first | assumption | omega | (simp; done) | (simp; omega)) ?_)
     refine callR_X [0, 1, 2, 3] (F1000001001000045_ok m1 ((a0.getD x1.toNat default).1, (a0.getD x1.toNat default).2.1, (a0.getD x1.toNat default).2.2.1, (a0.getD x1.toNat default).2.2.2.1, (a0.getD x1.toNat default).2.2.2.2.1, (a0.getD x1.toNat default).2.2.2.2.2) (x2, x3, x4, x5) () x6 x7 _ h10) (by decide) (by (try simp -implicitDefEqProofs (maxSteps := 4000000) (disch := first | omega | decide | (simp only [go_sem]; omega)) only [go_sem, ↓reduceIte]); repeat (first | exact trivial | refine And.intro ?_ ?_ | exact fun _ => trivial | exact fun _ _ => trivial | exact fun _ _ h => h | rfl | decide)) (by (try simp -implicitDefEqProofs (maxSteps := 4000000) (disch := first | omega | decide | (simp only [go_sem]; omega)) only [go_sem, ↓reduceIte]); repeat (first | exact leL_refl _ | refine leL_cons (by first | exact leT_refl _ | exact leT_virt | exact leT_junk _ | exact leT_sl | exact leT_sln | exact leT_nil | (refine leT_agg (by repeat (first | exact leL_refl _ | refine leL_cons (by first | exact leT_refl _ | exact leT_sl | exact leT_sln | exact leT_nil) ?_)))) ?_)) ?_
     try simp -implicitDefEqProofs (maxSteps := 4000000) (disch := first | omega | decide | (simp only [go_sem]; omega)) only [go_sem, ↓reduceIte]
     repeat (with_reducible refine And.intro (by first | assumption | omega | (simp; done) | (simp; omega)) ?_)
     refine toEnd hC ?_
     refine endX_seq ?_
     rcases iteB_some h with ⟨c11, h⟩ | ⟨c11, h⟩
     ·refine runX_condT rfl c11 ?_
      refine runX_seq ?_
      refine runX_regionC fun C hC => ?_
      try simp -implicitDefEqProofs (maxSteps := 4000000) (disch := first | omega | decide | (simp only [go_sem]; omega)) only [go_sem, ↓reduceIte]
      repeat (with_reducible refine And.intro (by first | assumption | omega | (simp; done) | (simp; omega)) ?_)
      refine toEnd hC ?_
      refine endX_seq ?_
      refine runX_ret ?_
      refine endX_blkR ?_
      refine endX_seqR ?_
      refine endX_q (roundQ_ret ?_)
      refine endX_blkR ?_
      refine endX_seqR ?_
      refine endX_q ?_
      obtain rfl := Option.some.inj h
      show RetR _ _ _ _ _ _ _ _
      simp only [RetR]
      (try simp -implicitDefEqProofs (maxSteps := 4000000) (disch := first | omega | decide | (simp only [go_sem]; omega)) only [go_sem, ↓reduceIte])
      exact ⟨leOs_refl _, leT_refl _⟩
     ·refine runX_condF rfl c11 ?_
      refine runX_skip ?_
      refine endX_blk ?_
      refine endX_seq ?_
      refine runX_regionC fun C hC => ?_
      try simp -implicitDefEqProofs (maxSteps := 4000000) (disch := first | omega | decide | (simp only [go_sem]; omega)) only [go_sem, ↓reduceIte]
      repeat (with_reducible refine And.intro (by first | assumption | omega | (simp; done) | (simp; omega)) ?_)
      refine toEnd hC ?_
      refine endX_q (roundQ_normal ⟨m1, by omega, F1000000000046000044_S1 a0 (IntKind.wrap .i64 (x1 + (1 : Int))) v10.2.1.1 v10.2.1.2.1 v10.2.1.2.2.1 v10.2.1.2.2.2 v10.2.2.2.1 v10.2.2.2.2, ?_, (IntKind.wrap .i64 (x1 + (1 : Int))), v10.2.1.1, v10.2.1.2.1, v10.2.1.2.2.1, v10.2.1.2.2.2, v10.2.2.2.1, v10.2.2.2.2, rfl, by omega, h⟩)
      simp only [F1000000000046000044_S1]
      (try simp -implicitDefEqProofs (maxSteps := 4000000) (disch := first | omega | decide | (simp only [go_sem]; omega)) only [go_sem, ↓reduceIte])
      first | exact leS_refl _ | (refine leS_le ?_ ?_ <;> first | exact leL_refl _ | exact leOs_refl _ | (simp only [List.append_assoc, List.cons_append, List.nil_append]; exact leOs_refl _) | (repeat (first | exact leL_refl _ | refine leL_cons (by first | exact leT_refl _ | exact leT_virt | exact leT_junk _ | exact leT_sl | exact leT_sln | exact leT_nil | (refine leT_agg (by repeat (first | exact leL_refl _ | refine leL_cons (by first | exact leT_refl _ | exact leT_sl | exact leT_sln | exact leT_nil) ?_)))) ?_)))
    ·refine runX_condF rfl c8 ?_
     refine runX_exit ?_
     refine endX_seqE ?_
     refine endX_q (roundQ_exit ?_)
     refine endX_blkE ?_
     refine endX_seq ?_
     refine runX_seq ?_
     refine runX_regionC fun C hC => ?_
     try simp -implicitDefEqProofs (maxSteps := 4000000) (disch := first | omega | decide | (simp only [go_sem]; omega)) only [go_sem, ↓reduceIte]
     repeat (with_reducible refine And.intro (by first | assumption | omega | (simp; done) | (simp; omega)) ?_)
     refine toEnd hC ?_
     refine endX_seq ?_
     refine runX_ret ?_
     refine endX_q ?_
     obtain rfl := Option.some.inj h
     show RetR _ _ _ _ _ _ _ _
     simp only [RetR]
     (try simp -implicitDefEqProofs (maxSteps := 4000000) (disch := first | omega | decide | (simp only [go_sem]; omega)) only [go_sem, ↓reduceIte])
     exact ⟨leOs_refl _, leT_refl _⟩
end Go.Proofs.YtjkfobmfddfjhaaDoorX

set_option linter.unusedVariables false
set_option linter.unusedSimpArgs false
namespace Go.Proofs.YtjkfobmfddfjhaaDoorX
open Go Go.RowKit Go.Proofs
set_option maxRecDepth 100000
attribute [local go_sem ↓] stepsK_build stepsK_bs appendS
attribute [local go_sem] String.reduceEq String.reduceNe reduceCtorEq Int.reduceEq Nat.reduceAdd Nat.reduceSub Nat.reduceMul Nat.reduceLT Nat.reduceLeDiff Nat.reduceEqDiff Nat.reduceBEq Int.reduceToNat Int.reduceLT Int.reduceLE Int.reduceGT Int.reduceGE Int.reduceAdd Int.reduceSub Int.reduceMul Int.reduceNeg Int.reduceBEq Int.reduceBNe Int.reducePow Int.reduceDiv Int.reduceMod Int.reduceTDiv Int.reduceTMod Int.reduceNatCast
/-! ### lifecycle.Due$1@lifecycle.Due$2 -/
def F49000043 (n : Nat) (a1 : Int) (a2 : List ((List UInt8) × (List UInt8) × (Bool) × (Int) × (Int) × (Int))) (a3 : (List UInt8) × (Int) × (Bool) × (Int)) (a4 : Int) : Option ((Bool) × (List ((List UInt8) × (List UInt8) × (Bool) × (Int) × (Int) × (Int))) × ((List UInt8) × (Int) × (Bool) × (Int)) × (Int)) := (F1000000000046000044 n a2 (a3.1, a3.2.1, a3.2.2.1, a3.2.2.2) () a1 a4).bind fun v1 => some (v1.1, a2, (v1.2.1.1, v1.2.1.2.1, v1.2.1.2.2.1, v1.2.1.2.2.2), v1.2.2.2.2)
set_option maxHeartbeats 4000000 in
theorem F49000043_ok : ∀ (n : Nat) (a1 : Int) (a2 : List ((List UInt8) × (List UInt8) × (Bool) × (Int) × (Int) × (Int))) (a3 : (List UInt8) × (Int) × (Bool) × (Int)) (a4 : Int) (r : (Bool) × (List ((List UInt8) × (List UInt8) × (Bool) × (Int) × (Int) × (Int))) × ((List UInt8) × (Int) × (Bool) × (Int)) × (Int)), F49000043 n a1 a2 a3 a4 = some r → FnR Tryd.prog 43 [some (.box 4294967336 (.sl 6 false (List.map eT55 a2)) false), some (.box 8589934650 (.agg [.imm (.string (bs a3.1)), .imm (.int .i64 a3.2.1), .imm (.bool a3.2.2.1), .imm (.int .i64 a3.2.2.2)]) false), some (.box 12884901891 (.imm (.int .i64 a4)) false)] [.fn 48 [], .imm (.int .i64 a1), .ref 0 0 0 0, .ref 1 0 0 0, .ref 2 0 0 0] (.imm (.bool r.1)) [some (.box 4294967336 (.sl 6 false (List.map eT55 r.2.1)) false), some (.box 8589934650 (.agg [.imm (.string (bs r.2.2.1.1)), .imm (.int .i64 r.2.2.1.2.1), .imm (.bool r.2.2.1.2.2.1), .imm (.int .i64 r.2.2.1.2.2.2)]) false), some (.box 12884901891 (.imm (.int .i64 r.2.2.2)) false)]
 | n, a1, a2, a3, a4, r, h => by
  unfold F49000043 at h
  refine FnR.goX mixed [7] Tryd.func43 (by kernel_rfl) rfl (by simp [rowsOk, refsC, refsCL, adT_refsC, tagM]) (by simp [sameO]) (by simp [refsC, refsCL]) ?_
  simp only [Tryd.ntmps43, List.length_cons, List.length_nil, List.replicate, List.cons_append, List.nil_append, Nat.reduceAdd, Nat.reduceSub]
  refine runX_seq ?_
  refine runX_regionC fun C hC => ?_
  try simp -implicitDefEqProofs (maxSteps := 4000000) (disch := first | omega | decide | (simp only [go_sem]; omega)) only [go_sem, ↓reduceIte]
  repeat (with_reducible refine And.intro (by first | assumption | omega | (simp; done) | (simp; omega)) ?_)
  refine toEnd hC ?_
  refine endX_seq ?_
  refine runX_seq ?_
  refine runX_regionC fun C hC => ?_
  obtain ⟨v1, h1, h⟩ := bnd_some h
  try simp -implicitDefEqProofs (maxSteps := 4000000) (disch := first | omega | decide | (simp only [go_sem]; omega)) only [go_sem, ↓reduceIte]
  repeat (with_reducible refine And.intro (by first | assumption | omega | (simp; done) | (simp; omega)) ?_)
  refine callR_X [1, 3, 4, 2] (F1000000000046000044_ok n a2 (a3.1, a3.2.1, a3.2.2.1, a3.2.2.2) () a1 a4 _ h1) (by decide) (by (try simp -implicitDefEqProofs (maxSteps := 4000000) (disch := first | omega | decide | (simp only [go_sem]; omega)) only [go_sem, ↓reduceIte]); repeat (first | exact trivial | refine And.intro ?_ ?_ | exact fun _ => trivial | exact fun _ _ => trivial | exact fun _ _ h => h | rfl | decide)) (by (try simp -implicitDefEqProofs (maxSteps := 4000000) (disch := first | omega | decide | (simp only [go_sem]; omega)) only [go_sem, ↓reduceIte]); repeat (first | exact leL_refl _ | refine leL_cons (by first | exact leT_refl _ | exact leT_virt | exact leT_junk _ | exact leT_sl | exact leT_sln | exact leT_nil | (refine leT_agg (by repeat (first | exact leL_refl _ | refine leL_cons (by first | exact leT_refl _ | exact leT_sl | exact leT_sln | exact leT_nil) ?_)))) ?_)) ?_
  try simp -implicitDefEqProofs (maxSteps := 4000000) (disch := first | omega | decide | (simp only [go_sem]; omega)) only [go_sem, ↓reduceIte]
  repeat (with_reducible refine And.intro (by first | assumption | omega | (simp; done) | (simp; omega)) ?_)
  refine toEnd hC ?_
  refine endX_seq ?_
  refine runX_ret ?_
  refine endX_q ?_
  obtain rfl := Option.some.inj h
  show RetR _ _ _ _ _ _ _ _
  simp only [RetR]
  (try simp -implicitDefEqProofs (maxSteps := 4000000) (disch := first | omega | decide | (simp only [go_sem]; omega)) only [go_sem, ↓reduceIte])
  exact ⟨leOs_refl _, leT_refl _⟩
end Go.Proofs.YtjkfobmfddfjhaaDoorX

set_option linter.unusedVariables false
set_option linter.unusedSimpArgs false
namespace Go.Proofs.YtjkfobmfddfjhaaDoorX
open Go Go.RowKit Go.Proofs
set_option maxRecDepth 100000
attribute [local go_sem ↓] stepsK_build stepsK_bs appendS
attribute [local go_sem] String.reduceEq String.reduceNe reduceCtorEq Int.reduceEq Nat.reduceAdd Nat.reduceSub Nat.reduceMul Nat.reduceLT Nat.reduceLeDiff Nat.reduceEqDiff Nat.reduceBEq Int.reduceToNat Int.reduceLT Int.reduceLE Int.reduceGT Int.reduceGE Int.reduceAdd Int.reduceSub Int.reduceMul Int.reduceNeg Int.reduceBEq Int.reduceBNe Int.reducePow Int.reduceDiv Int.reduceMod Int.reduceTDiv Int.reduceTMod Int.reduceNatCast
/-! ### lifecycle.Due$3 -/
def F49 (n : Nat) (a0 : (List UInt8) × (List UInt8) × (Bool) × (Int) × (Int) × (Int)) : Option (Int) := some a0.2.2.2.1
set_option maxHeartbeats 4000000 in
theorem F49_ok : ∀ (n : Nat) (a0 : (List UInt8) × (List UInt8) × (Bool) × (Int) × (Int) × (Int)) (r : Int), F49 n a0 = some r → FnC Tryd.prog 49 [.agg [.imm (.string (bs a0.1)), .imm (.string (bs a0.2.1)), .imm (.bool a0.2.2.1), .imm (.int .i64 a0.2.2.2.1), .imm (.int .i64 a0.2.2.2.2.1), .imm (.int .i64 a0.2.2.2.2.2)]] (.imm (.int .i64 r))
 | n, a0, r, h => by
  unfold F49 at h
  refine FnC.goX mixed Tryd.func49 (by kernel_rfl) rfl ?_
  simp only [Tryd.ntmps49, List.length_cons, List.length_nil, List.replicate, List.cons_append, List.nil_append, Nat.reduceAdd, Nat.reduceSub]
  refine runX_seq ?_
  refine runX_regionC fun C hC => ?_
  try simp -implicitDefEqProofs (maxSteps := 4000000) (disch := first | omega | decide | (simp only [go_sem]; omega)) only [go_sem, ↓reduceIte]
  repeat (with_reducible refine And.intro (by first | assumption | omega | (simp; done) | (simp; omega)) ?_)
  refine toEnd hC ?_
  refine endX_seq ?_
  refine runX_seq ?_
  refine runX_regionC fun C hC => ?_
  try simp -implicitDefEqProofs (maxSteps := 4000000) (disch := first | omega | decide | (simp only [go_sem]; omega)) only [go_sem, ↓reduceIte]
  repeat (with_reducible refine And.intro (by first | assumption | omega | (simp; done) | (simp; omega)) ?_)
  refine toEnd hC ?_
  refine endX_seq ?_
  refine runX_ret ?_
  refine endX_q ?_
  obtain rfl := Option.some.inj h
  show RetW _ _ _ _ _
  simp only [RetW]
  (try simp -implicitDefEqProofs (maxSteps := 4000000) (disch := first | omega | decide | (simp only [go_sem]; omega)) only [go_sem, ↓reduceIte])
  (try simp (disch := omega) only [if_pos, Nat.sub_zero])
  exact leT_refl _
end Go.Proofs.YtjkfobmfddfjhaaDoorX

set_option linter.unusedVariables false
set_option linter.unusedSimpArgs false
namespace Go.Proofs.YtjkfobmfddfjhaaDoorX
open Go Go.RowKit Go.Proofs
set_option maxRecDepth 100000
attribute [local go_sem ↓] stepsK_build stepsK_bs appendS
attribute [local go_sem] String.reduceEq String.reduceNe reduceCtorEq Int.reduceEq Nat.reduceAdd Nat.reduceSub Nat.reduceMul Nat.reduceLT Nat.reduceLeDiff Nat.reduceEqDiff Nat.reduceBEq Int.reduceToNat Int.reduceLT Int.reduceLE Int.reduceGT Int.reduceGE Int.reduceAdd Int.reduceSub Int.reduceMul Int.reduceNeg Int.reduceBEq Int.reduceBNe Int.reducePow Int.reduceDiv Int.reduceMod Int.reduceTDiv Int.reduceTMod Int.reduceNatCast
/-! ### lifecycle.Due$1$1+lifecycle.Due$3 -/
def F1000000001000045 (n : Nat) (a0 : (List UInt8) × (List UInt8) × (Bool) × (Int) × (Int) × (Int)) (a1 : (List UInt8) × (Int) × (Bool) × (Int)) (a2 : Unit) (a3 : Int) (a4 : Int) : Option ((Bool) × ((List UInt8) × (Int) × (Bool) × (Int)) × (Unit) × (Int) × (Int)) := (F46 n (a0.1, a0.2.1, a0.2.2.1, a0.2.2.2.1, a0.2.2.2.2.1, a0.2.2.2.2.2) a1.1).bind fun v1 => iteB v1 ((F49 n (a0.1, a0.2.1, a0.2.2.1, a0.2.2.2.1, a0.2.2.2.2.1, a0.2.2.2.2.2)).bind fun v3 => (F47 n v3 a3 a4).bind fun v4 => some (v4, (a1.1, a1.2.1, a1.2.2.1, a1.2.2.2), (), a3, a4)) (some (false, (a1.1, a1.2.1, a1.2.2.1, a1.2.2.2), (), a3, a4))
set_option maxHeartbeats 4000000 in
theorem F1000000001000045_ok : ∀ (n : Nat) (a0 : (List UInt8) × (List UInt8) × (Bool) × (Int) × (Int) × (Int)) (a1 : (List UInt8) × (Int) × (Bool) × (Int)) (a2 : Unit) (a3 : Int) (a4 : Int) (r : (Bool) × ((List UInt8) × (Int) × (Bool) × (Int)) × (Unit) × (Int) × (Int)), F1000000001000045 n a0 a1 a2 a3 a4 = some r → FnR Tryd.prog 45 [some (.box 4294967354 (.agg [.imm (.string (bs a1.1)), .imm (.int .i64 a1.2.1), .imm (.bool a1.2.2.1), .imm (.int .i64 a1.2.2.2)]) false), some (.box 8589934690 (.fn 49 []) false), some (.box 12884901891 (.imm (.int .i64 a3)) false), some (.box 17179869187 (.imm (.int .i64 a4)) false)] [.agg [.imm (.string (bs a0.1)), .imm (.string (bs a0.2.1)), .imm (.bool a0.2.2.1), .imm (.int .i64 a0.2.2.2.1), .imm (.int .i64 a0.2.2.2.2.1), .imm (.int .i64 a0.2.2.2.2.2)], .ref 0 0 0 0, .ref 1 0 0 0, .ref 2 0 0 0, .ref 3 0 0 0] (.imm (.bool r.1)) [some (.box 4294967354 (.agg [.imm (.string (bs r.2.1.1)), .imm (.int .i64 r.2.1.2.1), .imm (.bool r.2.1.2.2.1), .imm (.int .i64 r.2.1.2.2.2)]) false), some (.box 8589934690 (.fn 49 []) false), some (.box 12884901891 (.imm (.int .i64 r.2.2.2.1)) false), some (.box 17179869187 (.imm (.int .i64 r.2.2.2.2)) false)]
 | n, a0, a1, a2, a3, a4, r, h => by
  unfold F1000000001000045 at h
  refine FnR.goX mixed [6] Tryd.func45 (by kernel_rfl) rfl (by simp [rowsOk, refsC, refsCL, adT_refsC, tagM]) (by simp [sameO]) (by simp [refsC, refsCL]) ?_
  simp only [Tryd.ntmps45, List.length_cons, List.length_nil, List.replicate, List.cons_append, List.nil_append, Nat.reduceAdd, Nat.reduceSub]
  refine runX_seq ?_
  refine runX_regionC fun C hC => ?_
  try simp -implicitDefEqProofs (maxSteps := 4000000) (disch := first | omega | decide | (simp only [go_sem]; omega)) only [go_sem, ↓reduceIte]
  repeat (with_reducible refine And.intro (by first | assumption | omega | (simp; done) | (simp; omega)) ?_)
  refine toEnd hC ?_
  refine endX_seq ?_
  refine runX_seq ?_
  refine runX_drawC mixed (by kernel_rfl) fun C hC => ?_
  obtain ⟨v1, h1, h⟩ := bnd_some h
  try simp -implicitDefEqProofs (maxSteps := 4000000) (disch := first | omega | decide | (simp only [go_sem]; omega)) only [go_sem, ↓reduceIte]
  repeat (with_reducible refine And.intro (by first | assumption | omega | (simp; done) | (simp; omega)) ?_)
  refine callD_X (F46_ok n (a0.1, a0.2.1, a0.2.2.1, a0.2.2.2.1, a0.2.2.2.2.1, a0.2.2.2.2.2) a1.1 _ h1) (by repeat (first | exact leL_refl _ | refine leL_cons (by first | exact leT_refl _ | exact leT_virt | exact leT_junk _ | exact leT_sl | exact leT_sln | exact leT_nil | (refine leT_agg (by repeat (first | exact leL_refl _ | refine leL_cons (by first | exact leT_refl _ | exact leT_sl | exact leT_sln | exact leT_nil) ?_)))) ?_)) ?_
  try simp -implicitDefEqProofs (maxSteps := 4000000) (disch := first | omega | decide | (simp only [go_sem]; omega)) only [go_sem, ↓reduceIte]
  repeat (with_reducible refine And.intro (by first | assumption | omega | (simp; done) | (simp; omega)) ?_)
  rcases iteB_some h with ⟨c2, h⟩ | ⟨c2, h⟩
  ·refine guardD_T c2 ?_
   obtain ⟨v3, h3, h⟩ := bnd_some h
   try simp -implicitDefEqProofs (maxSteps := 4000000) (disch := first | omega | decide | (simp only [go_sem]; omega)) only [go_sem, ↓reduceIte]
   repeat (with_reducible refine And.intro (by first | assumption | omega | (simp; done) | (simp; omega)) ?_)
   refine callD_X (F49_ok n (a0.1, a0.2.1, a0.2.2.1, a0.2.2.2.1, a0.2.2.2.2.1, a0.2.2.2.2.2) _ h3) (by repeat (first | exact leL_refl _ | refine leL_cons (by first | exact leT_refl _ | exact leT_virt | exact leT_junk _ | exact leT_sl | exact leT_sln | exact leT_nil | (refine leT_agg (by repeat (first | exact leL_refl _ | refine leL_cons (by first | exact leT_refl _ | exact leT_sl | exact leT_sln | exact leT_nil) ?_)))) ?_)) ?_
   obtain ⟨v4, h4, h⟩ := bnd_some h
   try simp -implicitDefEqProofs (maxSteps := 4000000) (disch := first | omega | decide | (simp only [go_sem]; omega)) only [go_sem, ↓reduceIte]
   repeat (with_reducible refine And.intro (by first | assumption | omega | (simp; done) | (simp; omega)) ?_)
   refine callD_X (F47_ok n v3 a3 a4 _ h4) (by repeat (first | exact leL_refl _ | refine leL_cons (by first | exact leT_refl _ | exact leT_virt | exact leT_junk _ | exact leT_sl | exact leT_sln | exact leT_nil | (refine leT_agg (by repeat (first | exact leL_refl _ | refine leL_cons (by first | exact leT_refl _ | exact leT_sl | exact leT_sln | exact leT_nil) ?_)))) ?_)) ?_
   try simp -implicitDefEqProofs (maxSteps := 4000000) (disch := first | omega | decide | (simp only [go_sem]; omega)) only [go_sem, ↓reduceIte]
   repeat (with_reducible refine And.intro (by first | assumption | omega | (simp; done) | (simp; omega)) ?_)
   refine toEnd hC ?_
   refine endX_seq ?_
   refine runX_ret ?_
   refine endX_q ?_
   obtain rfl := Option.some.inj h
   show RetR _ _ _ _ _ _ _ _
   simp only [RetR]
   (try simp -implicitDefEqProofs (maxSteps := 4000000) (disch := first | omega | decide | (simp only [go_sem]; omega)) only [go_sem, ↓reduceIte])
   exact ⟨leOs_refl _, leT_refl _⟩
  ·refine guardD_F c2 ?_
   try simp -implicitDefEqProofs (maxSteps := 4000000) (disch := first | omega | decide | (simp only [go_sem]; omega)) only [go_sem, ↓reduceIte]
   repeat (with_reducible refine And.intro (by first | assumption | omega | (simp; done) | (simp; omega)) ?_)
   refine toEnd hC ?_
   refine endX_seq ?_
   refine runX_ret ?_
   refine endX_q ?_
   obtain rfl := Option.some.inj h
   show RetR _ _ _ _ _ _ _ _
   simp only [RetR]
   (try simp -implicitDefEqProofs (maxSteps := 4000000) (disch := first | omega | decide | (simp only [go_sem]; omega)) only [go_sem, ↓reduceIte])
   exact ⟨leOs_refl _, leT_refl _⟩
end Go.Proofs.YtjkfobmfddfjhaaDoorX

set_option linter.unusedVariables false
set_option linter.unusedSimpArgs false
namespace Go.Proofs.YtjkfobmfddfjhaaDoorX
open Go Go.RowKit Go.Proofs
set_option maxRecDepth 100000
attribute [local go_sem ↓] stepsK_build stepsK_bs appendS
attribute [local go_sem] String.reduceEq String.reduceNe reduceCtorEq Int.reduceEq Nat.reduceAdd Nat.reduceSub Nat.reduceMul Nat.reduceLT Nat.reduceLeDiff Nat.reduceEqDiff Nat.reduceBEq Int.reduceToNat Int.reduceLT Int.reduceLE Int.reduceGT Int.reduceGE Int.reduceAdd Int.reduceSub Int.reduceMul Int.reduceNeg Int.reduceBEq Int.reduceBNe Int.reducePow Int.reduceDiv Int.reduceMod Int.reduceTDiv Int.reduceTMod Int.reduceNatCast
/-! ### lifecycle.either[lifecycle.Rule]@lifecycle.Due$1$1+lifecycle.Due$3 -/
def F46000044_S1 (a0 : List ((List UInt8) × (List UInt8) × (Bool) × (Int) × (Int) × (Int))) (x1 : Int) (x2 : List UInt8) (x3 : Int) (x4 : Bool) (x5 : Int) (x6 : Int) (x7 : Int) : St := ⟨[.junk, .fn 45 [.ref 0 0 0 0, .ref 1 0 0 0, .ref 2 0 0 0, .ref 3 0 0 0], .junk, .junk, .junk, .junk, .junk, .sl 6 false (List.map eT55 a0), .imm (.int .i64 (a0.length : Int)), .imm (.int .i64 x1), .junk, .junk, .junk, .junk, .junk, .junk, .junk], [some (.box 4294967354 (.agg [.imm (.string (bs x2)), .imm (.int .i64 x3), .imm (.bool x4), .imm (.int .i64 x5)]) false), some (.box 8589934690 (.fn 49 []) false), some (.box 12884901891 (.imm (.int .i64 x6)) false), some (.box 17179869187 (.imm (.int .i64 x7)) false)]⟩
def F46000044_L1 : Nat → (List ((List UInt8) × (List UInt8) × (Bool) × (Int) × (Int) × (Int))) → (Int) → (List UInt8) → (Int) → (Bool) → (Int) → (Int) → (Int) → Option ((Bool) × ((List UInt8) × (Int) × (Bool) × (Int)) × (Unit) × (Int) × (Int))
 | 0, _, _, _, _, _, _, _, _ => none
 | m1 + 1, a0, x1, x2, x3, x4, x5, x6, x7 => iteB (decide (x1 < (a0.length : Int))) (grd (0 ≤ x1 ∧ x1 < (a0.length : Int)) ((F1000000001000045 m1 ((a0.getD x1.toNat default).1, (a0.getD x1.toNat default).2.1, (a0.getD x1.toNat default).2.2.1, (a0.getD x1.toNat default).2.2.2.1, (a0.getD x1.toNat default).2.2.2.2.1, (a0.getD x1.toNat default).2.2.2.2.2) (x2, x3, x4, x5) () x6 x7).bind fun v10 => iteB v10.1 (some (true, (v10.2.1.1, v10.2.1.2.1, v10.2.1.2.2.1, v10.2.1.2.2.2), (), v10.2.2.2.1, v10.2.2.2.2)) (F46000044_L1 m1 a0 (IntKind.wrap .i64 (x1 + (1 : Int))) v10.2.1.1 v10.2.1.2.1 v10.2.1.2.2.1 v10.2.1.2.2.2 v10.2.2.2.1 v10.2.2.2.2))) (some (false, (x2, x3, x4, x5), (), x6, x7))
def F46000044 (n : Nat) (a0 : List ((List UInt8) × (List UInt8) × (Bool) × (Int) × (Int) × (Int))) (a1_0 : (List UInt8) × (Int) × (Bool) × (Int)) (a1_1 : Unit) (a1_2 : Int) (a1_3 : Int) : Option ((Bool) × ((List UInt8) × (Int) × (Bool) × (Int)) × (Unit) × (Int) × (Int)) := F46000044_L1 n a0 (0 : Int) a1_0.1 a1_0.2.1 a1_0.2.2.1 a1_0.2.2.2 a1_2 a1_3
set_option maxHeartbeats 4000000 in
theorem F46000044_ok : ∀ (n : Nat) (a0 : List ((List UInt8) × (List UInt8) × (Bool) × (Int) × (Int) × (Int))) (a1_0 : (List UInt8) × (Int) × (Bool) × (Int)) (a1_1 : Unit) (a1_2 : Int) (a1_3 : Int) (r : (Bool) × ((List UInt8) × (Int) × (Bool) × (Int)) × (Unit) × (Int) × (Int)), F46000044 n a0 a1_0 a1_1 a1_2 a1_3 = some r → FnR Tryd.prog 44 [some (.box 4294967354 (.agg [.imm (.string (bs a1_0.1)), .imm (.int .i64 a1_0.2.1), .imm (.bool a1_0.2.2.1), .imm (.int .i64 a1_0.2.2.2)]) false), some (.box 8589934690 (.fn 49 []) false), some (.box 12884901891 (.imm (.int .i64 a1_2)) false), some (.box 17179869187 (.imm (.int .i64 a1_3)) false)] [.sl 6 false (List.map eT55 a0), .fn 45 [.ref 0 0 0 0, .ref 1 0 0 0, .ref 2 0 0 0, .ref 3 0 0 0]] (.imm (.bool r.1)) [some (.box 4294967354 (.agg [.imm (.string (bs r.2.1.1)), .imm (.int .i64 r.2.1.2.1), .imm (.bool r.2.1.2.2.1), .imm (.int .i64 r.2.1.2.2.2)]) false), some (.box 8589934690 (.fn 49 []) false), some (.box 12884901891 (.imm (.int .i64 r.2.2.2.1)) false), some (.box 17179869187 (.imm (.int .i64 r.2.2.2.2)) false)]
 | n, a0, a1_0, a1_1, a1_2, a1_3, r, h => by
  unfold F46000044 at h
  refine FnR.goX mixed [4] Tryd.func44 (by kernel_rfl) rfl (by simp [rowsOk, refsC, refsCL, adT_refsC, tagM]) (by simp [sameO]) (by simp [refsC, refsCL]) ?_
  simp only [Tryd.ntmps44, List.length_cons, List.length_nil, List.replicate, List.cons_append, List.nil_append, Nat.reduceAdd, Nat.reduceSub]
  refine runX_seq ?_
  refine runX_regionC fun C hC => ?_
  try simp -implicitDefEqProofs (maxSteps := 4000000) (disch := first | omega | decide | (simp only [go_sem]; omega)) only [go_sem, ↓reduceIte]
  repeat (with_reducible refine And.intro (by first | assumption | omega | (simp; done) | (simp; omega)) ?_)
  refine toEnd hC ?_
  refine endX_seq ?_
  refine runX_seq ?_
  refine runX_seq ?_
  refine runX_regionC fun C hC => ?_
  try simp -implicitDefEqProofs (maxSteps := 4000000) (disch := first | omega | decide | (simp only [go_sem]; omega)) only [go_sem, ↓reduceIte]
  repeat (with_reducible refine And.intro (by first | assumption | omega | (simp; done) | (simp; omega)) ?_)
  refine toEnd hC ?_
  refine endX_seq ?_
  refine runX_block ?_
  refine runX_loop [1, 7, 8, 9] (fun m S => ∃ (x1 : Int) (x2 : List UInt8) (x3 : Int) (x4 : Bool) (x5 : Int) (x6 : Int) (x7 : Int), S = F46000044_S1 a0 x1 x2 x3 x4 x5 x6 x7 ∧ m ≤ n ∧ F46000044_L1 m a0 x1 x2 x3 x4 x5 x6 x7 = some r) n ⟨F46000044_S1 a0 (0 : Int) a1_0.1 a1_0.2.1 a1_0.2.2.1 a1_0.2.2.2 a1_2 a1_3, ?_, (0 : Int), a1_0.1, a1_0.2.1, a1_0.2.2.1, a1_0.2.2.2, a1_2, a1_3, rfl, Nat.le_refl _, h⟩ ?_
  ·simp only [F46000044_S1]
   (try simp -implicitDefEqProofs (maxSteps := 4000000) (disch := first | omega | decide | (simp only [go_sem]; omega)) only [go_sem, ↓reduceIte])
   first | exact leS_refl _ | (refine leS_le ?_ ?_ <;> first | exact leL_refl _ | exact leOs_refl _ | (simp only [List.append_assoc, List.cons_append, List.nil_append]; exact leOs_refl _) | (repeat (first | exact leL_refl _ | refine leL_cons (by first | exact leT_refl _ | exact leT_virt | exact leT_junk _ | exact leT_sl | exact leT_sln | exact leT_nil | (refine leT_agg (by repeat (first | exact leL_refl _ | refine leL_cons (by first | exact leT_refl _ | exact leT_sl | exact leT_sln | exact leT_nil) ?_)))) ?_)))
  ·clear h
   rintro m1 S ⟨x1, x2, x3, x4, x5, x6, x7, rfl, hm1, h⟩
   cases m1 with
   | zero => first | cases (show (none : Option _) = some _ from h) | (rw [F46000044_L1] at h; cases h)
   | succ m1 =>
    rw [F46000044_L1] at h
    simp only [F46000044_S1]
    refine runX_seq ?_
    refine runX_regionC fun C hC => ?_
    try simp -implicitDefEqProofs (maxSteps := 4000000) (disch := first | omega | decide | (simp only [go_sem]; omega)) only [go_sem, ↓reduceIte]
    repeat (with_reducible refine And.intro (by first | assumption | omega | (simp; done) | (simp; omega)) ?_)
    refine toEnd hC ?_
    refine endX_seq ?_
    refine runX_seq ?_
    rcases iteB_some h with ⟨c8, h⟩ | ⟨c8, h⟩
    ·refine runX_condT rfl c8 ?_
     refine runX_skip ?_
     refine endX_seq ?_
     refine runX_seq ?_
     refine runX_block ?_
     refine runX_seq ?_
     refine runX_regionC fun C hC => ?_
     obtain ⟨g9, h⟩ := grd_some h
     try simp -implicitDefEqProofs (maxSteps := 4000000) (disch := first | omega | decide | (simp only [go_sem]; omega)) only [go_sem, ↓reduceIte]
     repeat (with_reducible refine And.intro (by first | assumption | omega | (simp; done) | (simp; omega)) ?_)
     refine toEnd hC ?_
     refine endX_seq ?_
     refine runX_seq ?_
     refine runX_regionC fun C hC => ?_
     obtain ⟨v10, h10, h⟩ := bnd_some h
     try simp -implicitDefEqProofs (maxSteps := 4000000) (disch := first | omega | decide | (simp only [go_sem]; omega)) only [go_sem, ↓reduceIte]
     repeat (with_reducible refine And.intro (by first | assumption | omega | (simp; done) | (simp; omega)) ?_)
     refine callR_X [0, 1, 2, 3] (F1000000001000045_ok m1 ((a0.getD x1.toNat default).1, (a0.getD x1.toNat default).2.1, (a0.getD x1.toNat default).2.2.1, (a0.getD x1.toNat default).2.2.2.1, (a0.getD x1.toNat default).2.2.2.2.1, (a0.getD x1.toNat default).2.2.2.2.2) (x2, x3, x4, x5) () x6 x7 _ h10) (by decide) (by (try simp -implicitDefEqProofs (maxSteps := 4000000) (disch := first | omega | decide | (simp only [go_sem]; omega)) only [go_sem, ↓reduceIte]); repeat (first | exact trivial | refine And.intro ?_ ?_ | exact fun _ => trivial | exact fun _ _ => trivial | exact fun _ _ h => h | rfl | decide)) (by (try simp -implicitDefEqProofs (maxSteps := 4000000) (disch := first | omega | decide | (simp only [go_sem]; omega)) only [go_sem, ↓reduceIte]); repeat (first | exact leL_refl _ | refine leL_cons (by first | exact leT_refl _ | exact leT_virt | exact leT_junk _ | exact leT_sl | exact leT_sln | exact leT_nil | (refine leT_agg (by repeat (first | exact leL_refl _ | refine leL_cons (by first | exact leT_refl _ | exact leT_sl | exact leT_sln | exact leT_nil) ?_)))) ?_)) ?_
     try simp -implicitDefEqProofs (maxSteps := 4000000) (disch := first | omega | decide | (simp only [go_sem]; omega)) only [go_sem, ↓reduceIte]
     repeat (with_reducible refine And.intro (by first | assumption | omega | (simp; done) | (simp; omega)) ?_)
     refine toEnd hC ?_
     refine endX_seq ?_
     rcases iteB_some h with ⟨c11, h⟩ | ⟨c11, h⟩
     ·refine runX_condT rfl c11 ?_
      refine runX_seq ?_
      refine runX_regionC fun C hC => ?_
      try simp -implicitDefEqProofs (maxSteps := 4000000) (disch := first | omega | decide | (simp only [go_sem]; omega)) only [go_sem, ↓reduceIte]
      repeat (with_reducible refine And.intro (by first | assumption | omega | (simp; done) | (simp; omega)) ?_)
      refine toEnd hC ?_
      refine endX_seq ?_
      refine runX_ret ?_
      refine endX_blkR ?_
      refine endX_seqR ?_
      refine endX_q (roundQ_ret ?_)
      refine endX_blkR ?_
      refine endX_seqR ?_
      refine endX_q ?_
      obtain rfl := Option.some.inj h
      show RetR _ _ _ _ _ _ _ _
      simp only [RetR]
      (try simp -implicitDefEqProofs (maxSteps := 4000000) (disch := first | omega | decide | (simp only [go_sem]; omega)) only [go_sem, ↓reduceIte])
      exact ⟨leOs_refl _, leT_refl _⟩
     ·refine runX_condF rfl c11 ?_
      refine runX_skip ?_
      refine endX_blk ?_
      refine endX_seq ?_
      refine runX_regionC fun C hC => ?_
      try simp -implicitDefEqProofs (maxSteps := 4000000) (disch := first | omega | decide | (simp only [go_sem]; omega)) only [go_sem, ↓reduceIte]
      repeat (with_reducible refine And.intro (by first | assumption | omega | (simp; done) | (simp; omega)) ?_)
      refine toEnd hC ?_
      refine endX_q (roundQ_normal ⟨m1, by omega, F46000044_S1 a0 (IntKind.wrap .i64 (x1 + (1 : Int))) v10.2.1.1 v10.2.1.2.1 v10.2.1.2.2.1 v10.2.1.2.2.2 v10.2.2.2.1 v10.2.2.2.2, ?_, (IntKind.wrap .i64 (x1 + (1 : Int))), v10.2.1.1, v10.2.1.2.1, v10.2.1.2.2.1, v10.2.1.2.2.2, v10.2.2.2.1, v10.2.2.2.2, rfl, by omega, h⟩)
      simp only [F46000044_S1]
      (try simp -implicitDefEqProofs (maxSteps := 4000000) (disch := first | omega | decide | (simp only [go_sem]; omega)) only [go_sem, ↓reduceIte])
      first | exact leS_refl _ | (refine leS_le ?_ ?_ <;> first | exact leL_refl _ | exact leOs_refl _ | (simp only [List.append_assoc, List.cons_append, List.nil_append]; exact leOs_refl _) | (repeat (first | exact leL_refl _ | refine leL_cons (by first | exact leT_refl _ | exact leT_virt | exact leT_junk _ | exact leT_sl | exact leT_sln | exact leT_nil | (refine leT_agg (by repeat (first | exact leL_refl _ | refine leL_cons (by first | exact leT_refl _ | exact leT_sl | exact leT_sln | exact leT_nil) ?_)))) ?_)))
    ·refine runX_condF rfl c8 ?_
     refine runX_exit ?_
     refine endX_seqE ?_
     refine endX_q (roundQ_exit ?_)
     refine endX_blkE ?_
     refine endX_seq ?_
     refine runX_seq ?_
     refine runX_regionC fun C hC => ?_
     try simp -implicitDefEqProofs (maxSteps := 4000000) (disch := first | omega | decide | (simp only [go_sem]; omega)) only [go_sem, ↓reduceIte]
     repeat (with_reducible refine And.intro (by first | assumption | omega | (simp; done) | (simp; omega)) ?_)
     refine toEnd hC ?_
     refine endX_seq ?_
     refine runX_ret ?_
     refine endX_q ?_
     obtain rfl := Option.some.inj h
     show RetR _ _ _ _ _ _ _ _
     simp only [RetR]
     (try simp -implicitDefEqProofs (maxSteps := 4000000) (disch := first | omega | decide | (simp only [go_sem]; omega)) only [go_sem, ↓reduceIte])
     exact ⟨leOs_refl _, leT_refl _⟩
end Go.Proofs.YtjkfobmfddfjhaaDoorX

set_option linter.unusedVariables false
set_option linter.unusedSimpArgs false
namespace Go.Proofs.YtjkfobmfddfjhaaDoorX
open Go Go.RowKit Go.Proofs
set_option maxRecDepth 100000
attribute [local go_sem ↓] stepsK_build stepsK_bs appendS
attribute [local go_sem] String.reduceEq String.reduceNe reduceCtorEq Int.reduceEq Nat.reduceAdd Nat.reduceSub Nat.reduceMul Nat.reduceLT Nat.reduceLeDiff Nat.reduceEqDiff Nat.reduceBEq Int.reduceToNat Int.reduceLT Int.reduceLE Int.reduceGT Int.reduceGE Int.reduceAdd Int.reduceSub Int.reduceMul Int.reduceNeg Int.reduceBEq Int.reduceBNe Int.reducePow Int.reduceDiv Int.reduceMod Int.reduceTDiv Int.reduceTMod Int.reduceNatCast
/-! ### lifecycle.Due$1@lifecycle.Due$3 -/
def F50000043 (n : Nat) (a1 : Int) (a2 : List ((List UInt8) × (List UInt8) × (Bool) × (Int) × (Int) × (Int))) (a3 : (List UInt8) × (Int) × (Bool) × (Int)) (a4 : Int) : Option ((Bool) × (List ((List UInt8) × (List UInt8) × (Bool) × (Int) × (Int) × (Int))) × ((List UInt8) × (Int) × (Bool) × (Int)) × (Int)) := (F46000044 n a2 (a3.1, a3.2.1, a3.2.2.1, a3.2.2.2) () a1 a4).bind fun v1 => some (v1.1, a2, (v1.2.1.1, v1.2.1.2.1, v1.2.1.2.2.1, v1.2.1.2.2.2), v1.2.2.2.2)
set_option maxHeartbeats 4000000 in
theorem F50000043_ok : ∀ (n : Nat) (a1 : Int) (a2 : List ((List UInt8) × (List UInt8) × (Bool) × (Int) × (Int) × (Int))) (a3 : (List UInt8) × (Int) × (Bool) × (Int)) (a4 : Int) (r : (Bool) × (List ((List UInt8) × (List UInt8) × (Bool) × (Int) × (Int) × (Int))) × ((List UInt8) × (Int) × (Bool) × (Int)) × (Int)), F50000043 n a1 a2 a3 a4 = some r → FnR Tryd.prog 43 [some (.box 4294967336 (.sl 6 false (List.map eT55 a2)) false), some (.box 8589934650 (.agg [.imm (.string (bs a3.1)), .imm (.int .i64 a3.2.1), .imm (.bool a3.2.2.1), .imm (.int .i64 a3.2.2.2)]) false), some (.box 12884901891 (.imm (.int .i64 a4)) false)] [.fn 49 [], .imm (.int .i64 a1), .ref 0 0 0 0, .ref 1 0 0 0, .ref 2 0 0 0] (.imm (.bool r.1)) [some (.box 4294967336 (.sl 6 false (List.map eT55 r.2.1)) false), some (.box 8589934650 (.agg [.imm (.string (bs r.2.2.1.1)), .imm (.int .i64 r.2.2.1.2.1), .imm (.bool r.2.2.1.2.2.1), .imm (.int .i64 r.2.2.1.2.2.2)]) false), some (.box 12884901891 (.imm (.int .i64 r.2.2.2)) false)]
 | n, a1, a2, a3, a4, r, h => by
  unfold F50000043 at h
  refine FnR.goX mixed [7] Tryd.func43 (by kernel_rfl) rfl (by simp [rowsOk, refsC, refsCL, adT_refsC, tagM]) (by simp [sameO]) (by simp [refsC, refsCL]) ?_
  simp only [Tryd.ntmps43, List.length_cons, List.length_nil, List.replicate, List.cons_append, List.nil_append, Nat.reduceAdd, Nat.reduceSub]
  refine runX_seq ?_
  refine runX_regionC fun C hC => ?_
  try simp -implicitDefEqProofs (maxSteps := 4000000) (disch := first | omega | decide | (simp only [go_sem]; omega)) only [go_sem, ↓reduceIte]
  repeat (with_reducible refine And.intro (by first | assumption | omega | (simp; done) | (simp; omega)) ?_)
  refine toEnd hC ?_
  refine endX_seq ?_
  refine runX_seq ?_
  refine runX_regionC fun C hC => ?_
  obtain ⟨v1, h1, h⟩ := bnd_some h
  try simp -implicitDefEqProofs (maxSteps := 4000000) (disch := first | omega | decide | (simp only [go_sem]; omega)) only [go_sem, ↓reduceIte]
  repeat (with_reducible refine And.intro (by first | assumption | omega | (simp; done) | (simp; omega)) ?_)
  refine callR_X [1, 3, 4, 2] (F46000044_ok n a2 (a3.1, a3.2.1, a3.2.2.1, a3.2.2.2) () a1 a4 _ h1) (by decide) (by (try simp -implicitDefEqProofs (maxSteps := 4000000) (disch := first | omega | decide | (simp only [go_sem]; omega)) only [go_sem, ↓reduceIte]); repeat (first | exact trivial | refine And.intro ?_ ?_ | exact fun _ => trivial | exact fun _ _ => trivial | exact fun _ _ h => h | rfl | decide)) (by (try simp -implicitDefEqProofs (maxSteps := 4000000) (disch := first | omega | decide | (simp only [go_sem]; omega)) only [go_sem, ↓reduceIte]); repeat (first | exact leL_refl _ | refine leL_cons (by first | exact leT_refl _ | exact leT_virt | exact leT_junk _ | exact leT_sl | exact leT_sln | exact leT_nil | (refine leT_agg (by repeat (first | exact leL_refl _ | refine leL_cons (by first | exact leT_refl _ | exact leT_sl | exact leT_sln | exact leT_nil) ?_)))) ?_)) ?_
  try simp -implicitDefEqProofs (maxSteps := 4000000) (disch := first | omega | decide | (simp only [go_sem]; omega)) only [go_sem, ↓reduceIte]
  repeat (with_reducible refine And.intro (by first | assumption | omega | (simp; done) | (simp; omega)) ?_)
  refine toEnd hC ?_
  refine endX_seq ?_
  refine runX_ret ?_
  refine endX_q ?_
  obtain rfl := Option.some.inj h
  show RetR _ _ _ _ _ _ _ _
  simp only [RetR]
  (try simp -implicitDefEqProofs (maxSteps := 4000000) (disch := first | omega | decide | (simp only [go_sem]; omega)) only [go_sem, ↓reduceIte])
  exact ⟨leOs_refl _, leT_refl _⟩
end Go.Proofs.YtjkfobmfddfjhaaDoorX
