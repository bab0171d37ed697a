/- Part of the proof of HeaderQuotes: walks and plain words, merged. -/
import Derived.Test.YtbdkofondpalpaaDoorBHeaderQuotesc
import Derived.Test.YtbdkofondpalpaaDoorRows
import Derived.Test.YtbdkofondpalpaaDoorCards
import Derived.Test.YtbdkofondpalpaaDoorTie
import Derived.Test.YtbdkofondpalpaaDoorChecked
import Derived.WalkKit
import Derived.ProofKit
import Derived.OpenShut
import Derived.Lay
import Derived.LaidMore
import Derived.LaidOnce
import Derived.SevenTiedAt
set_option linter.unusedVariables false
set_option linter.unusedSimpArgs false

set_option linter.unusedVariables false
set_option linter.unusedSimpArgs false
namespace Go.Proofs.YtbdkofondpalpaaDoorX
open Go Go.RowKit Go.Proofs
set_option maxRecDepth 100000
attribute [local go_sem ↓] stepsK_build stepsK_build0 stepsK_bs stepsK_bs0 appendS
attribute [local go_sem] String.reduceEq String.reduceNe reduceCtorEq Int.reduceEq Nat.reduceAdd Nat.reduceSub Nat.reduceMul Nat.reduceLT Nat.reduceLeDiff Nat.reduceEqDiff Nat.reduceBEq Int.reduceToNat Int.reduceLT Int.reduceLE Int.reduceGT Int.reduceGE Int.reduceAdd Int.reduceSub Int.reduceMul Int.reduceNeg Int.reduceBEq Int.reduceBNe Int.reducePow Int.reduceDiv Int.reduceMod Int.reduceTDiv Int.reduceTMod Int.reduceNatCast
/-! ### strings.Index -/
def F115 (n : Nat) (a0 : List UInt8) (a1 : List UInt8) : Option (Int) := (F107 n a0 a1).bind fun v1 => some v1
set_option maxHeartbeats 4000000 in
theorem F115_ok : ∀ (n : Nat) (a0 : List UInt8) (a1 : List UInt8) (r : Int), F115 n a0 a1 = some r → FnC Tryd.prog 115 [.imm (.string (bs a0)), .imm (.string (bs a1))] (.imm (.int .i64 r))
  | n, a0, a1, r, h => by
    unfold F115 at h
    refine FnC.goX mixed Tryd.func115 (by kernel_rfl) rfl ?_
    simp only [Tryd.ntmps115, List.length_cons, List.length_nil, List.replicate, List.cons_append, List.nil_append, Nat.reduceAdd, Nat.reduceSub]
    refine runX_seq ?_
    refine runX_regionC fun C hC => ?_
    try simp -implicitDefEqProofs (maxSteps := 4000000) (disch := first | omega | decide | (simp only [go_sem]; omega)) only [go_sem, ↓reduceIte]
    repeat (with_reducible refine And.intro (by first | assumption | omega | (simp; done) | (simp; omega)) ?_)
    refine toEnd hC ?_
    refine endX_seq ?_
    refine runX_seq ?_
    refine runX_regionC fun C hC => ?_
    obtain ⟨v1, h1, h⟩ := bnd_some h
    try simp -implicitDefEqProofs (maxSteps := 4000000) (disch := first | omega | decide | (simp only [go_sem]; omega)) only [go_sem, ↓reduceIte]
    repeat (with_reducible refine And.intro (by first | assumption | omega | (simp; done) | (simp; omega)) ?_)
    refine callG_X (by first | rfl | (simp only [go_sem]; done) | (simp only [closedL, closedT, Bool.and_true]; exact closedL_map _ (fun _ => by first | rfl | (simp only [go_sem]; done)) _)) (F107_ok n a0 a1 _ h1) (by repeat (first | exact leL_refl _ | refine leL_cons (by first | exact leT_refl _ | exact leT_virt | exact leT_junk _ | exact leT_sl | exact leT_sln | exact leT_nil) ?_)) ?_
    try simp -implicitDefEqProofs (maxSteps := 4000000) (disch := first | omega | decide | (simp only [go_sem]; omega)) only [go_sem, ↓reduceIte]
    repeat (with_reducible refine And.intro (by first | assumption | omega | (simp; done) | (simp; omega)) ?_)
    refine toEnd hC ?_
    refine endX_seq ?_
    refine runX_ret ?_
    refine endX_q ?_
    obtain rfl := Option.some.inj h
    show RetW _ _ _ _ _
    simp only [RetW]
    (try simp -implicitDefEqProofs (maxSteps := 4000000) (disch := first | omega | decide | (simp only [go_sem]; omega)) only [go_sem, ↓reduceIte])
    (try simp (disch := omega) only [if_pos, Nat.sub_zero])
    exact leT_refl _
end Go.Proofs.YtbdkofondpalpaaDoorX

set_option linter.unusedVariables false
set_option linter.unusedSimpArgs false
namespace Go.Proofs.YtbdkofondpalpaaDoorX
open Go Go.RowKit Go.Proofs
set_option maxRecDepth 100000
attribute [local go_sem ↓] stepsK_build stepsK_build0 stepsK_bs stepsK_bs0 appendS
attribute [local go_sem] String.reduceEq String.reduceNe reduceCtorEq Int.reduceEq Nat.reduceAdd Nat.reduceSub Nat.reduceMul Nat.reduceLT Nat.reduceLeDiff Nat.reduceEqDiff Nat.reduceBEq Int.reduceToNat Int.reduceLT Int.reduceLE Int.reduceGT Int.reduceGE Int.reduceAdd Int.reduceSub Int.reduceMul Int.reduceNeg Int.reduceBEq Int.reduceBNe Int.reducePow Int.reduceDiv Int.reduceMod Int.reduceTDiv Int.reduceTMod Int.reduceNatCast
/-! ### strings.genSplit -/
def F83_S3 (a1 : List UInt8) (a2 : Int) (a0 : List UInt8) (x5 : Int) (x8 : List UInt8) (x9 : Int) (x10 : List (List UInt8)) : St := ⟨[.imm (.string (bs x8)), .imm (.string (bs a1)), .imm (.int .i64 a2), .imm (.int .i64 (IntKind.wrap .i64 ((if (IntKind.wrap .i64 ((a0.length : Int) + (1 : Int))) < x5 then (IntKind.wrap .i64 ((a0.length : Int) + (1 : Int))) else x5) - (1 : Int)))), .junk, .junk, .junk, .junk, .junk, .rsl 0 1 0 x10.length, .imm (.int .i64 x9), .junk, .junk, .junk, .junk, .junk, .junk, .junk, .junk, .junk, .junk, .junk, .junk, .junk, .junk, .junk, .junk, .junk, .junk, .junk, .junk, .junk, .junk, .junk, .junk, .junk, .junk, .junk, .junk, .junk, .junk, .junk, .junk, .junk, .junk, .junk, .junk, .junk, .junk, .junk, .junk, .junk, .junk, .junk, .junk, .junk, .junk, .junk, .junk, .junk, .junk, .junk, .junk, .junk, .junk, .junk], [some (.buf 9 1 (List.map eS x10) 0)]⟩
def F83_S2 (x18 : List UInt8) (x19 : Int) (x20 : List (List UInt8)) : St := ⟨[.imm (.string (bs x18)), .junk, .junk, .junk, .junk, .junk, .junk, .junk, .junk, .rsl 0 1 0 x20.length, .imm (.int .i64 x19), .junk, .junk, .junk, .junk, .junk, .junk, .junk, .junk, .junk, .junk, .junk, .junk, .junk, .junk, .junk, .junk, .junk, .junk, .junk, .junk, .junk, .junk, .junk, .junk, .junk, .junk, .junk, .junk, .junk, .junk, .junk, .junk, .junk, .junk, .junk, .junk, .junk, .junk, .junk, .junk, .junk, .junk, .junk, .junk, .junk, .junk, .junk, .junk, .junk, .junk, .junk, .junk, .junk, .junk, .junk], [some (.buf 9 1 (List.map eS x20) 0)]⟩
def F83_S1 (a0 : List UInt8) (a1 : List UInt8) (a2 : Int) (x5 : Int) : St := ⟨[.imm (.string (bs a0)), .imm (.string (bs a1)), .imm (.int .i64 a2), .imm (.int .i64 x5), .junk, .junk, .junk, .junk, .junk, .junk, .junk, .junk, .junk, .junk, .junk, .junk, .junk, .junk, .junk, .junk, .junk, .junk, .junk, .junk, .junk, .junk, .junk, .junk, .junk, .junk, .junk, .junk, .junk, .junk, .junk, .junk, .junk, .junk, .junk, .junk, .junk, .junk, .junk, .junk, .junk, .junk, .junk, .junk, .junk, .junk, .junk, .junk, .junk, .junk, .junk, .junk, .junk, .junk, .junk, .junk, .junk, .junk, .junk, .junk, .junk, .junk], []⟩
mutual
def F83_L3 : Nat → (List UInt8) → (Int) → (List UInt8) → (Int) → (List UInt8) → (Int) → (List (List UInt8)) → Option (List (List UInt8))
  | 0, _, _, _, _, _, _, _ => none
  | m3 + 1, a1, a2, a0, x5, x8, x9, x10 => iteB (decide (x9 < (IntKind.wrap .i64 ((if (IntKind.wrap .i64 ((a0.length : Int) + (1 : Int))) < x5 then (IntKind.wrap .i64 ((a0.length : Int) + (1 : Int))) else x5) - (1 : Int))))) ((F115 m3 x8 a1).bind fun v12 => iteB (decide (v12 < (0 : Int))) (F83_J2 m3 x8 x9 x10) (grd (0 ≤ (IntKind.wrap .i64 (v12 + a2)) ∧ (IntKind.wrap .i64 (v12 + a2)) ≤ (x8.length : Int)) (grd (0 ≤ x9 ∧ x9 < (x10.length : Int)) (grd (x9.toNat < x10.length) (grd (0 ≤ (IntKind.wrap .i64 (v12 + (a1.length : Int))) ∧ (IntKind.wrap .i64 (v12 + (a1.length : Int))) ≤ (x8.length : Int)) (F83_L3 m3 a1 a2 a0 x5 (x8.drop (IntKind.wrap .i64 (v12 + (a1.length : Int))).toNat) (IntKind.wrap .i64 (x9 + (1 : Int))) (List.set x10 x9.toNat (x8.take (IntKind.wrap .i64 (v12 + a2)).toNat)))))))) (F83_J2 m3 x8 x9 x10)
def F83_J2 (n : Nat) (x18 : List UInt8) (x19 : Int) (x20 : List (List UInt8)) : Option (List (List UInt8)) := grd (0 ≤ x19 ∧ x19 < (x20.length : Int)) (grd (x19.toNat < x20.length) (grd (0 ≤ (IntKind.wrap .i64 (x19 + (1 : Int))) ∧ (IntKind.wrap .i64 (x19 + (1 : Int))) ≤ (x20.length : Int)) (some (((List.set x20 x19.toNat x18)).take ((IntKind.wrap .i64 (x19 + (1 : Int))).toNat)))))
def F83_J1 (n : Nat) (a0 : List UInt8) (a1 : List UInt8) (a2 : Int) (x5 : Int) : Option (List (List UInt8)) := grd (0 ≤ (if (IntKind.wrap .i64 ((a0.length : Int) + (1 : Int))) < x5 then (IntKind.wrap .i64 ((a0.length : Int) + (1 : Int))) else x5) ∧ (if (IntKind.wrap .i64 ((a0.length : Int) + (1 : Int))) < x5 then (IntKind.wrap .i64 ((a0.length : Int) + (1 : Int))) else x5) ≤ (if (IntKind.wrap .i64 ((a0.length : Int) + (1 : Int))) < x5 then (IntKind.wrap .i64 ((a0.length : Int) + (1 : Int))) else x5) ∧ (if (IntKind.wrap .i64 ((a0.length : Int) + (1 : Int))) < x5 then (IntKind.wrap .i64 ((a0.length : Int) + (1 : Int))) else x5) ≤ 1099511627776) (F83_L3 n a1 a2 a0 x5 a0 (0 : Int) (List.replicate (if (IntKind.wrap .i64 ((a0.length : Int) + (1 : Int))) < x5 then (IntKind.wrap .i64 ((a0.length : Int) + (1 : Int))) else x5).toNat []))
end
def F83 (n : Nat) (a0 : List UInt8) (a1 : List UInt8) (a2 : Int) (a3 : Int) : Option (List (List UInt8)) := iteB (a3 == (0 : Int)) (some []) (iteB (a1 == []) (none) (iteB (decide (a3 < (0 : Int))) ((F114 n a0 a1).bind fun v4 => F83_J1 n a0 a1 a2 (IntKind.wrap .i64 (v4 + (1 : Int)))) (F83_J1 n a0 a1 a2 a3)))
set_option maxHeartbeats 4000000 in
theorem F83_ok : ∀ (n : Nat) (a0 : List UInt8) (a1 : List UInt8) (a2 : Int) (a3 : Int) (r : List (List UInt8)), F83 n a0 a1 a2 a3 = some r → FnC Tryd.prog 83 [.imm (.string (bs a0)), .imm (.string (bs a1)), .imm (.int .i64 a2), .imm (.int .i64 a3)] (.sl 1 false (List.map eS r))
  | n, a0, a1, a2, a3, r, h => by
    unfold F83 at h
    refine FnC.goX mixed Tryd.func83 (by kernel_rfl) rfl ?_
    simp only [Tryd.ntmps83, List.length_cons, List.length_nil, List.replicate, List.cons_append, List.nil_append, Nat.reduceAdd, Nat.reduceSub]
    refine runX_seq ?_
    refine runX_regionC fun C hC => ?_
    try simp -implicitDefEqProofs (maxSteps := 4000000) (disch := first | omega | decide | (simp only [go_sem]; omega)) only [go_sem, ↓reduceIte]
    repeat (with_reducible refine And.intro (by first | assumption | omega | (simp; done) | (simp; omega)) ?_)
    refine toEnd hC ?_
    refine endX_seq ?_
    refine runX_seq ?_
    refine runX_seq ?_
    refine runX_regionC fun C hC => ?_
    try simp -implicitDefEqProofs (maxSteps := 4000000) (disch := first | omega | decide | (simp only [go_sem]; omega)) only [go_sem, ↓reduceIte]
    repeat (with_reducible refine And.intro (by first | assumption | omega | (simp; done) | (simp; omega)) ?_)
    refine toEnd hC ?_
    refine endX_seq ?_
    rcases iteB_some h with ⟨c1, h⟩ | ⟨c1, h⟩
    · refine runX_condT rfl c1 ?_
      refine runX_seq ?_
      refine runX_regionC fun C hC => ?_
      try simp -implicitDefEqProofs (maxSteps := 4000000) (disch := first | omega | decide | (simp only [go_sem]; omega)) only [go_sem, ↓reduceIte]
      repeat (with_reducible refine And.intro (by first | assumption | omega | (simp; done) | (simp; omega)) ?_)
      refine toEnd hC ?_
      refine endX_seq ?_
      refine runX_ret ?_
      refine endX_seqR ?_
      refine endX_q ?_
      obtain rfl := Option.some.inj h
      show RetW _ _ _ _ _
      simp only [RetW]
      (try simp -implicitDefEqProofs (maxSteps := 4000000) (disch := first | omega | decide | (simp only [go_sem]; omega)) only [go_sem, ↓reduceIte])
      (try simp (disch := omega) only [if_pos, Nat.sub_zero])
      first | exact leT_refl _ | (refine ⟨rfl, ?_⟩; first | exact leT_refl _ | exact leT_sl | exact leT_sln | exact leT_nil | (refine leT_tup (by repeat (first | exact leL_refl _ | refine leL_cons (by first | exact leT_refl _ | exact leT_virt | exact leT_junk _ | exact leT_sl | exact leT_sln | exact leT_nil) ?_))) | (refine leT_agg (by repeat (first | exact leL_refl _ | refine leL_cons (by first | exact leT_refl _ | exact leT_virt | exact leT_junk _ | exact leT_sl | exact leT_sln | exact leT_nil) ?_)))) | (first | exact leT_refl _ | exact leT_sl | exact leT_sln | exact leT_nil | (refine leT_tup (by repeat (first | exact leL_refl _ | refine leL_cons (by first | exact leT_refl _ | exact leT_virt | exact leT_junk _ | exact leT_sl | exact leT_sln | exact leT_nil) ?_))) | (refine leT_agg (by repeat (first | exact leL_refl _ | refine leL_cons (by first | exact leT_refl _ | exact leT_virt | exact leT_junk _ | exact leT_sl | exact leT_sln | exact leT_nil) ?_)))) | (simp only [List.append_assoc, List.cons_append, List.nil_append]; exact leT_refl _) | (rw [List.take_of_length_le (by simp)]; (try simp only [List.append_assoc, List.cons_append, List.nil_append]); exact leT_refl _)
    · refine runX_condF rfl c1 ?_
      refine runX_skip ?_
      refine endX_seq ?_
      refine runX_seq ?_
      refine runX_seq ?_
      refine runX_regionC fun C hC => ?_
      try simp -implicitDefEqProofs (maxSteps := 4000000) (disch := first | omega | decide | (simp only [go_sem]; omega)) only [go_sem, ↓reduceIte]
      repeat (with_reducible refine And.intro (by first | assumption | omega | (simp; done) | (simp; omega)) ?_)
      refine toEnd hC ?_
      refine endX_seq ?_
      rcases iteB_some h with ⟨c2, h⟩ | ⟨c2, h⟩
      · refine runX_condT rfl c2 ?_
        cases h
      · refine runX_condF rfl c2 ?_
        refine runX_skip ?_
        refine endX_seq ?_
        refine runX_meet [0, 1, 2, 3] (fun S => ∃ (x5 : Int), S = F83_S1 a0 a1 a2 x5 ∧ F83_J1 n a0 a1 a2 x5 = some r) ?_ ?_
        · refine runX_seq ?_
          refine runX_regionC fun C hC => ?_
          try simp -implicitDefEqProofs (maxSteps := 4000000) (disch := first | omega | decide | (simp only [go_sem]; omega)) only [go_sem, ↓reduceIte]
          repeat (with_reducible refine And.intro (by first | assumption | omega | (simp; done) | (simp; omega)) ?_)
          refine toEnd hC ?_
          refine endX_seq ?_
          rcases iteB_some h with ⟨c3, h⟩ | ⟨c3, h⟩
          · refine runX_condT rfl c3 ?_
            refine runX_regionC fun C hC => ?_
            obtain ⟨v4, h4, h⟩ := bnd_some h
            try simp -implicitDefEqProofs (maxSteps := 4000000) (disch := first | omega | decide | (simp only [go_sem]; omega)) only [go_sem, ↓reduceIte]
            repeat (with_reducible refine And.intro (by first | assumption | omega | (simp; done) | (simp; omega)) ?_)
            refine callG_X (by first | rfl | (simp only [go_sem]; done) | (simp only [closedL, closedT, Bool.and_true]; exact closedL_map _ (fun _ => by first | rfl | (simp only [go_sem]; done)) _)) (F114_ok n a0 a1 _ h4) (by repeat (first | exact leL_refl _ | refine leL_cons (by first | exact leT_refl _ | exact leT_virt | exact leT_junk _ | exact leT_sl | exact leT_sln | exact leT_nil) ?_)) ?_
            try simp -implicitDefEqProofs (maxSteps := 4000000) (disch := first | omega | decide | (simp only [go_sem]; omega)) only [go_sem, ↓reduceIte]
            repeat (with_reducible refine And.intro (by first | assumption | omega | (simp; done) | (simp; omega)) ?_)
            refine toEnd hC ?_
            refine endX_q (meetQ_normal ⟨F83_S1 a0 a1 a2 (IntKind.wrap .i64 (v4 + (1 : Int))), ?_, (IntKind.wrap .i64 (v4 + (1 : Int))), rfl, h⟩)
            simp only [F83_S1]
            (try simp -implicitDefEqProofs (maxSteps := 4000000) (disch := first | omega | decide | (simp only [go_sem]; omega)) only [go_sem, ↓reduceIte])
            first | exact leS_refl _ | (refine leS_le ?_ ?_ <;> first | exact leL_refl _ | exact leOs_refl _ | (repeat (first | exact leL_refl _ | refine leL_cons (by first | exact leT_refl _ | exact leT_virt | exact leT_junk _ | exact leT_sl | exact leT_sln | exact leT_nil) ?_)))
          · refine runX_condF rfl c3 ?_
            refine runX_skip ?_
            refine endX_q (meetQ_normal ⟨F83_S1 a0 a1 a2 a3, ?_, a3, rfl, h⟩)
            simp only [F83_S1]
            (try simp -implicitDefEqProofs (maxSteps := 4000000) (disch := first | omega | decide | (simp only [go_sem]; omega)) only [go_sem, ↓reduceIte])
            first | exact leS_refl _ | (refine leS_le ?_ ?_ <;> first | exact leL_refl _ | exact leOs_refl _ | (repeat (first | exact leL_refl _ | refine leL_cons (by first | exact leT_refl _ | exact leT_virt | exact leT_junk _ | exact leT_sl | exact leT_sln | exact leT_nil) ?_)))
        · clear h
          rintro S ⟨x5, rfl, h⟩
          rw [F83_J1] at h
          simp only [F83_S1]
          refine runX_seq ?_
          refine runX_regionC fun C hC => ?_
          try simp -implicitDefEqProofs (maxSteps := 4000000) (disch := first | omega | decide | (simp only [go_sem]; omega)) only [go_sem, ↓reduceIte]
          repeat (with_reducible refine And.intro (by first | assumption | omega | (simp; done) | (simp; omega)) ?_)
          refine toEnd hC ?_
          refine endX_seq ?_
          refine runX_seq ?_
          refine runX_regionC fun C hC => ?_
          obtain ⟨g6, h⟩ := grd_some h
          have e7 : List.replicate (if (IntKind.wrap .i64 ((a0.length : Int) + (1 : Int))) < x5 then (IntKind.wrap .i64 ((a0.length : Int) + (1 : Int))) else x5).toNat (T.imm (.string (bs []))) = List.map eS (List.replicate (if (IntKind.wrap .i64 ((a0.length : Int) + (1 : Int))) < x5 then (IntKind.wrap .i64 ((a0.length : Int) + (1 : Int))) else x5).toNat []) := rep_s (if (IntKind.wrap .i64 ((a0.length : Int) + (1 : Int))) < x5 then (IntKind.wrap .i64 ((a0.length : Int) + (1 : Int))) else x5).toNat ([] : List UInt8)
          try simp -implicitDefEqProofs (maxSteps := 4000000) (disch := first | omega | decide | (simp only [go_sem]; omega)) only [go_sem, ↓reduceIte, e7]
          repeat (with_reducible refine And.intro (by first | assumption | omega | (simp; done) | (simp; omega)) ?_)
          refine toEnd hC ?_
          refine endX_seq ?_
          refine runX_seq ?_
          refine runX_regionC fun C hC => ?_
          try simp -implicitDefEqProofs (maxSteps := 4000000) (disch := first | omega | decide | (simp only [go_sem]; omega)) only [go_sem, ↓reduceIte]
          repeat (with_reducible refine And.intro (by first | assumption | omega | (simp; done) | (simp; omega)) ?_)
          refine toEnd hC ?_
          refine endX_seq ?_
          refine runX_seq ?_
          refine runX_regionC fun C hC => ?_
          try simp -implicitDefEqProofs (maxSteps := 4000000) (disch := first | omega | decide | (simp only [go_sem]; omega)) only [go_sem, ↓reduceIte]
          repeat (with_reducible refine And.intro (by first | assumption | omega | (simp; done) | (simp; omega)) ?_)
          refine toEnd hC ?_
          refine endX_seq ?_
          refine runX_meet [0, 9, 10] (fun S => ∃ (x18 : List UInt8) (x19 : Int) (x20 : List (List UInt8)), S = F83_S2 x18 x19 x20 ∧ F83_J2 n x18 x19 x20 = some r) ?_ ?_
          · refine runX_block ?_
            refine runX_loop [0, 1, 2, 3, 9, 10] (fun m S => ∃ (x8 : List UInt8) (x9 : Int) (x10 : List (List UInt8)), S = F83_S3 a1 a2 a0 x5 x8 x9 x10 ∧ m ≤ n ∧ F83_L3 m a1 a2 a0 x5 x8 x9 x10 = some r) n ⟨F83_S3 a1 a2 a0 x5 a0 (0 : Int) (List.replicate (if (IntKind.wrap .i64 ((a0.length : Int) + (1 : Int))) < x5 then (IntKind.wrap .i64 ((a0.length : Int) + (1 : Int))) else x5).toNat []), ?_, a0, (0 : Int), (List.replicate (if (IntKind.wrap .i64 ((a0.length : Int) + (1 : Int))) < x5 then (IntKind.wrap .i64 ((a0.length : Int) + (1 : Int))) else x5).toNat []), rfl, Nat.le_refl _, h⟩ ?_
            · simp only [F83_S3]
              (try simp -implicitDefEqProofs (maxSteps := 4000000) (disch := first | omega | decide | (simp only [go_sem]; omega)) only [go_sem, ↓reduceIte])
              first | exact leS_refl _ | (refine leS_le ?_ ?_ <;> first | exact leL_refl _ | exact leOs_refl _ | (repeat (first | exact leL_refl _ | refine leL_cons (by first | exact leT_refl _ | exact leT_virt | exact leT_junk _ | exact leT_sl | exact leT_sln | exact leT_nil) ?_)))
            · clear h
              rintro m3 S ⟨x8, x9, x10, rfl, hm3, h⟩
              cases m3 with
              | zero => first | cases (show (none : Option _) = some _ from h) | (rw [F83_L3] at h; cases h)
              | succ m3 =>
                rw [F83_L3] at h
                simp only [F83_S3]
                refine runX_seq ?_
                refine runX_seq ?_
                refine runX_regionC fun C hC => ?_
                try simp -implicitDefEqProofs (maxSteps := 4000000) (disch := first | omega | decide | (simp only [go_sem]; omega)) only [go_sem, ↓reduceIte]
                repeat (with_reducible refine And.intro (by first | assumption | omega | (simp; done) | (simp; omega)) ?_)
                refine toEnd hC ?_
                refine endX_seq ?_
                rcases iteB_some h with ⟨c11, h⟩ | ⟨c11, h⟩
                · refine runX_condT rfl c11 ?_
                  refine runX_skip ?_
                  refine endX_seq ?_
                  refine runX_block ?_
                  refine runX_seq ?_
                  refine runX_regionC fun C hC => ?_
                  obtain ⟨v12, h12, h⟩ := bnd_some h
                  try simp -implicitDefEqProofs (maxSteps := 4000000) (disch := first | omega | decide | (simp only [go_sem]; omega)) only [go_sem, ↓reduceIte]
                  repeat (with_reducible refine And.intro (by first | assumption | omega | (simp; done) | (simp; omega)) ?_)
                  refine callG_X (by first | rfl | (simp only [go_sem]; done) | (simp only [closedL, closedT, Bool.and_true]; exact closedL_map _ (fun _ => by first | rfl | (simp only [go_sem]; done)) _)) (F115_ok m3 x8 a1 _ h12) (by repeat (first | exact leL_refl _ | refine leL_cons (by first | exact leT_refl _ | exact leT_virt | exact leT_junk _ | exact leT_sl | exact leT_sln | exact leT_nil) ?_)) ?_
                  try simp -implicitDefEqProofs (maxSteps := 4000000) (disch := first | omega | decide | (simp only [go_sem]; omega)) only [go_sem, ↓reduceIte]
                  repeat (with_reducible refine And.intro (by first | assumption | omega | (simp; done) | (simp; omega)) ?_)
                  refine toEnd hC ?_
                  refine endX_seq ?_
                  refine runX_seq ?_
                  refine runX_seq ?_
                  refine runX_regionC fun C hC => ?_
                  try simp -implicitDefEqProofs (maxSteps := 4000000) (disch := first | omega | decide | (simp only [go_sem]; omega)) only [go_sem, ↓reduceIte]
                  repeat (with_reducible refine And.intro (by first | assumption | omega | (simp; done) | (simp; omega)) ?_)
                  refine toEnd hC ?_
                  refine endX_seq ?_
                  rcases iteB_some h with ⟨c13, h⟩ | ⟨c13, h⟩
                  · refine runX_condT rfl c13 ?_
                    refine runX_exit ?_
                    refine endX_seqE ?_
                    refine endX_blkO (by decide) ?_
                    refine endX_q (roundQ_exit ?_)
                    refine endX_blkE ?_
                    refine endX_q (meetQ_normal ⟨F83_S2 x8 x9 x10, ?_, x8, x9, x10, rfl, h⟩)
                    simp only [F83_S2]
                    (try simp -implicitDefEqProofs (maxSteps := 4000000) (disch := first | omega | decide | (simp only [go_sem]; omega)) only [go_sem, ↓reduceIte])
                    first | exact leS_refl _ | (refine leS_le ?_ ?_ <;> first | exact leL_refl _ | exact leOs_refl _ | (repeat (first | exact leL_refl _ | refine leL_cons (by first | exact leT_refl _ | exact leT_virt | exact leT_junk _ | exact leT_sl | exact leT_sln | exact leT_nil) ?_)))
                  · refine runX_condF rfl c13 ?_
                    refine runX_skip ?_
                    refine endX_seq ?_
                    refine runX_seq ?_
                    refine runX_regionC fun C hC => ?_
                    obtain ⟨g14, h⟩ := grd_some h
                    obtain ⟨g15, h⟩ := grd_some h
                    obtain ⟨g16, h⟩ := grd_some h
                    try simp -implicitDefEqProofs (maxSteps := 4000000) (disch := first | omega | decide | (simp only [go_sem]; omega)) only [go_sem, ↓reduceIte]
                    repeat (with_reducible refine And.intro (by first | assumption | omega | (simp; done) | (simp; omega)) ?_)
                    refine toEnd hC ?_
                    refine endX_seq ?_
                    refine runX_seq ?_
                    refine runX_regionC fun C hC => ?_
                    obtain ⟨g17, h⟩ := grd_some h
                    try simp -implicitDefEqProofs (maxSteps := 4000000) (disch := first | omega | decide | (simp only [go_sem]; omega)) only [go_sem, ↓reduceIte]
                    repeat (with_reducible refine And.intro (by first | assumption | omega | (simp; done) | (simp; omega)) ?_)
                    refine toEnd hC ?_
                    refine endX_seq ?_
                    refine runX_regionC fun C hC => ?_
                    try simp -implicitDefEqProofs (maxSteps := 4000000) (disch := first | omega | decide | (simp only [go_sem]; omega)) only [go_sem, ↓reduceIte]
                    repeat (with_reducible refine And.intro (by first | assumption | omega | (simp; done) | (simp; omega)) ?_)
                    refine toEnd hC ?_
                    refine endX_blk ?_
                    refine endX_q (roundQ_normal ⟨m3, by omega, F83_S3 a1 a2 a0 x5 (x8.drop (IntKind.wrap .i64 (v12 + (a1.length : Int))).toNat) (IntKind.wrap .i64 (x9 + (1 : Int))) (List.set x10 x9.toNat (x8.take (IntKind.wrap .i64 (v12 + a2)).toNat)), ?_, (x8.drop (IntKind.wrap .i64 (v12 + (a1.length : Int))).toNat), (IntKind.wrap .i64 (x9 + (1 : Int))), (List.set x10 x9.toNat (x8.take (IntKind.wrap .i64 (v12 + a2)).toNat)), rfl, by omega, h⟩)
                    simp only [F83_S3]
                    (try simp -implicitDefEqProofs (maxSteps := 4000000) (disch := first | omega | decide | (simp only [go_sem]; omega)) only [go_sem, ↓reduceIte])
                    first | exact leS_refl _ | (refine leS_le ?_ ?_ <;> first | exact leL_refl _ | exact leOs_refl _ | (repeat (first | exact leL_refl _ | refine leL_cons (by first | exact leT_refl _ | exact leT_virt | exact leT_junk _ | exact leT_sl | exact leT_sln | exact leT_nil) ?_)))
                · refine runX_condF rfl c11 ?_
                  refine runX_exit ?_
                  refine endX_seqE ?_
                  refine endX_q (roundQ_exit ?_)
                  refine endX_blkE ?_
                  refine endX_q (meetQ_normal ⟨F83_S2 x8 x9 x10, ?_, x8, x9, x10, rfl, h⟩)
                  simp only [F83_S2]
                  (try simp -implicitDefEqProofs (maxSteps := 4000000) (disch := first | omega | decide | (simp only [go_sem]; omega)) only [go_sem, ↓reduceIte])
                  first | exact leS_refl _ | (refine leS_le ?_ ?_ <;> first | exact leL_refl _ | exact leOs_refl _ | (repeat (first | exact leL_refl _ | refine leL_cons (by first | exact leT_refl _ | exact leT_virt | exact leT_junk _ | exact leT_sl | exact leT_sln | exact leT_nil) ?_)))
          · clear h
            rintro S ⟨x18, x19, x20, rfl, h⟩
            rw [F83_J2] at h
            simp only [F83_S2]
            refine runX_seq ?_
            refine runX_regionC fun C hC => ?_
            obtain ⟨g21, h⟩ := grd_some h
            obtain ⟨g22, h⟩ := grd_some h
            try simp -implicitDefEqProofs (maxSteps := 4000000) (disch := first | omega | decide | (simp only [go_sem]; omega)) only [go_sem, ↓reduceIte]
            repeat (with_reducible refine And.intro (by first | assumption | omega | (simp; done) | (simp; omega)) ?_)
            refine toEnd hC ?_
            refine endX_seq ?_
            refine runX_seq ?_
            refine runX_regionC fun C hC => ?_
            obtain ⟨g23, h⟩ := grd_some h
            try simp -implicitDefEqProofs (maxSteps := 4000000) (disch := first | omega | decide | (simp only [go_sem]; omega)) only [go_sem, ↓reduceIte]
            repeat (with_reducible refine And.intro (by first | assumption | omega | (simp; done) | (simp; omega)) ?_)
            refine toEnd hC ?_
            refine endX_seq ?_
            refine runX_ret ?_
            refine endX_q ?_
            obtain rfl := Option.some.inj h
            show RetW _ _ _ _ _
            simp only [RetW]
            (try simp -implicitDefEqProofs (maxSteps := 4000000) (disch := first | omega | decide | (simp only [go_sem]; omega)) only [go_sem, ↓reduceIte])
            (try simp (disch := omega) only [if_pos, Nat.sub_zero])
            first | exact leT_refl _ | (refine ⟨rfl, ?_⟩; first | exact leT_refl _ | exact leT_sl | exact leT_sln | exact leT_nil | (refine leT_tup (by repeat (first | exact leL_refl _ | refine leL_cons (by first | exact leT_refl _ | exact leT_virt | exact leT_junk _ | exact leT_sl | exact leT_sln | exact leT_nil) ?_))) | (refine leT_agg (by repeat (first | exact leL_refl _ | refine leL_cons (by first | exact leT_refl _ | exact leT_virt | exact leT_junk _ | exact leT_sl | exact leT_sln | exact leT_nil) ?_)))) | (first | exact leT_refl _ | exact leT_sl | exact leT_sln | exact leT_nil | (refine leT_tup (by repeat (first | exact leL_refl _ | refine leL_cons (by first | exact leT_refl _ | exact leT_virt | exact leT_junk _ | exact leT_sl | exact leT_sln | exact leT_nil) ?_))) | (refine leT_agg (by repeat (first | exact leL_refl _ | refine leL_cons (by first | exact leT_refl _ | exact leT_virt | exact leT_junk _ | exact leT_sl | exact leT_sln | exact leT_nil) ?_)))) | (simp only [List.append_assoc, List.cons_append, List.nil_append]; exact leT_refl _) | (rw [List.take_of_length_le (by simp)]; (try simp only [List.append_assoc, List.cons_append, List.nil_append]); exact leT_refl _)
end Go.Proofs.YtbdkofondpalpaaDoorX

set_option linter.unusedVariables false
set_option linter.unusedSimpArgs false
namespace Go.Proofs.YtbdkofondpalpaaDoorX
open Go Go.RowKit Go.Proofs
set_option maxRecDepth 100000
attribute [local go_sem ↓] stepsK_build stepsK_build0 stepsK_bs stepsK_bs0 appendS
attribute [local go_sem] String.reduceEq String.reduceNe reduceCtorEq Int.reduceEq Nat.reduceAdd Nat.reduceSub Nat.reduceMul Nat.reduceLT Nat.reduceLeDiff Nat.reduceEqDiff Nat.reduceBEq Int.reduceToNat Int.reduceLT Int.reduceLE Int.reduceGT Int.reduceGE Int.reduceAdd Int.reduceSub Int.reduceMul Int.reduceNeg Int.reduceBEq Int.reduceBNe Int.reducePow Int.reduceDiv Int.reduceMod Int.reduceTDiv Int.reduceTMod Int.reduceNatCast
/-! ### strings.Split -/
def F48 (n : Nat) (a0 : List UInt8) (a1 : List UInt8) : Option (List (List UInt8)) := (F83 n a0 a1 (0 : Int) (-1 : Int)).bind fun v1 => some v1
set_option maxHeartbeats 4000000 in
theorem F48_ok : ∀ (n : Nat) (a0 : List UInt8) (a1 : List UInt8) (r : List (List UInt8)), F48 n a0 a1 = some r → FnC Tryd.prog 48 [.imm (.string (bs a0)), .imm (.string (bs a1))] (.sl 1 false (List.map eS r))
  | n, a0, a1, r, h => by
    unfold F48 at h
    refine FnC.goX mixed Tryd.func48 (by kernel_rfl) rfl ?_
    simp only [Tryd.ntmps48, List.length_cons, List.length_nil, List.replicate, List.cons_append, List.nil_append, Nat.reduceAdd, Nat.reduceSub]
    refine runX_seq ?_
    refine runX_regionC fun C hC => ?_
    try simp -implicitDefEqProofs (maxSteps := 4000000) (disch := first | omega | decide | (simp only [go_sem]; omega)) only [go_sem, ↓reduceIte]
    repeat (with_reducible refine And.intro (by first | assumption | omega | (simp; done) | (simp; omega)) ?_)
    refine toEnd hC ?_
    refine endX_seq ?_
    refine runX_seq ?_
    refine runX_regionC fun C hC => ?_
    obtain ⟨v1, h1, h⟩ := bnd_some h
    try simp -implicitDefEqProofs (maxSteps := 4000000) (disch := first | omega | decide | (simp only [go_sem]; omega)) only [go_sem, ↓reduceIte]
    repeat (with_reducible refine And.intro (by first | assumption | omega | (simp; done) | (simp; omega)) ?_)
    refine callG_X (by first | rfl | (simp only [go_sem]; done) | (simp only [closedL, closedT, Bool.and_true]; exact closedL_map _ (fun _ => by first | rfl | (simp only [go_sem]; done)) _)) (F83_ok n a0 a1 (0 : Int) (-1 : Int) _ h1) (by repeat (first | exact leL_refl _ | refine leL_cons (by first | exact leT_refl _ | exact leT_virt | exact leT_junk _ | exact leT_sl | exact leT_sln | exact leT_nil) ?_)) ?_
    try simp -implicitDefEqProofs (maxSteps := 4000000) (disch := first | omega | decide | (simp only [go_sem]; omega)) only [go_sem, ↓reduceIte]
    repeat (with_reducible refine And.intro (by first | assumption | omega | (simp; done) | (simp; omega)) ?_)
    refine toEnd hC ?_
    refine endX_seq ?_
    refine runX_ret ?_
    refine endX_q ?_
    obtain rfl := Option.some.inj h
    show RetW _ _ _ _ _
    simp only [RetW]
    (try simp -implicitDefEqProofs (maxSteps := 4000000) (disch := first | omega | decide | (simp only [go_sem]; omega)) only [go_sem, ↓reduceIte])
    (try simp (disch := omega) only [if_pos, Nat.sub_zero])
    exact leT_refl _
end Go.Proofs.YtbdkofondpalpaaDoorX

set_option linter.unusedVariables false
set_option linter.unusedSimpArgs false
namespace Go.Proofs.YtbdkofondpalpaaDoorX
open Go Go.RowKit Go.Proofs
set_option maxRecDepth 100000
attribute [local go_sem ↓] stepsK_build stepsK_build0 stepsK_bs stepsK_bs0 appendS
attribute [local go_sem] String.reduceEq String.reduceNe reduceCtorEq Int.reduceEq Nat.reduceAdd Nat.reduceSub Nat.reduceMul Nat.reduceLT Nat.reduceLeDiff Nat.reduceEqDiff Nat.reduceBEq Int.reduceToNat Int.reduceLT Int.reduceLE Int.reduceGT Int.reduceGE Int.reduceAdd Int.reduceSub Int.reduceMul Int.reduceNeg Int.reduceBEq Int.reduceBNe Int.reducePow Int.reduceDiv Int.reduceMod Int.reduceTDiv Int.reduceTMod Int.reduceNatCast
/-! ### internal/stringslite.Cut -/
def F74 (n : Nat) (a0 : List UInt8) (a1 : List UInt8) : Option ((List UInt8) × (List UInt8) × (Bool)) := (F107 n a0 a1).bind fun v1 => iteB (decide ((0 : Int) ≤ v1)) (grd (0 ≤ v1 ∧ v1 ≤ (a0.length : Int)) (grd (0 ≤ (IntKind.wrap .i64 (v1 + (a1.length : Int))) ∧ (IntKind.wrap .i64 (v1 + (a1.length : Int))) ≤ (a0.length : Int)) (some ((a0.take v1.toNat), (a0.drop (IntKind.wrap .i64 (v1 + (a1.length : Int))).toNat), true)))) (some (a0, [], false))
set_option maxHeartbeats 4000000 in
theorem F74_ok : ∀ (n : Nat) (a0 : List UInt8) (a1 : List UInt8) (r : (List UInt8) × (List UInt8) × (Bool)), F74 n a0 a1 = some r → FnC Tryd.prog 74 [.imm (.string (bs a0)), .imm (.string (bs a1))] (.tup [.imm (.string (bs r.1)), .imm (.string (bs r.2.1)), .imm (.bool r.2.2)])
  | n, a0, a1, r, h => by
    unfold F74 at h
    refine FnC.goX mixed Tryd.func74 (by kernel_rfl) rfl ?_
    simp only [Tryd.ntmps74, List.length_cons, List.length_nil, List.replicate, List.cons_append, List.nil_append, Nat.reduceAdd, Nat.reduceSub]
    refine runX_seq ?_
    refine runX_regionC fun C hC => ?_
    try simp -implicitDefEqProofs (maxSteps := 4000000) (disch := first | omega | decide | (simp only [go_sem]; omega)) only [go_sem, ↓reduceIte]
    repeat (with_reducible refine And.intro (by first | assumption | omega | (simp; done) | (simp; omega)) ?_)
    refine toEnd hC ?_
    refine endX_seq ?_
    refine runX_seq ?_
    refine runX_seq ?_
    refine runX_regionC fun C hC => ?_
    obtain ⟨v1, h1, h⟩ := bnd_some h
    try simp -implicitDefEqProofs (maxSteps := 4000000) (disch := first | omega | decide | (simp only [go_sem]; omega)) only [go_sem, ↓reduceIte]
    repeat (with_reducible refine And.intro (by first | assumption | omega | (simp; done) | (simp; omega)) ?_)
    refine callG_X (by first | rfl | (simp only [go_sem]; done) | (simp only [closedL, closedT, Bool.and_true]; exact closedL_map _ (fun _ => by first | rfl | (simp only [go_sem]; done)) _)) (F107_ok n a0 a1 _ h1) (by repeat (first | exact leL_refl _ | refine leL_cons (by first | exact leT_refl _ | exact leT_virt | exact leT_junk _ | exact leT_sl | exact leT_sln | exact leT_nil) ?_)) ?_
    try simp -implicitDefEqProofs (maxSteps := 4000000) (disch := first | omega | decide | (simp only [go_sem]; omega)) only [go_sem, ↓reduceIte]
    repeat (with_reducible refine And.intro (by first | assumption | omega | (simp; done) | (simp; omega)) ?_)
    refine toEnd hC ?_
    refine endX_seq ?_
    refine runX_seq ?_
    refine runX_regionC fun C hC => ?_
    try simp -implicitDefEqProofs (maxSteps := 4000000) (disch := first | omega | decide | (simp only [go_sem]; omega)) only [go_sem, ↓reduceIte]
    repeat (with_reducible refine And.intro (by first | assumption | omega | (simp; done) | (simp; omega)) ?_)
    refine toEnd hC ?_
    refine endX_seq ?_
    rcases iteB_some h with ⟨c2, h⟩ | ⟨c2, h⟩
    · refine runX_condT rfl c2 ?_
      refine runX_seq ?_
      refine runX_drawC mixed (by kernel_rfl) fun C hC => ?_
      obtain ⟨g3, h⟩ := grd_some h
      obtain ⟨g4, h⟩ := grd_some h
      try simp -implicitDefEqProofs (maxSteps := 4000000) (disch := first | omega | decide | (simp only [go_sem]; omega)) only [go_sem, ↓reduceIte]
      repeat (with_reducible refine And.intro (by first | assumption | omega | (simp; done) | (simp; omega)) ?_)
      refine toEnd hC ?_
      refine endX_seq ?_
      refine runX_ret ?_
      refine endX_seqR ?_
      refine endX_q ?_
      obtain rfl := Option.some.inj h
      show RetW _ _ _ _ _
      simp only [RetW]
      (try simp -implicitDefEqProofs (maxSteps := 4000000) (disch := first | omega | decide | (simp only [go_sem]; omega)) only [go_sem, ↓reduceIte])
      (try simp (disch := omega) only [if_pos, Nat.sub_zero])
      exact leT_refl _
    · refine runX_condF rfl c2 ?_
      refine runX_skip ?_
      refine endX_seq ?_
      refine runX_seq ?_
      refine runX_regionC fun C hC => ?_
      try simp -implicitDefEqProofs (maxSteps := 4000000) (disch := first | omega | decide | (simp only [go_sem]; omega)) only [go_sem, ↓reduceIte]
      repeat (with_reducible refine And.intro (by first | assumption | omega | (simp; done) | (simp; omega)) ?_)
      refine toEnd hC ?_
      refine endX_seq ?_
      refine runX_ret ?_
      refine endX_q ?_
      obtain rfl := Option.some.inj h
      show RetW _ _ _ _ _
      simp only [RetW]
      (try simp -implicitDefEqProofs (maxSteps := 4000000) (disch := first | omega | decide | (simp only [go_sem]; omega)) only [go_sem, ↓reduceIte])
      (try simp (disch := omega) only [if_pos, Nat.sub_zero])
      exact leT_refl _
end Go.Proofs.YtbdkofondpalpaaDoorX

set_option linter.unusedVariables false
set_option linter.unusedSimpArgs false
namespace Go.Proofs.YtbdkofondpalpaaDoorX
open Go Go.RowKit Go.Proofs
set_option maxRecDepth 100000
attribute [local go_sem ↓] stepsK_build stepsK_build0 stepsK_bs stepsK_bs0 appendS
attribute [local go_sem] String.reduceEq String.reduceNe reduceCtorEq Int.reduceEq Nat.reduceAdd Nat.reduceSub Nat.reduceMul Nat.reduceLT Nat.reduceLeDiff Nat.reduceEqDiff Nat.reduceBEq Int.reduceToNat Int.reduceLT Int.reduceLE Int.reduceGT Int.reduceGE Int.reduceAdd Int.reduceSub Int.reduceMul Int.reduceNeg Int.reduceBEq Int.reduceBNe Int.reducePow Int.reduceDiv Int.reduceMod Int.reduceTDiv Int.reduceTMod Int.reduceNatCast
/-! ### strings.Cut -/
def F37 (n : Nat) (a0 : List UInt8) (a1 : List UInt8) : Option ((List UInt8) × (List UInt8) × (Bool)) := (F74 n a0 a1).bind fun v1 => some (v1.1, v1.2.1, v1.2.2)
set_option maxHeartbeats 4000000 in
theorem F37_ok : ∀ (n : Nat) (a0 : List UInt8) (a1 : List UInt8) (r : (List UInt8) × (List UInt8) × (Bool)), F37 n a0 a1 = some r → FnC Tryd.prog 37 [.imm (.string (bs a0)), .imm (.string (bs a1))] (.tup [.imm (.string (bs r.1)), .imm (.string (bs r.2.1)), .imm (.bool r.2.2)])
  | n, a0, a1, r, h => by
    unfold F37 at h
    refine FnC.goX mixed Tryd.func37 (by kernel_rfl) rfl ?_
    simp only [Tryd.ntmps37, List.length_cons, List.length_nil, List.replicate, List.cons_append, List.nil_append, Nat.reduceAdd, Nat.reduceSub]
    refine runX_seq ?_
    refine runX_regionC fun C hC => ?_
    try simp -implicitDefEqProofs (maxSteps := 4000000) (disch := first | omega | decide | (simp only [go_sem]; omega)) only [go_sem, ↓reduceIte]
    repeat (with_reducible refine And.intro (by first | assumption | omega | (simp; done) | (simp; omega)) ?_)
    refine toEnd hC ?_
    refine endX_seq ?_
    refine runX_seq ?_
    refine runX_regionC fun C hC => ?_
    obtain ⟨v1, h1, h⟩ := bnd_some h
    try simp -implicitDefEqProofs (maxSteps := 4000000) (disch := first | omega | decide | (simp only [go_sem]; omega)) only [go_sem, ↓reduceIte]
    repeat (with_reducible refine And.intro (by first | assumption | omega | (simp; done) | (simp; omega)) ?_)
    refine callG_X (by first | rfl | (simp only [go_sem]; done) | (simp only [closedL, closedT, Bool.and_true]; exact closedL_map _ (fun _ => by first | rfl | (simp only [go_sem]; done)) _)) (F74_ok n a0 a1 _ h1) (by repeat (first | exact leL_refl _ | refine leL_cons (by first | exact leT_refl _ | exact leT_virt | exact leT_junk _ | exact leT_sl | exact leT_sln | exact leT_nil) ?_)) ?_
    try simp -implicitDefEqProofs (maxSteps := 4000000) (disch := first | omega | decide | (simp only [go_sem]; omega)) only [go_sem, ↓reduceIte]
    repeat (with_reducible refine And.intro (by first | assumption | omega | (simp; done) | (simp; omega)) ?_)
    refine toEnd hC ?_
    refine endX_seq ?_
    refine runX_ret ?_
    refine endX_q ?_
    obtain rfl := Option.some.inj h
    show RetW _ _ _ _ _
    simp only [RetW]
    (try simp -implicitDefEqProofs (maxSteps := 4000000) (disch := first | omega | decide | (simp only [go_sem]; omega)) only [go_sem, ↓reduceIte])
    (try simp (disch := omega) only [if_pos, Nat.sub_zero])
    exact leT_refl _
end Go.Proofs.YtbdkofondpalpaaDoorX

/- Texts cut at a byte: strings.Index, Count, Split, Cut of one byte. -/
set_option linter.unusedVariables false
set_option linter.unusedSimpArgs false
namespace Go.Proofs.YtbdkofondpalpaaDoorX
open Go

def splitB (c : UInt8) : List UInt8 → List (List UInt8)
  | [] => [[]]
  | x :: l => if x = c then [] :: splitB c l else match splitB c l with
    | [] => [[x]]
    | y :: ys => (x :: y) :: ys
theorem split_ne (c : UInt8) : ∀ l, splitB c l ≠ []
  | [] => by simp [splitB]
  | x :: l => by
    rw [splitB]
    split
    · simp
    · split <;> simp
/-- Where a byte first stands. -/
theorem idx_cases (c : UInt8) : ∀ s : List UInt8, (Lib.indexByte s c = -1 ∧ c ∉ s ∧ s.count c = 0 ∧ splitB c s = [s]) ∨
    ∃ m : Nat, m < s.length ∧ Lib.indexByte s c = (m : Int) ∧ c ∉ s.take m ∧ s = s.take m ++ c :: s.drop (m + 1) ∧ s.count c = 1 + (s.drop (m + 1)).count c ∧ splitB c s = s.take m :: splitB c (s.drop (m + 1))
  | [] => .inl ⟨rfl, by simp, rfl, rfl⟩
  | x :: l => by
    by_cases h : x = c
    · subst h
      refine .inr ⟨0, by simp, ?_, by simp, by simp, by simp; omega, by simp [splitB]⟩
      rw [Lib.indexByte, beq_self_eq_true, if_pos rfl]; rfl
    · have hb : (x == c) = false := by rw [beq_eq_false_iff_ne]; exact h
      rcases idx_cases c l with ⟨h1, h2, h3, h4⟩ | ⟨m, h1, h2, h3, h4, h5, h6⟩
      · refine .inl ⟨?_, ?_, ?_, ?_⟩
        · rw [Lib.indexByte, hb, h1]; rfl
        · simp only [List.mem_cons, not_or]; exact ⟨fun e => h e.symm, h2⟩
        · rw [List.count_cons_of_ne h, h3]
        · rw [splitB, if_neg h, h4]
      · refine .inr ⟨m + 1, by simp; omega, ?_, ?_, ?_, ?_, ?_⟩
        · rw [Lib.indexByte, hb, h2]
          simp only [Bool.false_eq_true, if_false]
          rw [if_neg (by rw [beq_iff_eq]; omega)]; omega
        · rw [List.take_succ_cons]; simp only [List.mem_cons, not_or]; exact ⟨fun e => h e.symm, h3⟩
        · rw [List.take_succ_cons, List.drop_succ_cons, List.cons_append, ← h4]
        · rw [List.count_cons_of_ne h, List.drop_succ_cons, h5]
        · rw [splitB, if_neg h, h6, List.take_succ_cons, List.drop_succ_cons]
theorem Index_eq (n : Nat) (s : List UInt8) (c : UInt8) : F107 n s [c] = some (Lib.indexByte s c) := by
  rw [F107]
  show iteB false _ _ = _
  rw [iteB_f]
  by_cases h : ([c] : List UInt8) = s
  · rw [show (([c] : List UInt8) == s) = true by rw [beq_iff_eq]; exact h, iteB_t, ← h, Lib.indexByte, beq_self_eq_true]; rfl
  · rw [show (([c] : List UInt8) == s) = false by rw [beq_eq_false_iff_ne]; exact h, iteB_f]
    show iteB true _ _ = _
    rw [iteB_t, grd_t _ (by simp), F106, bind_some']
    show some (Lib.indexByte s (((c.toNat : Nat) : Int).toNat.toUInt8)) = _
    rw [toNat_nat, show c.toNat.toUInt8 = c by simp]
theorem sIndex_eq (n : Nat) (s : List UInt8) (c : UInt8) : F115 n s [c] = some (Lib.indexByte s c) := by rw [F115, Index_eq, bind_some']
theorem take_set' {α : Type} : ∀ (l : List α) (i : Nat) (x : α), i < l.length → (l.set i x).take (i + 1) = l.take i ++ [x]
  | [], i, x, h => by simp at h
  | a :: l, 0, x, h => by simp
  | a :: l, i + 1, x, h => by
    rw [List.set_cons_succ, List.take_succ_cons, List.take_succ_cons, List.cons_append, take_set' l i x (by simpa using h)]
theorem ev_gen (c : UInt8) (s0 : List UInt8) (N : Nat) (h0 : N ≤ s0.length + 1) (hN : s0.length ≤ 1000000) : ∀ (d : Nat) (s : List UInt8) (i : Nat) (row : List (List UInt8)), s.count c = d → i + d + 1 = N → row.length = N → s.length ≤ 1000000 →
    Ev (fun k => F83_L3 k [c] 0 s0 (N : Int) s (i : Int) row) (row.take i ++ splitB c s) := by
  have hmin : (if IntKind.wrap .i64 ((s0.length : Int) + 1) < (N : Int) then IntKind.wrap .i64 ((s0.length : Int) + 1) else (N : Int)) = (N : Int) := by
    rw [w64 (by omega), if_neg (by omega)]
  intro d
  induction d with
  | zero =>
    intro s i row hc hi hr hs
    rcases idx_cases c s with ⟨h1, h2, h3, h4⟩ | ⟨m, h1, h2, h3, h4, h5, h6⟩
    · rw [h4]
      refine Ev.step (Ev.pure.congr fun k => ?_)
      rw [F83_L3, hmin, w64 (n := (N : Int) - 1) (by omega), decide_eq_false (by omega), iteB_f, F83_J2, grd_t _ (by omega), toNat_nat, grd_t _ (by omega), w64 (n := (i : Int) + 1) (by omega), grd_t _ (by omega), show ((i : Int) + 1).toNat = i + 1 by omega, take_set' _ _ _ (by omega)]
    · omega
  | succ d ih =>
    intro s i row hc hi hr hs
    rcases idx_cases c s with ⟨h1, h2, h3, h4⟩ | ⟨m, h1, h2, h3, h4, h5, h6⟩
    · omega
    · have e := ih (s.drop (m + 1)) (i + 1) (row.set i (s.take m)) (by omega) (by omega) (by rw [List.length_set, hr]) (by rw [List.length_drop]; omega)
      rw [take_set' _ _ _ (by omega), List.append_assoc] at e
      rw [h6]
      refine Ev.step (e.congr fun k => ?_)
      rw [F83_L3, hmin, w64 (n := (N : Int) - 1) (by omega), decide_eq_true (by omega), iteB_t, sIndex_eq, bind_some', h2, decide_eq_false (by omega), iteB_f, w64 (n := (m : Int) + 0) (by omega)]
      rw [show (([c] : List UInt8).length : Int) = 1 from rfl, w64 (n := (m : Int) + 1) (by omega), w64 (n := (i : Int) + 1) (by omega), toNat_nat]
      rw [grd_t _ (by omega), grd_t _ (by omega), grd_t _ (by omega), grd_t _ (by omega)]
      rw [show ((m : Int) + 1).toNat = m + 1 by omega, show ((m : Int) + 0).toNat = m by omega, show (i : Int) + 1 = ((i + 1 : Nat) : Int) by omega]
theorem ev_Split (c : UInt8) (s : List UInt8) (hs : s.length ≤ 1000000) : Ev (fun k => F48 k s [c]) (splitB c s) := by
  have hcl : s.count c ≤ s.length := List.count_le_length
  have e := ev_gen c s (s.count c + 1) (by omega) hs (s.count c) s 0 (List.replicate (s.count c + 1) []) rfl (by omega) (by simp) hs
  rw [List.take_zero, List.nil_append] at e
  obtain ⟨N, hN⟩ := e
  refine ⟨N, fun n hn => ?_⟩
  have e := hN n hn
  dsimp only at e
  have w1 : IntKind.wrap .i64 (((Lib.countByte s c : Nat) : Int) + 1) = ((s.count c + 1 : Nat) : Int) := by
    unfold Lib.countByte
    rw [w64 (by omega)]; omega
  have hmin : (if IntKind.wrap .i64 ((s.length : Int) + 1) < ((s.count c + 1 : Nat) : Int) then IntKind.wrap .i64 ((s.length : Int) + 1) else ((s.count c + 1 : Nat) : Int)) = ((s.count c + 1 : Nat) : Int) := by
    rw [w64 (by omega), if_neg (by omega)]
  show F48 n s [c] = _
  rw [F48, F83]
  show (iteB false _ (iteB false _ (iteB true _ _))).bind _ = _
  rw [iteB_f, iteB_f, iteB_t, F114]
  show ((some ((Lib.countByte s c : Nat) : Int)).bind _).bind _ = _
  rw [bind_some', w1, F83_J1, hmin, toNat_nat, grd_t _ (by omega)]
  show (F83_L3 n [c] 0 s _ s ((0 : Nat) : Int) _).bind _ = _
  rw [e, bind_some']
def cutB (c : UInt8) (s : List UInt8) : List UInt8 × List UInt8 × Bool := if c ∈ s then (s.take (Lib.indexByte s c).toNat, s.drop ((Lib.indexByte s c).toNat + 1), true) else (s, [], false)
theorem Cut_eq (n : Nat) (s : List UInt8) (c : UInt8) (hs : s.length ≤ 1000000) : F37 n s [c] = some (cutB c s) := by
  unfold cutB
  rw [F37, F74, Index_eq, bind_some', show (([c] : List UInt8).length : Int) = 1 from rfl]
  rcases idx_cases c s with ⟨h1, h2, h3, h4⟩ | ⟨m, h1, h2, h3, h4, h5, h6⟩
  · rw [if_neg h2, h1]; rfl
  · have hm : c ∈ s := by rw [h4]; simp
    rw [if_pos hm, h2, decide_eq_true (by omega), iteB_t, w64 (by omega), grd_t _ (by omega), grd_t _ (by omega), bind_some', show ((m : Int) + 1).toNat = m + 1 by omega, toNat_nat]
/-- Where a byte is not ahead of its first place. -/
theorem idx_app (c : UInt8) (b : List UInt8) : ∀ a : List UInt8, c ∉ a → Lib.indexByte (a ++ c :: b) c = (a.length : Int)
  | [], _ => by rw [List.nil_append, Lib.indexByte, beq_self_eq_true, if_pos rfl]; rfl
  | x :: a, h => by
    simp only [List.mem_cons, not_or] at h
    rw [List.cons_append, Lib.indexByte, show (x == c) = false by (rw [beq_eq_false_iff_ne]; exact fun e => h.1 e.symm), idx_app c b a h.2]
    simp only [Bool.false_eq_true, if_false]
    rw [if_neg (by rw [beq_iff_eq]; omega), List.length_cons]; omega
theorem cut_app (c : UInt8) (a b : List UInt8) (h : c ∉ a) : cutB c (a ++ c :: b) = (a, b, true) := by
  unfold cutB
  rw [if_pos (by simp), idx_app c b a h, toNat_nat, List.take_left']
  · rw [show a.length + 1 = (a ++ [c]).length by simp, show a ++ c :: b = (a ++ [c]) ++ b by simp, List.drop_left']; rfl
  · rfl
theorem cut_none (c : UInt8) (a : List UInt8) (h : c ∉ a) : cutB c a = (a, [], false) := by unfold cutB; rw [if_neg h]
end Go.Proofs.YtbdkofondpalpaaDoorX

set_option linter.unusedVariables false
set_option linter.unusedSimpArgs false
namespace Go.Proofs.YtbdkofondpalpaaDoorX
open Go Go.RowKit Go.Proofs
set_option maxRecDepth 100000
attribute [local go_sem ↓] stepsK_build stepsK_build0 stepsK_bs stepsK_bs0 appendS
attribute [local go_sem] String.reduceEq String.reduceNe reduceCtorEq Int.reduceEq Nat.reduceAdd Nat.reduceSub Nat.reduceMul Nat.reduceLT Nat.reduceLeDiff Nat.reduceEqDiff Nat.reduceBEq Int.reduceToNat Int.reduceLT Int.reduceLE Int.reduceGT Int.reduceGE Int.reduceAdd Int.reduceSub Int.reduceMul Int.reduceNeg Int.reduceBEq Int.reduceBNe Int.reducePow Int.reduceDiv Int.reduceMod Int.reduceTDiv Int.reduceTMod Int.reduceNatCast
/-! ### shadowboxref30.one -/
def F47_S2 (x5 : List UInt8) (x6 : Bool) (x10 : Int) : St := ⟨[.imm (.string (bs x5)), .junk, .ref 0 0 0 0, .junk, .junk, .ref 1 0 0 0, .imm (.int .i64 x10), .junk, .junk, .junk, .junk, .junk, .junk, .junk, .junk, .junk, .junk, .junk, .junk, .junk, .junk, .junk, .junk, .junk, .junk, .junk, .junk, .junk, .junk, .junk, .junk, .junk, .junk, .junk, .junk, .junk, .junk, .junk, .junk, .junk, .junk, .junk, .junk, .junk, .junk, .junk, .junk, .junk, .junk, .junk, .junk, .junk, .junk, .junk, .junk, .junk, .junk, .junk, .junk, .junk, .junk, .junk, .junk, .junk, .junk], [some (.box 59 (.agg [.imm (.bool false), .imm (.string (bs []))]) false), some (.box 59 (.agg [.imm (.bool x6), .imm (.string (bs []))]) false)]⟩
def F47_S1 (x5 : List UInt8) (x6 : Bool) : St := ⟨[.imm (.string (bs x5)), .junk, .ref 0 0 0 0, .junk, .junk, .ref 1 0 0 0, .junk, .junk, .junk, .junk, .junk, .junk, .junk, .junk, .junk, .junk, .junk, .junk, .junk, .junk, .junk, .junk, .junk, .junk, .junk, .junk, .junk, .junk, .junk, .junk, .junk, .junk, .junk, .junk, .junk, .junk, .junk, .junk, .junk, .junk, .junk, .junk, .junk, .junk, .junk, .junk, .junk, .junk, .junk, .junk, .junk, .junk, .junk, .junk, .junk, .junk, .junk, .junk, .junk, .junk, .junk, .junk, .junk, .junk, .junk], [some (.box 59 (.agg [.imm (.bool false), .imm (.string (bs []))]) false), some (.box 59 (.agg [.imm (.bool x6), .imm (.string (bs []))]) false)]⟩
mutual
def F47_L2 : Nat → (List UInt8) → (Bool) → (Int) → Option (((Bool) × (List UInt8)) × (List UInt8) × (Bool))
  | 0, _, _, _ => none
  | m2 + 1, x5, x6, x10 => iteB (decide (x10 < (x5.length : Int))) (grd (0 ≤ x10 ∧ x10 < (x5.length : Int)) (iteB (((x5.getD x10.toNat 0).toNat : Int) != (34 : Int)) (grd (0 ≤ x10 ∧ x10 < (x5.length : Int)) (iteB (decide (((x5.getD x10.toNat 0).toNat : Int) < (33 : Int))) (some ((false, []), [], false)) (grd (0 ≤ x10 ∧ x10 < (x5.length : Int)) (iteB (((x5.getD x10.toNat 0).toNat : Int) == (127 : Int)) (some ((false, []), [], false)) (F47_L2 m2 x5 x6 (IntKind.wrap .i64 (x10 + (1 : Int)))))))) (iteB (x10 == (x5.length : Int)) (some ((false, []), [], false)) (grd ((1 : Int) ≤ x10 ∧ x10 ≤ (x5.length : Int)) (grd (0 ≤ (IntKind.wrap .i64 (x10 + (1 : Int))) ∧ (IntKind.wrap .i64 (x10 + (1 : Int))) ≤ (x5.length : Int)) (some ((x6, ((x5.take x10.toNat).drop 1)), (x5.drop (IntKind.wrap .i64 (x10 + (1 : Int))).toNat), true))))))) (iteB (x10 == (x5.length : Int)) (some ((false, []), [], false)) (grd ((1 : Int) ≤ x10 ∧ x10 ≤ (x5.length : Int)) (grd (0 ≤ (IntKind.wrap .i64 (x10 + (1 : Int))) ∧ (IntKind.wrap .i64 (x10 + (1 : Int))) ≤ (x5.length : Int)) (some ((x6, ((x5.take x10.toNat).drop 1)), (x5.drop (IntKind.wrap .i64 (x10 + (1 : Int))).toNat), true)))))
def F47_J1 (n : Nat) (x5 : List UInt8) (x6 : Bool) : Option (((Bool) × (List UInt8)) × (List UInt8) × (Bool)) := iteB ((x5.length : Int) == (0 : Int)) (some ((false, []), [], false)) (grd ((0 : Int) < (x5.length : Int)) (iteB (((x5.getD (0 : Int).toNat 0).toNat : Int) != (34 : Int)) (some ((false, []), [], false)) (F47_L2 n x5 x6 (1 : Int))))
end
def F47 (n : Nat) (a0 : List UInt8) : Option (((Bool) × (List UInt8)) × (List UInt8) × (Bool)) := iteB (decide ((2 : Int) < (a0.length : Int))) (grd ((2 : Int) ≤ (a0.length : Int)) (iteB ((a0.take 2) == ([87, 47] : List UInt8)) (grd ((2 : Int) ≤ (a0.length : Int)) (F47_J1 n (a0.drop 2) true)) (F47_J1 n a0 false))) (F47_J1 n a0 false)
set_option maxHeartbeats 4000000 in
theorem F47_ok : ∀ (n : Nat) (a0 : List UInt8) (r : ((Bool) × (List UInt8)) × (List UInt8) × (Bool)), F47 n a0 = some r → FnC Tryd.prog 47 [.imm (.string (bs a0))] (.tup [.agg [.imm (.bool r.1.1), .imm (.string (bs r.1.2))], .imm (.string (bs r.2.1)), .imm (.bool r.2.2)])
  | n, a0, r, h => by
    unfold F47 at h
    refine FnC.goX mixed Tryd.func47 (by kernel_rfl) rfl ?_
    simp only [Tryd.ntmps47, List.length_cons, List.length_nil, List.replicate, List.cons_append, List.nil_append, Nat.reduceAdd, Nat.reduceSub]
    refine runX_seq ?_
    refine runX_regionC fun C hC => ?_
    try simp -implicitDefEqProofs (maxSteps := 4000000) (disch := first | omega | decide | (simp only [go_sem]; omega)) only [go_sem, ↓reduceIte]
    repeat (with_reducible refine And.intro (by first | assumption | omega | (simp; done) | (simp; omega)) ?_)
    refine toEnd hC ?_
    refine endX_seq ?_
    refine runX_seq ?_
    refine runX_regionC fun C hC => ?_
    simp only [runK_region, runK_draw, liteL, liteL2, dstsL, gL, List.getD_cons_zero, List.getD_cons_succ]
    try simp -implicitDefEqProofs (maxSteps := 4000000) (disch := first | omega | decide | (simp only [go_sem]; omega)) only [go_sem, ↓reduceIte]
    repeat (with_reducible refine And.intro (by first | assumption | omega | (simp; done) | (simp; omega)) ?_)
    refine bldG_of [.imm (.bool false), .imm (.string (bs []))] (by kernel_rfl) ?_
    try simp -implicitDefEqProofs (maxSteps := 4000000) (disch := first | omega | decide | (simp only [go_sem]; omega)) only [go_sem, ↓reduceIte]
    repeat (with_reducible refine And.intro (by first | assumption | omega | (simp; done) | (simp; omega)) ?_)
    refine toEnd hC ?_
    refine endX_seq ?_
    refine runX_meet [0, 2, 5] (fun S => ∃ (x5 : List UInt8) (x6 : Bool), S = F47_S1 x5 x6 ∧ F47_J1 n x5 x6 = some r) ?_ ?_
    · refine runX_seq ?_
      refine runX_regionC fun C hC => ?_
      try simp -implicitDefEqProofs (maxSteps := 4000000) (disch := first | omega | decide | (simp only [go_sem]; omega)) only [go_sem, ↓reduceIte]
      repeat (with_reducible refine And.intro (by first | assumption | omega | (simp; done) | (simp; omega)) ?_)
      rcases iteB_some h with ⟨c1, h⟩ | ⟨c1, h⟩
      · refine guardK_T c1 ?_
        obtain ⟨g2, h⟩ := grd_some h
        try simp -implicitDefEqProofs (maxSteps := 4000000) (disch := first | omega | decide | (simp only [go_sem]; omega)) only [go_sem, ↓reduceIte]
        repeat (with_reducible refine And.intro (by first | assumption | omega | (simp; done) | (simp; omega)) ?_)
        refine toEnd hC ?_
        refine endX_seq ?_
        rcases iteB_some h with ⟨c3, h⟩ | ⟨c3, h⟩
        · refine runX_condT rfl c3 ?_
          refine runX_seq ?_
          refine runX_regionC fun C hC => ?_
          try simp -implicitDefEqProofs (maxSteps := 4000000) (disch := first | omega | decide | (simp only [go_sem]; omega)) only [go_sem, ↓reduceIte]
          repeat (with_reducible refine And.intro (by first | assumption | omega | (simp; done) | (simp; omega)) ?_)
          refine toEnd hC ?_
          refine endX_seq ?_
          refine runX_regionC fun C hC => ?_
          obtain ⟨g4, h⟩ := grd_some h
          try simp -implicitDefEqProofs (maxSteps := 4000000) (disch := first | omega | decide | (simp only [go_sem]; omega)) only [go_sem, ↓reduceIte]
          repeat (with_reducible refine And.intro (by first | assumption | omega | (simp; done) | (simp; omega)) ?_)
          refine toEnd hC ?_
          refine endX_q (meetQ_normal ⟨F47_S1 (a0.drop 2) true, ?_, (a0.drop 2), true, rfl, h⟩)
          simp only [F47_S1]
          (try simp -implicitDefEqProofs (maxSteps := 4000000) (disch := first | omega | decide | (simp only [go_sem]; omega)) only [go_sem, ↓reduceIte])
          first | exact leS_refl _ | (refine leS_le ?_ ?_ <;> first | exact leL_refl _ | exact leOs_refl _ | (repeat (first | exact leL_refl _ | refine leL_cons (by first | exact leT_refl _ | exact leT_virt | exact leT_junk _ | exact leT_sl | exact leT_sln | exact leT_nil) ?_)))
        · refine runX_condF rfl c3 ?_
          refine runX_skip ?_
          refine endX_q (meetQ_normal ⟨F47_S1 a0 false, ?_, a0, false, rfl, h⟩)
          simp only [F47_S1]
          (try simp -implicitDefEqProofs (maxSteps := 4000000) (disch := first | omega | decide | (simp only [go_sem]; omega)) only [go_sem, ↓reduceIte])
          first | exact leS_refl _ | (refine leS_le ?_ ?_ <;> first | exact leL_refl _ | exact leOs_refl _ | (repeat (first | exact leL_refl _ | refine leL_cons (by first | exact leT_refl _ | exact leT_virt | exact leT_junk _ | exact leT_sl | exact leT_sln | exact leT_nil) ?_)))
      · refine guardK_F c1 ?_
        try simp -implicitDefEqProofs (maxSteps := 4000000) (disch := first | omega | decide | (simp only [go_sem]; omega)) only [go_sem, ↓reduceIte]
        repeat (with_reducible refine And.intro (by first | assumption | omega | (simp; done) | (simp; omega)) ?_)
        refine toEnd hC ?_
        refine endX_seq ?_
        refine runX_condF rfl rfl ?_
        refine runX_skip ?_
        refine endX_q (meetQ_normal ⟨F47_S1 a0 false, ?_, a0, false, rfl, h⟩)
        simp only [F47_S1]
        (try simp -implicitDefEqProofs (maxSteps := 4000000) (disch := first | omega | decide | (simp only [go_sem]; omega)) only [go_sem, ↓reduceIte])
        first | exact leS_refl _ | (refine leS_le ?_ ?_ <;> first | exact leL_refl _ | exact leOs_refl _ | (repeat (first | exact leL_refl _ | refine leL_cons (by first | exact leT_refl _ | exact leT_virt | exact leT_junk _ | exact leT_sl | exact leT_sln | exact leT_nil) ?_)))
    · clear h
      rintro S ⟨x5, x6, rfl, h⟩
      rw [F47_J1] at h
      simp only [F47_S1]
      refine runX_seq ?_
      refine runX_seq ?_
      refine runX_regionC fun C hC => ?_
      try simp -implicitDefEqProofs (maxSteps := 4000000) (disch := first | omega | decide | (simp only [go_sem]; omega)) only [go_sem, ↓reduceIte]
      repeat (with_reducible refine And.intro (by first | assumption | omega | (simp; done) | (simp; omega)) ?_)
      rcases iteB_some h with ⟨c7, h⟩ | ⟨c7, h⟩
      · refine guardK_F c7 ?_
        try simp -implicitDefEqProofs (maxSteps := 4000000) (disch := first | omega | decide | (simp only [go_sem]; omega)) only [go_sem, ↓reduceIte]
        repeat (with_reducible refine And.intro (by first | assumption | omega | (simp; done) | (simp; omega)) ?_)
        refine toEnd hC ?_
        refine endX_seq ?_
        refine runX_condT rfl rfl ?_
        refine runX_seq ?_
        refine runX_regionC fun C hC => ?_
        simp only [runK_region, runK_draw, liteL, liteL2, dstsL, gL, List.getD_cons_zero, List.getD_cons_succ]
        try simp -implicitDefEqProofs (maxSteps := 4000000) (disch := first | omega | decide | (simp only [go_sem]; omega)) only [go_sem, ↓reduceIte]
        repeat (with_reducible refine And.intro (by first | assumption | omega | (simp; done) | (simp; omega)) ?_)
        refine bldG_of [.imm (.bool false), .imm (.string (bs []))] (by kernel_rfl) ?_
        try simp -implicitDefEqProofs (maxSteps := 4000000) (disch := first | omega | decide | (simp only [go_sem]; omega)) only [go_sem, ↓reduceIte]
        repeat (with_reducible refine And.intro (by first | assumption | omega | (simp; done) | (simp; omega)) ?_)
        refine toEnd hC ?_
        refine endX_seq ?_
        refine runX_ret ?_
        refine endX_seqR ?_
        refine endX_q ?_
        obtain rfl := Option.some.inj h
        show RetW _ _ _ _ _
        simp only [RetW]
        (try simp -implicitDefEqProofs (maxSteps := 4000000) (disch := first | omega | decide | (simp only [go_sem]; omega)) only [go_sem, ↓reduceIte])
        (try simp (disch := omega) only [if_pos, Nat.sub_zero])
        exact leT_refl _
      · refine guardK_T c7 ?_
        obtain ⟨g8, h⟩ := grd_some h
        try simp -implicitDefEqProofs (maxSteps := 4000000) (disch := first | omega | decide | (simp only [go_sem]; omega)) only [go_sem, ↓reduceIte]
        repeat (with_reducible refine And.intro (by first | assumption | omega | (simp; done) | (simp; omega)) ?_)
        refine toEnd hC ?_
        refine endX_seq ?_
        rcases iteB_some h with ⟨c9, h⟩ | ⟨c9, h⟩
        · refine runX_condT rfl c9 ?_
          refine runX_seq ?_
          refine runX_regionC fun C hC => ?_
          simp only [runK_region, runK_draw, liteL, liteL2, dstsL, gL, List.getD_cons_zero, List.getD_cons_succ]
          try simp -implicitDefEqProofs (maxSteps := 4000000) (disch := first | omega | decide | (simp only [go_sem]; omega)) only [go_sem, ↓reduceIte]
          repeat (with_reducible refine And.intro (by first | assumption | omega | (simp; done) | (simp; omega)) ?_)
          refine bldG_of [.imm (.bool false), .imm (.string (bs []))] (by kernel_rfl) ?_
          try simp -implicitDefEqProofs (maxSteps := 4000000) (disch := first | omega | decide | (simp only [go_sem]; omega)) only [go_sem, ↓reduceIte]
          repeat (with_reducible refine And.intro (by first | assumption | omega | (simp; done) | (simp; omega)) ?_)
          refine toEnd hC ?_
          refine endX_seq ?_
          refine runX_ret ?_
          refine endX_seqR ?_
          refine endX_q ?_
          obtain rfl := Option.some.inj h
          show RetW _ _ _ _ _
          simp only [RetW]
          (try simp -implicitDefEqProofs (maxSteps := 4000000) (disch := first | omega | decide | (simp only [go_sem]; omega)) only [go_sem, ↓reduceIte])
          (try simp (disch := omega) only [if_pos, Nat.sub_zero])
          exact leT_refl _
        · refine runX_condF rfl c9 ?_
          refine runX_skip ?_
          refine endX_seq ?_
          refine runX_seq ?_
          refine runX_regionC fun C hC => ?_
          try simp -implicitDefEqProofs (maxSteps := 4000000) (disch := first | omega | decide | (simp only [go_sem]; omega)) only [go_sem, ↓reduceIte]
          repeat (with_reducible refine And.intro (by first | assumption | omega | (simp; done) | (simp; omega)) ?_)
          refine toEnd hC ?_
          refine endX_seq ?_
          refine runX_seq ?_
          refine runX_block ?_
          refine runX_loop [0, 2, 5, 6] (fun m S => ∃ (x10 : Int), S = F47_S2 x5 x6 x10 ∧ m ≤ n ∧ F47_L2 m x5 x6 x10 = some r) n ⟨F47_S2 x5 x6 (1 : Int), ?_, (1 : Int), rfl, Nat.le_refl _, h⟩ ?_
          · simp only [F47_S2]
            (try simp -implicitDefEqProofs (maxSteps := 4000000) (disch := first | omega | decide | (simp only [go_sem]; omega)) only [go_sem, ↓reduceIte])
            first | exact leS_refl _ | (refine leS_le ?_ ?_ <;> first | exact leL_refl _ | exact leOs_refl _ | (repeat (first | exact leL_refl _ | refine leL_cons (by first | exact leT_refl _ | exact leT_virt | exact leT_junk _ | exact leT_sl | exact leT_sln | exact leT_nil) ?_)))
          · clear h
            rintro m2 S ⟨x10, rfl, hm2, h⟩
            cases m2 with
            | zero => first | cases (show (none : Option _) = some _ from h) | (rw [F47_L2] at h; cases h)
            | succ m2 =>
              rw [F47_L2] at h
              simp only [F47_S2]
              refine runX_seq ?_
              refine runX_seq ?_
              refine runX_regionC fun C hC => ?_
              try simp -implicitDefEqProofs (maxSteps := 4000000) (disch := first | omega | decide | (simp only [go_sem]; omega)) only [go_sem, ↓reduceIte]
              repeat (with_reducible refine And.intro (by first | assumption | omega | (simp; done) | (simp; omega)) ?_)
              rcases iteB_some h with ⟨c11, h⟩ | ⟨c11, h⟩
              · refine guardK_T c11 ?_
                obtain ⟨g12, h⟩ := grd_some h
                try simp -implicitDefEqProofs (maxSteps := 4000000) (disch := first | omega | decide | (simp only [go_sem]; omega)) only [go_sem, ↓reduceIte]
                repeat (with_reducible refine And.intro (by first | assumption | omega | (simp; done) | (simp; omega)) ?_)
                refine toEnd hC ?_
                refine endX_seq ?_
                rcases iteB_some h with ⟨c13, h⟩ | ⟨c13, h⟩
                · refine runX_condT rfl c13 ?_
                  refine runX_skip ?_
                  refine endX_seq ?_
                  refine runX_block ?_
                  refine runX_seq ?_
                  refine runX_seq ?_
                  refine runX_regionC fun C hC => ?_
                  obtain ⟨g14, h⟩ := grd_some h
                  try simp -implicitDefEqProofs (maxSteps := 4000000) (disch := first | omega | decide | (simp only [go_sem]; omega)) only [go_sem, ↓reduceIte]
                  repeat (with_reducible refine And.intro (by first | assumption | omega | (simp; done) | (simp; omega)) ?_)
                  rcases iteB_some h with ⟨c15, h⟩ | ⟨c15, h⟩
                  · refine guardK_F c15 ?_
                    try simp -implicitDefEqProofs (maxSteps := 4000000) (disch := first | omega | decide | (simp only [go_sem]; omega)) only [go_sem, ↓reduceIte]
                    repeat (with_reducible refine And.intro (by first | assumption | omega | (simp; done) | (simp; omega)) ?_)
                    refine toEnd hC ?_
                    refine endX_seq ?_
                    refine runX_condT rfl rfl ?_
                    refine runX_seq ?_
                    refine runX_regionC fun C hC => ?_
                    simp only [runK_region, runK_draw, liteL, liteL2, dstsL, gL, List.getD_cons_zero, List.getD_cons_succ]
                    try simp -implicitDefEqProofs (maxSteps := 4000000) (disch := first | omega | decide | (simp only [go_sem]; omega)) only [go_sem, ↓reduceIte]
                    repeat (with_reducible refine And.intro (by first | assumption | omega | (simp; done) | (simp; omega)) ?_)
                    refine bldG_of [.imm (.bool false), .imm (.string (bs []))] (by kernel_rfl) ?_
                    try simp -implicitDefEqProofs (maxSteps := 4000000) (disch := first | omega | decide | (simp only [go_sem]; omega)) only [go_sem, ↓reduceIte]
                    repeat (with_reducible refine And.intro (by first | assumption | omega | (simp; done) | (simp; omega)) ?_)
                    refine toEnd hC ?_
                    refine endX_seq ?_
                    refine runX_ret ?_
                    refine endX_seqR ?_
                    refine endX_blkR ?_
                    refine endX_q (roundQ_ret ?_)
                    refine endX_blkR ?_
                    refine endX_seqR ?_
                    refine endX_q ?_
                    obtain rfl := Option.some.inj h
                    show RetW _ _ _ _ _
                    simp only [RetW]
                    (try simp -implicitDefEqProofs (maxSteps := 4000000) (disch := first | omega | decide | (simp only [go_sem]; omega)) only [go_sem, ↓reduceIte])
                    (try simp (disch := omega) only [if_pos, Nat.sub_zero])
                    exact leT_refl _
                  · refine guardK_T c15 ?_
                    obtain ⟨g16, h⟩ := grd_some h
                    try simp -implicitDefEqProofs (maxSteps := 4000000) (disch := first | omega | decide | (simp only [go_sem]; omega)) only [go_sem, ↓reduceIte]
                    repeat (with_reducible refine And.intro (by first | assumption | omega | (simp; done) | (simp; omega)) ?_)
                    refine toEnd hC ?_
                    refine endX_seq ?_
                    rcases iteB_some h with ⟨c17, h⟩ | ⟨c17, h⟩
                    · refine runX_condT rfl c17 ?_
                      refine runX_seq ?_
                      refine runX_regionC fun C hC => ?_
                      simp only [runK_region, runK_draw, liteL, liteL2, dstsL, gL, List.getD_cons_zero, List.getD_cons_succ]
                      try simp -implicitDefEqProofs (maxSteps := 4000000) (disch := first | omega | decide | (simp only [go_sem]; omega)) only [go_sem, ↓reduceIte]
                      repeat (with_reducible refine And.intro (by first | assumption | omega | (simp; done) | (simp; omega)) ?_)
                      refine bldG_of [.imm (.bool false), .imm (.string (bs []))] (by kernel_rfl) ?_
                      try simp -implicitDefEqProofs (maxSteps := 4000000) (disch := first | omega | decide | (simp only [go_sem]; omega)) only [go_sem, ↓reduceIte]
                      repeat (with_reducible refine And.intro (by first | assumption | omega | (simp; done) | (simp; omega)) ?_)
                      refine toEnd hC ?_
                      refine endX_seq ?_
                      refine runX_ret ?_
                      refine endX_seqR ?_
                      refine endX_blkR ?_
                      refine endX_q (roundQ_ret ?_)
                      refine endX_blkR ?_
                      refine endX_seqR ?_
                      refine endX_q ?_
                      obtain rfl := Option.some.inj h
                      show RetW _ _ _ _ _
                      simp only [RetW]
                      (try simp -implicitDefEqProofs (maxSteps := 4000000) (disch := first | omega | decide | (simp only [go_sem]; omega)) only [go_sem, ↓reduceIte])
                      (try simp (disch := omega) only [if_pos, Nat.sub_zero])
                      exact leT_refl _
                    · refine runX_condF rfl c17 ?_
                      refine runX_skip ?_
                      refine endX_seq ?_
                      refine runX_regionC fun C hC => ?_
                      try simp -implicitDefEqProofs (maxSteps := 4000000) (disch := first | omega | decide | (simp only [go_sem]; omega)) only [go_sem, ↓reduceIte]
                      repeat (with_reducible refine And.intro (by first | assumption | omega | (simp; done) | (simp; omega)) ?_)
                      refine toEnd hC ?_
                      refine endX_blk ?_
                      refine endX_q (roundQ_normal ⟨m2, by omega, F47_S2 x5 x6 (IntKind.wrap .i64 (x10 + (1 : Int))), ?_, (IntKind.wrap .i64 (x10 + (1 : Int))), rfl, by omega, h⟩)
                      simp only [F47_S2]
                      (try simp -implicitDefEqProofs (maxSteps := 4000000) (disch := first | omega | decide | (simp only [go_sem]; omega)) only [go_sem, ↓reduceIte])
                      first | exact leS_refl _ | (refine leS_le ?_ ?_ <;> first | exact leL_refl _ | exact leOs_refl _ | (repeat (first | exact leL_refl _ | refine leL_cons (by first | exact leT_refl _ | exact leT_virt | exact leT_junk _ | exact leT_sl | exact leT_sln | exact leT_nil) ?_)))
                · refine runX_condF rfl c13 ?_
                  refine runX_exit ?_
                  refine endX_seqE ?_
                  refine endX_q (roundQ_exit ?_)
                  refine endX_blkE ?_
                  refine endX_seq ?_
                  refine runX_seq ?_
                  refine runX_seq ?_
                  refine runX_regionC fun C hC => ?_
                  try simp -implicitDefEqProofs (maxSteps := 4000000) (disch := first | omega | decide | (simp only [go_sem]; omega)) only [go_sem, ↓reduceIte]
                  repeat (with_reducible refine And.intro (by first | assumption | omega | (simp; done) | (simp; omega)) ?_)
                  refine toEnd hC ?_
                  refine endX_seq ?_
                  rcases iteB_some h with ⟨c18, h⟩ | ⟨c18, h⟩
                  · refine runX_condT rfl c18 ?_
                    refine runX_seq ?_
                    refine runX_regionC fun C hC => ?_
                    simp only [runK_region, runK_draw, liteL, liteL2, dstsL, gL, List.getD_cons_zero, List.getD_cons_succ]
                    try simp -implicitDefEqProofs (maxSteps := 4000000) (disch := first | omega | decide | (simp only [go_sem]; omega)) only [go_sem, ↓reduceIte]
                    repeat (with_reducible refine And.intro (by first | assumption | omega | (simp; done) | (simp; omega)) ?_)
                    refine bldG_of [.imm (.bool false), .imm (.string (bs []))] (by kernel_rfl) ?_
                    try simp -implicitDefEqProofs (maxSteps := 4000000) (disch := first | omega | decide | (simp only [go_sem]; omega)) only [go_sem, ↓reduceIte]
                    repeat (with_reducible refine And.intro (by first | assumption | omega | (simp; done) | (simp; omega)) ?_)
                    refine toEnd hC ?_
                    refine endX_seq ?_
                    refine runX_ret ?_
                    refine endX_seqR ?_
                    refine endX_q ?_
                    obtain rfl := Option.some.inj h
                    show RetW _ _ _ _ _
                    simp only [RetW]
                    (try simp -implicitDefEqProofs (maxSteps := 4000000) (disch := first | omega | decide | (simp only [go_sem]; omega)) only [go_sem, ↓reduceIte])
                    (try simp (disch := omega) only [if_pos, Nat.sub_zero])
                    exact leT_refl _
                  · refine runX_condF rfl c18 ?_
                    refine runX_skip ?_
                    refine endX_seq ?_
                    refine runX_seq ?_
                    refine runX_regionC fun C hC => ?_
                    obtain ⟨g19, h⟩ := grd_some h
                    try simp -implicitDefEqProofs (maxSteps := 4000000) (disch := first | omega | decide | (simp only [go_sem]; omega)) only [go_sem, ↓reduceIte]
                    repeat (with_reducible refine And.intro (by first | assumption | omega | (simp; done) | (simp; omega)) ?_)
                    refine toEnd hC ?_
                    refine endX_seq ?_
                    refine runX_seq ?_
                    refine runX_draw2C mixed [1, 2, 3, 4] (by kernel_rfl) fun C hC => ?_
                    obtain ⟨g20, h⟩ := grd_some h
                    try simp -implicitDefEqProofs (maxSteps := 4000000) (disch := first | omega | decide | (simp only [go_sem]; omega)) only [go_sem, ↓reduceIte]
                    repeat (with_reducible refine And.intro (by first | assumption | omega | (simp; done) | (simp; omega)) ?_)
                    refine toEnd hC ?_
                    refine endX_seq ?_
                    refine runX_ret ?_
                    refine endX_q ?_
                    obtain rfl := Option.some.inj h
                    show RetW _ _ _ _ _
                    simp only [RetW]
                    (try simp -implicitDefEqProofs (maxSteps := 4000000) (disch := first | omega | decide | (simp only [go_sem]; omega)) only [go_sem, ↓reduceIte])
                    (try simp (disch := omega) only [if_pos, Nat.sub_zero])
                    exact leT_refl _
              · refine guardK_F c11 ?_
                try simp -implicitDefEqProofs (maxSteps := 4000000) (disch := first | omega | decide | (simp only [go_sem]; omega)) only [go_sem, ↓reduceIte]
                repeat (with_reducible refine And.intro (by first | assumption | omega | (simp; done) | (simp; omega)) ?_)
                refine toEnd hC ?_
                refine endX_seq ?_
                refine runX_condF rfl rfl ?_
                refine runX_exit ?_
                refine endX_seqE ?_
                refine endX_q (roundQ_exit ?_)
                refine endX_blkE ?_
                refine endX_seq ?_
                refine runX_seq ?_
                refine runX_seq ?_
                refine runX_regionC fun C hC => ?_
                try simp -implicitDefEqProofs (maxSteps := 4000000) (disch := first | omega | decide | (simp only [go_sem]; omega)) only [go_sem, ↓reduceIte]
                repeat (with_reducible refine And.intro (by first | assumption | omega | (simp; done) | (simp; omega)) ?_)
                refine toEnd hC ?_
                refine endX_seq ?_
                rcases iteB_some h with ⟨c21, h⟩ | ⟨c21, h⟩
                · refine runX_condT rfl c21 ?_
                  refine runX_seq ?_
                  refine runX_regionC fun C hC => ?_
                  simp only [runK_region, runK_draw, liteL, liteL2, dstsL, gL, List.getD_cons_zero, List.getD_cons_succ]
                  try simp -implicitDefEqProofs (maxSteps := 4000000) (disch := first | omega | decide | (simp only [go_sem]; omega)) only [go_sem, ↓reduceIte]
                  repeat (with_reducible refine And.intro (by first | assumption | omega | (simp; done) | (simp; omega)) ?_)
                  refine bldG_of [.imm (.bool false), .imm (.string (bs []))] (by kernel_rfl) ?_
                  try simp -implicitDefEqProofs (maxSteps := 4000000) (disch := first | omega | decide | (simp only [go_sem]; omega)) only [go_sem, ↓reduceIte]
                  repeat (with_reducible refine And.intro (by first | assumption | omega | (simp; done) | (simp; omega)) ?_)
                  refine toEnd hC ?_
                  refine endX_seq ?_
                  refine runX_ret ?_
                  refine endX_seqR ?_
                  refine endX_q ?_
                  obtain rfl := Option.some.inj h
                  show RetW _ _ _ _ _
                  simp only [RetW]
                  (try simp -implicitDefEqProofs (maxSteps := 4000000) (disch := first | omega | decide | (simp only [go_sem]; omega)) only [go_sem, ↓reduceIte])
                  (try simp (disch := omega) only [if_pos, Nat.sub_zero])
                  exact leT_refl _
                · refine runX_condF rfl c21 ?_
                  refine runX_skip ?_
                  refine endX_seq ?_
                  refine runX_seq ?_
                  refine runX_regionC fun C hC => ?_
                  obtain ⟨g22, h⟩ := grd_some h
                  try simp -implicitDefEqProofs (maxSteps := 4000000) (disch := first | omega | decide | (simp only [go_sem]; omega)) only [go_sem, ↓reduceIte]
                  repeat (with_reducible refine And.intro (by first | assumption | omega | (simp; done) | (simp; omega)) ?_)
                  refine toEnd hC ?_
                  refine endX_seq ?_
                  refine runX_seq ?_
                  refine runX_draw2C mixed [1, 2, 3, 4] (by kernel_rfl) fun C hC => ?_
                  obtain ⟨g23, h⟩ := grd_some h
                  try simp -implicitDefEqProofs (maxSteps := 4000000) (disch := first | omega | decide | (simp only [go_sem]; omega)) only [go_sem, ↓reduceIte]
                  repeat (with_reducible refine And.intro (by first | assumption | omega | (simp; done) | (simp; omega)) ?_)
                  refine toEnd hC ?_
                  refine endX_seq ?_
                  refine runX_ret ?_
                  refine endX_q ?_
                  obtain rfl := Option.some.inj h
                  show RetW _ _ _ _ _
                  simp only [RetW]
                  (try simp -implicitDefEqProofs (maxSteps := 4000000) (disch := first | omega | decide | (simp only [go_sem]; omega)) only [go_sem, ↓reduceIte])
                  (try simp (disch := omega) only [if_pos, Nat.sub_zero])
                  exact leT_refl _
end Go.Proofs.YtbdkofondpalpaaDoorX

set_option linter.unusedVariables false
set_option linter.unusedSimpArgs false
namespace Go.Proofs.YtbdkofondpalpaaDoorX
open Go Go.RowKit Go.Proofs
set_option maxRecDepth 100000
attribute [local go_sem ↓] stepsK_build stepsK_build0 stepsK_bs stepsK_bs0 appendS
attribute [local go_sem] String.reduceEq String.reduceNe reduceCtorEq Int.reduceEq Nat.reduceAdd Nat.reduceSub Nat.reduceMul Nat.reduceLT Nat.reduceLeDiff Nat.reduceEqDiff Nat.reduceBEq Int.reduceToNat Int.reduceLT Int.reduceLE Int.reduceGT Int.reduceGE Int.reduceAdd Int.reduceSub Int.reduceMul Int.reduceNeg Int.reduceBEq Int.reduceBNe Int.reducePow Int.reduceDiv Int.reduceMod Int.reduceTDiv Int.reduceTMod Int.reduceNatCast
/-! ### shadowboxref30.Tags -/
def F24_S1 (x3 : List UInt8) (x4 : Bool) (x5 : List ((Bool) × (List UInt8))) : St := ⟨[.imm (.string (bs x3)), .junk, .junk, .junk, .junk, .rsl 0 2 0 x5.length, .imm (.bool x4), .junk, .junk, .junk, .junk, .junk, .junk, .junk, .junk, .junk, .junk, .junk, .junk, .junk, .junk, .junk, .junk, .junk, .junk, .junk, .junk, .junk, .junk, .junk, .junk, .junk, .junk, .junk, .junk, .junk, .junk, .junk, .junk, .junk, .junk, .junk, .junk, .junk, .junk], [some (.buf 59 2 (List.map eT23 x5) 0)]⟩
def F24_L1 : Nat → (List UInt8) → (Bool) → (List ((Bool) × (List UInt8))) → Option ((List ((Bool) × (List UInt8))) × (Bool) × (Bool))
  | 0, _, _, _ => none
  | m1 + 1, x3, x4, x5 => iteB (decide ((0 : Int) < (x3.length : Int))) (grd ((0 : Int) < (x3.length : Int)) (iteB (((x3.getD (0 : Int).toNat 0).toNat : Int) == (44 : Int)) (grd ((1 : Int) ≤ (x3.length : Int)) ((F40 m1 (x3.drop 1)).bind fun v10 => F24_L1 m1 v10 true x5)) ((F47 m1 x3).bind fun v11 => iteB (!v11.2.2) (some ([], false, false)) (iteB (!x4) (some ([], false, false)) (grd ((x5.length + 1) ≤ 549755813888) ((F40 m1 v11.2.1).bind fun v15 => F24_L1 m1 v15 false (x5 ++ [(v11.1.1, v11.1.2)]))))))) (some (x5, false, (decide ((0 : Int) < (x5.length : Int)))))
def F24 (n : Nat) (a0 : List UInt8) : Option ((List ((Bool) × (List UInt8))) × (Bool) × (Bool)) := (F40 n a0).bind fun v1 => iteB (v1 == ([42] : List UInt8)) (some ([], true, true)) (F24_L1 n v1 true [])
set_option maxHeartbeats 4000000 in
theorem F24_ok : ∀ (n : Nat) (a0 : List UInt8) (r : (List ((Bool) × (List UInt8))) × (Bool) × (Bool)), F24 n a0 = some r → FnC Tryd.prog 24 [.imm (.string (bs a0))] (.tup [.sl 2 false (List.map eT23 r.1), .imm (.bool r.2.1), .imm (.bool r.2.2)])
  | n, a0, r, h => by
    unfold F24 at h
    refine FnC.goX mixed Tryd.func24 (by kernel_rfl) rfl ?_
    simp only [Tryd.ntmps24, List.length_cons, List.length_nil, List.replicate, List.cons_append, List.nil_append, Nat.reduceAdd, Nat.reduceSub]
    refine runX_seq ?_
    refine runX_regionC fun C hC => ?_
    try simp -implicitDefEqProofs (maxSteps := 4000000) (disch := first | omega | decide | (simp only [go_sem]; omega)) only [go_sem, ↓reduceIte]
    repeat (with_reducible refine And.intro (by first | assumption | omega | (simp; done) | (simp; omega)) ?_)
    refine toEnd hC ?_
    refine endX_seq ?_
    refine runX_seq ?_
    refine runX_regionC fun C hC => ?_
    obtain ⟨v1, h1, h⟩ := bnd_some h
    try simp -implicitDefEqProofs (maxSteps := 4000000) (disch := first | omega | decide | (simp only [go_sem]; omega)) only [go_sem, ↓reduceIte]
    repeat (with_reducible refine And.intro (by first | assumption | omega | (simp; done) | (simp; omega)) ?_)
    refine callG_X (by first | rfl | (simp only [go_sem]; done) | (simp only [closedL, closedT, Bool.and_true]; exact closedL_map _ (fun _ => by first | rfl | (simp only [go_sem]; done)) _)) (F40_ok n a0 _ h1) (by repeat (first | exact leL_refl _ | refine leL_cons (by first | exact leT_refl _ | exact leT_virt | exact leT_junk _ | exact leT_sl | exact leT_sln | exact leT_nil) ?_)) ?_
    try simp -implicitDefEqProofs (maxSteps := 4000000) (disch := first | omega | decide | (simp only [go_sem]; omega)) only [go_sem, ↓reduceIte]
    repeat (with_reducible refine And.intro (by first | assumption | omega | (simp; done) | (simp; omega)) ?_)
    refine toEnd hC ?_
    refine endX_seq ?_
    refine runX_seq ?_
    refine runX_seq ?_
    refine runX_regionC fun C hC => ?_
    try simp -implicitDefEqProofs (maxSteps := 4000000) (disch := first | omega | decide | (simp only [go_sem]; omega)) only [go_sem, ↓reduceIte]
    repeat (with_reducible refine And.intro (by first | assumption | omega | (simp; done) | (simp; omega)) ?_)
    refine toEnd hC ?_
    refine endX_seq ?_
    rcases iteB_some h with ⟨c2, h⟩ | ⟨c2, h⟩
    · refine runX_condT rfl c2 ?_
      refine runX_seq ?_
      refine runX_regionC fun C hC => ?_
      try simp -implicitDefEqProofs (maxSteps := 4000000) (disch := first | omega | decide | (simp only [go_sem]; omega)) only [go_sem, ↓reduceIte]
      repeat (with_reducible refine And.intro (by first | assumption | omega | (simp; done) | (simp; omega)) ?_)
      refine toEnd hC ?_
      refine endX_seq ?_
      refine runX_ret ?_
      refine endX_seqR ?_
      refine endX_q ?_
      obtain rfl := Option.some.inj h
      show RetW _ _ _ _ _
      simp only [RetW]
      (try simp -implicitDefEqProofs (maxSteps := 4000000) (disch := first | omega | decide | (simp only [go_sem]; omega)) only [go_sem, ↓reduceIte])
      (try simp (disch := omega) only [if_pos, Nat.sub_zero])
      first | exact leT_refl _ | (refine ⟨rfl, ?_⟩; first | exact leT_refl _ | exact leT_sl | exact leT_sln | exact leT_nil | (refine leT_tup (by repeat (first | exact leL_refl _ | refine leL_cons (by first | exact leT_refl _ | exact leT_virt | exact leT_junk _ | exact leT_sl | exact leT_sln | exact leT_nil) ?_))) | (refine leT_agg (by repeat (first | exact leL_refl _ | refine leL_cons (by first | exact leT_refl _ | exact leT_virt | exact leT_junk _ | exact leT_sl | exact leT_sln | exact leT_nil) ?_)))) | (first | exact leT_refl _ | exact leT_sl | exact leT_sln | exact leT_nil | (refine leT_tup (by repeat (first | exact leL_refl _ | refine leL_cons (by first | exact leT_refl _ | exact leT_virt | exact leT_junk _ | exact leT_sl | exact leT_sln | exact leT_nil) ?_))) | (refine leT_agg (by repeat (first | exact leL_refl _ | refine leL_cons (by first | exact leT_refl _ | exact leT_virt | exact leT_junk _ | exact leT_sl | exact leT_sln | exact leT_nil) ?_)))) | (simp only [List.append_assoc, List.cons_append, List.nil_append]; exact leT_refl _) | (rw [List.take_of_length_le (by simp)]; (try simp only [List.append_assoc, List.cons_append, List.nil_append]); exact leT_refl _)
    · refine runX_condF rfl c2 ?_
      refine runX_skip ?_
      refine endX_seq ?_
      refine runX_seq ?_
      refine runX_regionC fun C hC => ?_
      try simp -implicitDefEqProofs (maxSteps := 4000000) (disch := first | omega | decide | (simp only [go_sem]; omega)) only [go_sem, ↓reduceIte]
      repeat (with_reducible refine And.intro (by first | assumption | omega | (simp; done) | (simp; omega)) ?_)
      refine toEnd hC ?_
      refine endX_seq ?_
      refine runX_seq ?_
      refine runX_regionC fun C hC => ?_
      try simp -implicitDefEqProofs (maxSteps := 4000000) (disch := first | omega | decide | (simp only [go_sem]; omega)) only [go_sem, ↓reduceIte]
      repeat (with_reducible refine And.intro (by first | assumption | omega | (simp; done) | (simp; omega)) ?_)
      refine toEnd hC ?_
      refine endX_seq ?_
      refine runX_seq ?_
      refine runX_block ?_
      refine runX_loop [0, 5, 6] (fun m S => ∃ (x3 : List UInt8) (x4 : Bool) (x5 : List ((Bool) × (List UInt8))), S = F24_S1 x3 x4 x5 ∧ m ≤ n ∧ F24_L1 m x3 x4 x5 = some r) n ⟨F24_S1 v1 true [], ?_, v1, true, [], rfl, Nat.le_refl _, h⟩ ?_
      · (try simp -implicitDefEqProofs (maxSteps := 4000000) (disch := first | omega | decide | (simp only [go_sem]; omega)) only [go_sem, ↓reduceIte])
        simp only [F24_S1]
        refine leS_trans (leS_pad _ _ 1) ?_
        simp only [List.replicate, List.cons_append, List.nil_append]
        refine leS_virt 0 59 2 rfl ?_ ?_ rfl
        · repeat (first | exact leL_refl _ | refine leL_cons (by first | exact leT_refl _ | exact leT_virt | exact leT_junk _ | exact leT_sl | exact leT_sln | exact leT_nil) ?_)
        · repeat (first | exact leOs_refl _ | refine leOs.cons (by first | exact leO.same _ | (refine leO.box (leT_agg (by repeat (first | exact leL_refl _ | refine leL_cons (by first | exact leT_refl _ | exact leT_virt | exact leT_junk _ | exact leT_sl | exact leT_sln | exact leT_nil) ?_))) rfl)) ?_)
      · clear h
        rintro m1 S ⟨x3, x4, x5, rfl, hm1, h⟩
        cases m1 with
        | zero => first | cases (show (none : Option _) = some _ from h) | (rw [F24_L1] at h; cases h)
        | succ m1 =>
          rw [F24_L1] at h
          simp only [F24_S1]
          refine runX_seq ?_
          refine runX_seq ?_
          refine runX_regionC fun C hC => ?_
          try simp -implicitDefEqProofs (maxSteps := 4000000) (disch := first | omega | decide | (simp only [go_sem]; omega)) only [go_sem, ↓reduceIte]
          repeat (with_reducible refine And.intro (by first | assumption | omega | (simp; done) | (simp; omega)) ?_)
          refine toEnd hC ?_
          refine endX_seq ?_
          rcases iteB_some h with ⟨c6, h⟩ | ⟨c6, h⟩
          · refine runX_condT rfl c6 ?_
            refine runX_skip ?_
            refine endX_seq ?_
            refine runX_block ?_
            refine runX_seq ?_
            refine runX_seq ?_
            refine runX_regionC fun C hC => ?_
            obtain ⟨g7, h⟩ := grd_some h
            try simp -implicitDefEqProofs (maxSteps := 4000000) (disch := first | omega | decide | (simp only [go_sem]; omega)) only [go_sem, ↓reduceIte]
            repeat (with_reducible refine And.intro (by first | assumption | omega | (simp; done) | (simp; omega)) ?_)
            refine toEnd hC ?_
            refine endX_seq ?_
            rcases iteB_some h with ⟨c8, h⟩ | ⟨c8, h⟩
            · refine runX_condT rfl c8 ?_
              refine runX_seq ?_
              refine runX_regionC fun C hC => ?_
              try simp -implicitDefEqProofs (maxSteps := 4000000) (disch := first | omega | decide | (simp only [go_sem]; omega)) only [go_sem, ↓reduceIte]
              repeat (with_reducible refine And.intro (by first | assumption | omega | (simp; done) | (simp; omega)) ?_)
              refine toEnd hC ?_
              refine endX_seq ?_
              refine runX_seq ?_
              refine runX_regionC fun C hC => ?_
              obtain ⟨g9, h⟩ := grd_some h
              obtain ⟨v10, h10, h⟩ := bnd_some h
              try simp -implicitDefEqProofs (maxSteps := 4000000) (disch := first | omega | decide | (simp only [go_sem]; omega)) only [go_sem, ↓reduceIte]
              repeat (with_reducible refine And.intro (by first | assumption | omega | (simp; done) | (simp; omega)) ?_)
              refine callG_X (by first | rfl | (simp only [go_sem]; done) | (simp only [closedL, closedT, Bool.and_true]; exact closedL_map _ (fun _ => by first | rfl | (simp only [go_sem]; done)) _)) (F40_ok m1 (x3.drop 1) _ h10) (by repeat (first | exact leL_refl _ | refine leL_cons (by first | exact leT_refl _ | exact leT_virt | exact leT_junk _ | exact leT_sl | exact leT_sln | exact leT_nil) ?_)) ?_
              try simp -implicitDefEqProofs (maxSteps := 4000000) (disch := first | omega | decide | (simp only [go_sem]; omega)) only [go_sem, ↓reduceIte]
              repeat (with_reducible refine And.intro (by first | assumption | omega | (simp; done) | (simp; omega)) ?_)
              refine toEnd hC ?_
              refine endX_seq ?_
              refine runX_exit ?_
              refine endX_seqE ?_
              refine endX_blkE ?_
              refine endX_q (roundQ_normal ⟨m1, by omega, F24_S1 v10 true x5, ?_, v10, true, x5, rfl, by omega, h⟩)
              simp only [F24_S1]
              (try simp -implicitDefEqProofs (maxSteps := 4000000) (disch := first | omega | decide | (simp only [go_sem]; omega)) only [go_sem, ↓reduceIte])
              first | exact leS_refl _ | (refine leS_le ?_ ?_ <;> first | exact leL_refl _ | exact leOs_refl _ | (repeat (first | exact leL_refl _ | refine leL_cons (by first | exact leT_refl _ | exact leT_virt | exact leT_junk _ | exact leT_sl | exact leT_sln | exact leT_nil) ?_)))
            · refine runX_condF rfl c8 ?_
              refine runX_skip ?_
              refine endX_seq ?_
              refine runX_seq ?_
              refine runX_regionC fun C hC => ?_
              obtain ⟨v11, h11, h⟩ := bnd_some h
              try simp -implicitDefEqProofs (maxSteps := 4000000) (disch := first | omega | decide | (simp only [go_sem]; omega)) only [go_sem, ↓reduceIte]
              repeat (with_reducible refine And.intro (by first | assumption | omega | (simp; done) | (simp; omega)) ?_)
              refine callG_X (by first | rfl | (simp only [go_sem]; done) | (simp only [closedL, closedT, Bool.and_true]; exact closedL_map _ (fun _ => by first | rfl | (simp only [go_sem]; done)) _)) (F47_ok m1 x3 _ h11) (by repeat (first | exact leL_refl _ | refine leL_cons (by first | exact leT_refl _ | exact leT_virt | exact leT_junk _ | exact leT_sl | exact leT_sln | exact leT_nil) ?_)) ?_
              try simp -implicitDefEqProofs (maxSteps := 4000000) (disch := first | omega | decide | (simp only [go_sem]; omega)) only [go_sem, ↓reduceIte]
              repeat (with_reducible refine And.intro (by first | assumption | omega | (simp; done) | (simp; omega)) ?_)
              refine toEnd hC ?_
              refine endX_seq ?_
              refine runX_seq ?_
              refine runX_seq ?_
              refine runX_regionC fun C hC => ?_
              try simp -implicitDefEqProofs (maxSteps := 4000000) (disch := first | omega | decide | (simp only [go_sem]; omega)) only [go_sem, ↓reduceIte]
              repeat (with_reducible refine And.intro (by first | assumption | omega | (simp; done) | (simp; omega)) ?_)
              rcases iteB_some h with ⟨c12, h⟩ | ⟨c12, h⟩
              · refine guardK_F c12 ?_
                try simp -implicitDefEqProofs (maxSteps := 4000000) (disch := first | omega | decide | (simp only [go_sem]; omega)) only [go_sem, ↓reduceIte]
                repeat (with_reducible refine And.intro (by first | assumption | omega | (simp; done) | (simp; omega)) ?_)
                refine toEnd hC ?_
                refine endX_seq ?_
                refine runX_condT rfl rfl ?_
                refine runX_seq ?_
                refine runX_regionC fun C hC => ?_
                try simp -implicitDefEqProofs (maxSteps := 4000000) (disch := first | omega | decide | (simp only [go_sem]; omega)) only [go_sem, ↓reduceIte]
                repeat (with_reducible refine And.intro (by first | assumption | omega | (simp; done) | (simp; omega)) ?_)
                refine toEnd hC ?_
                refine endX_seq ?_
                refine runX_ret ?_
                refine endX_seqR ?_
                refine endX_blkR ?_
                refine endX_q (roundQ_ret ?_)
                refine endX_blkR ?_
                refine endX_seqR ?_
                refine endX_q ?_
                obtain rfl := Option.some.inj h
                show RetW _ _ _ _ _
                simp only [RetW]
                (try simp -implicitDefEqProofs (maxSteps := 4000000) (disch := first | omega | decide | (simp only [go_sem]; omega)) only [go_sem, ↓reduceIte])
                (try simp (disch := omega) only [if_pos, Nat.sub_zero])
                first | exact leT_refl _ | (refine ⟨rfl, ?_⟩; first | exact leT_refl _ | exact leT_sl | exact leT_sln | exact leT_nil | (refine leT_tup (by repeat (first | exact leL_refl _ | refine leL_cons (by first | exact leT_refl _ | exact leT_virt | exact leT_junk _ | exact leT_sl | exact leT_sln | exact leT_nil) ?_))) | (refine leT_agg (by repeat (first | exact leL_refl _ | refine leL_cons (by first | exact leT_refl _ | exact leT_virt | exact leT_junk _ | exact leT_sl | exact leT_sln | exact leT_nil) ?_)))) | (first | exact leT_refl _ | exact leT_sl | exact leT_sln | exact leT_nil | (refine leT_tup (by repeat (first | exact leL_refl _ | refine leL_cons (by first | exact leT_refl _ | exact leT_virt | exact leT_junk _ | exact leT_sl | exact leT_sln | exact leT_nil) ?_))) | (refine leT_agg (by repeat (first | exact leL_refl _ | refine leL_cons (by first | exact leT_refl _ | exact leT_virt | exact leT_junk _ | exact leT_sl | exact leT_sln | exact leT_nil) ?_)))) | (simp only [List.append_assoc, List.cons_append, List.nil_append]; exact leT_refl _) | (rw [List.take_of_length_le (by simp)]; (try simp only [List.append_assoc, List.cons_append, List.nil_append]); exact leT_refl _)
              · refine guardK_T c12 ?_
                try simp -implicitDefEqProofs (maxSteps := 4000000) (disch := first | omega | decide | (simp only [go_sem]; omega)) only [go_sem, ↓reduceIte]
                repeat (with_reducible refine And.intro (by first | assumption | omega | (simp; done) | (simp; omega)) ?_)
                refine toEnd hC ?_
                refine endX_seq ?_
                rcases iteB_some h with ⟨c13, h⟩ | ⟨c13, h⟩
                · refine runX_condT rfl c13 ?_
                  refine runX_seq ?_
                  refine runX_regionC fun C hC => ?_
                  try simp -implicitDefEqProofs (maxSteps := 4000000) (disch := first | omega | decide | (simp only [go_sem]; omega)) only [go_sem, ↓reduceIte]
                  repeat (with_reducible refine And.intro (by first | assumption | omega | (simp; done) | (simp; omega)) ?_)
                  refine toEnd hC ?_
                  refine endX_seq ?_
                  refine runX_ret ?_
                  refine endX_seqR ?_
                  refine endX_blkR ?_
                  refine endX_q (roundQ_ret ?_)
                  refine endX_blkR ?_
                  refine endX_seqR ?_
                  refine endX_q ?_
                  obtain rfl := Option.some.inj h
                  show RetW _ _ _ _ _
                  simp only [RetW]
                  (try simp -implicitDefEqProofs (maxSteps := 4000000) (disch := first | omega | decide | (simp only [go_sem]; omega)) only [go_sem, ↓reduceIte])
                  (try simp (disch := omega) only [if_pos, Nat.sub_zero])
                  first | exact leT_refl _ | (refine ⟨rfl, ?_⟩; first | exact leT_refl _ | exact leT_sl | exact leT_sln | exact leT_nil | (refine leT_tup (by repeat (first | exact leL_refl _ | refine leL_cons (by first | exact leT_refl _ | exact leT_virt | exact leT_junk _ | exact leT_sl | exact leT_sln | exact leT_nil) ?_))) | (refine leT_agg (by repeat (first | exact leL_refl _ | refine leL_cons (by first | exact leT_refl _ | exact leT_virt | exact leT_junk _ | exact leT_sl | exact leT_sln | exact leT_nil) ?_)))) | (first | exact leT_refl _ | exact leT_sl | exact leT_sln | exact leT_nil | (refine leT_tup (by repeat (first | exact leL_refl _ | refine leL_cons (by first | exact leT_refl _ | exact leT_virt | exact leT_junk _ | exact leT_sl | exact leT_sln | exact leT_nil) ?_))) | (refine leT_agg (by repeat (first | exact leL_refl _ | refine leL_cons (by first | exact leT_refl _ | exact leT_virt | exact leT_junk _ | exact leT_sl | exact leT_sln | exact leT_nil) ?_)))) | (simp only [List.append_assoc, List.cons_append, List.nil_append]; exact leT_refl _) | (rw [List.take_of_length_le (by simp)]; (try simp only [List.append_assoc, List.cons_append, List.nil_append]); exact leT_refl _)
                · refine runX_condF rfl c13 ?_
                  refine runX_skip ?_
                  refine endX_seq ?_
                  refine runX_seq ?_
                  refine runX_regionC fun C hC => ?_
                  try simp -implicitDefEqProofs (maxSteps := 4000000) (disch := first | omega | decide | (simp only [go_sem]; omega)) only [go_sem, ↓reduceIte]
                  repeat (with_reducible refine And.intro (by first | assumption | omega | (simp; done) | (simp; omega)) ?_)
                  refine bs_go <| buildX_val ?_
                  obtain ⟨g14, h⟩ := grd_some h
                  try simp -implicitDefEqProofs (maxSteps := 4000000) (disch := first | omega | decide | (simp only [go_sem]; omega)) only [go_sem, ↓reduceIte]
                  repeat (with_reducible refine And.intro (by first | assumption | omega | (simp; done) | (simp; omega)) ?_)
                  refine toEnd hC ?_
                  refine endX_seq ?_
                  refine runX_seq ?_
                  refine runX_regionC fun C hC => ?_
                  try simp -implicitDefEqProofs (maxSteps := 4000000) (disch := first | omega | decide | (simp only [go_sem]; omega)) only [go_sem, ↓reduceIte]
                  repeat (with_reducible refine And.intro (by first | assumption | omega | (simp; done) | (simp; omega)) ?_)
                  refine toEnd hC ?_
                  refine endX_seq ?_
                  refine runX_regionC fun C hC => ?_
                  obtain ⟨v15, h15, h⟩ := bnd_some h
                  try simp -implicitDefEqProofs (maxSteps := 4000000) (disch := first | omega | decide | (simp only [go_sem]; omega)) only [go_sem, ↓reduceIte]
                  repeat (with_reducible refine And.intro (by first | assumption | omega | (simp; done) | (simp; omega)) ?_)
                  refine callG_X (by first | rfl | (simp only [go_sem]; done) | (simp only [closedL, closedT, Bool.and_true]; exact closedL_map _ (fun _ => by first | rfl | (simp only [go_sem]; done)) _)) (F40_ok m1 v11.2.1 _ h15) (by repeat (first | exact leL_refl _ | refine leL_cons (by first | exact leT_refl _ | exact leT_virt | exact leT_junk _ | exact leT_sl | exact leT_sln | exact leT_nil) ?_)) ?_
                  try simp -implicitDefEqProofs (maxSteps := 4000000) (disch := first | omega | decide | (simp only [go_sem]; omega)) only [go_sem, ↓reduceIte]
                  repeat (with_reducible refine And.intro (by first | assumption | omega | (simp; done) | (simp; omega)) ?_)
                  refine toEnd hC ?_
                  refine endX_blk ?_
                  refine endX_q (roundQ_normal ⟨m1, by omega, F24_S1 v15 false (x5 ++ [(v11.1.1, v11.1.2)]), ?_, v15, false, (x5 ++ [(v11.1.1, v11.1.2)]), rfl, by omega, h⟩)
                  simp only [F24_S1]
                  (try simp -implicitDefEqProofs (maxSteps := 4000000) (disch := first | omega | decide | (simp only [go_sem]; omega)) only [go_sem, ↓reduceIte])
                  first | exact leS_refl _ | (refine leS_le ?_ ?_ <;> first | exact leL_refl _ | exact leOs_refl _ | (repeat (first | exact leL_refl _ | refine leL_cons (by first | exact leT_refl _ | exact leT_virt | exact leT_junk _ | exact leT_sl | exact leT_sln | exact leT_nil) ?_)))
          · refine runX_condF rfl c6 ?_
            refine runX_exit ?_
            refine endX_seqE ?_
            refine endX_q (roundQ_exit ?_)
            refine endX_blkE ?_
            refine endX_seq ?_
            refine runX_seq ?_
            refine runX_regionC fun C hC => ?_
            try simp -implicitDefEqProofs (maxSteps := 4000000) (disch := first | omega | decide | (simp only [go_sem]; omega)) only [go_sem, ↓reduceIte]
            repeat (with_reducible refine And.intro (by first | assumption | omega | (simp; done) | (simp; omega)) ?_)
            refine toEnd hC ?_
            refine endX_seq ?_
            refine runX_ret ?_
            refine endX_q ?_
            obtain rfl := Option.some.inj h
            show RetW _ _ _ _ _
            simp only [RetW]
            (try simp -implicitDefEqProofs (maxSteps := 4000000) (disch := first | omega | decide | (simp only [go_sem]; omega)) only [go_sem, ↓reduceIte])
            (try simp (disch := omega) only [if_pos, Nat.sub_zero])
            first | exact leT_refl _ | (refine ⟨rfl, ?_⟩; first | exact leT_refl _ | exact leT_sl | exact leT_sln | exact leT_nil | (refine leT_tup (by repeat (first | exact leL_refl _ | refine leL_cons (by first | exact leT_refl _ | exact leT_virt | exact leT_junk _ | exact leT_sl | exact leT_sln | exact leT_nil) ?_))) | (refine leT_agg (by repeat (first | exact leL_refl _ | refine leL_cons (by first | exact leT_refl _ | exact leT_virt | exact leT_junk _ | exact leT_sl | exact leT_sln | exact leT_nil) ?_)))) | (first | exact leT_refl _ | exact leT_sl | exact leT_sln | exact leT_nil | (refine leT_tup (by repeat (first | exact leL_refl _ | refine leL_cons (by first | exact leT_refl _ | exact leT_virt | exact leT_junk _ | exact leT_sl | exact leT_sln | exact leT_nil) ?_))) | (refine leT_agg (by repeat (first | exact leL_refl _ | refine leL_cons (by first | exact leT_refl _ | exact leT_virt | exact leT_junk _ | exact leT_sl | exact leT_sln | exact leT_nil) ?_)))) | (simp only [List.append_assoc, List.cons_append, List.nil_append]; exact leT_refl _) | (rw [List.take_of_length_le (by simp)]; (try simp only [List.append_assoc, List.cons_append, List.nil_append]); exact leT_refl _)
end Go.Proofs.YtbdkofondpalpaaDoorX

set_option linter.unusedVariables false
set_option linter.unusedSimpArgs false
namespace Go.Proofs.YtbdkofondpalpaaDoorX
open Go Go.RowKit Go.Proofs
set_option maxRecDepth 100000
attribute [local go_sem ↓] stepsK_build stepsK_build0 stepsK_bs stepsK_bs0 appendS
attribute [local go_sem] String.reduceEq String.reduceNe reduceCtorEq Int.reduceEq Nat.reduceAdd Nat.reduceSub Nat.reduceMul Nat.reduceLT Nat.reduceLeDiff Nat.reduceEqDiff Nat.reduceBEq Int.reduceToNat Int.reduceLT Int.reduceLE Int.reduceGT Int.reduceGE Int.reduceAdd Int.reduceSub Int.reduceMul Int.reduceNeg Int.reduceBEq Int.reduceBNe Int.reducePow Int.reduceDiv Int.reduceMod Int.reduceTDiv Int.reduceTMod Int.reduceNatCast
/-! ### header.Words -/
def F25_S1 (v1 : List (List UInt8)) (x2 : Int) (x3 : List (List UInt8)) : St := ⟨[.junk, .junk, .junk, .rsl 0 1 0 x3.length, .junk, .junk, .junk, .sl 1 false (List.map eS v1), .imm (.int .i64 (v1.length : Int)), .imm (.int .i64 x2), .junk, .junk, .junk, .junk, .junk, .junk, .junk, .junk, .junk, .junk, .junk, .junk, .junk], [some (.buf 9 1 (List.map eS x3) 0)]⟩
def F25_L1 : Nat → (List (List UInt8)) → (Int) → (List (List UInt8)) → Option (List (List UInt8))
  | 0, _, _, _ => none
  | m1 + 1, v1, x2, x3 => iteB (decide (x2 < (v1.length : Int))) (grd (0 ≤ x2 ∧ x2 < (v1.length : Int)) ((F34 m1 (v1.getD x2.toNat default) ([32, 9] : List UInt8)).bind fun v6 => iteB (!(v6 == [])) (grd ((x3.length + 1) ≤ 549755813888) (F25_L1 m1 v1 (IntKind.wrap .i64 (x2 + (1 : Int))) (x3 ++ [v6]))) (F25_L1 m1 v1 (IntKind.wrap .i64 (x2 + (1 : Int))) x3))) (some x3)
def F25 (n : Nat) (a0 : List UInt8) : Option (List (List UInt8)) := (F48 n a0 ([44] : List UInt8)).bind fun v1 => F25_L1 n v1 (0 : Int) []
set_option maxHeartbeats 4000000 in
theorem F25_ok : ∀ (n : Nat) (a0 : List UInt8) (r : List (List UInt8)), F25 n a0 = some r → FnC Tryd.prog 25 [.imm (.string (bs a0))] (.sl 1 false (List.map eS r))
  | n, a0, r, h => by
    unfold F25 at h
    refine FnC.goX mixed Tryd.func25 (by kernel_rfl) rfl ?_
    simp only [Tryd.ntmps25, List.length_cons, List.length_nil, List.replicate, List.cons_append, List.nil_append, Nat.reduceAdd, Nat.reduceSub]
    refine runX_seq ?_
    refine runX_regionC fun C hC => ?_
    try simp -implicitDefEqProofs (maxSteps := 4000000) (disch := first | omega | decide | (simp only [go_sem]; omega)) only [go_sem, ↓reduceIte]
    repeat (with_reducible refine And.intro (by first | assumption | omega | (simp; done) | (simp; omega)) ?_)
    refine toEnd hC ?_
    refine endX_seq ?_
    refine runX_seq ?_
    refine runX_regionC fun C hC => ?_
    try simp -implicitDefEqProofs (maxSteps := 4000000) (disch := first | omega | decide | (simp only [go_sem]; omega)) only [go_sem, ↓reduceIte]
    repeat (with_reducible refine And.intro (by first | assumption | omega | (simp; done) | (simp; omega)) ?_)
    refine toEnd hC ?_
    refine endX_seq ?_
    refine runX_seq ?_
    refine runX_seq ?_
    refine runX_regionC fun C hC => ?_
    obtain ⟨v1, h1, h⟩ := bnd_some h
    try simp -implicitDefEqProofs (maxSteps := 4000000) (disch := first | omega | decide | (simp only [go_sem]; omega)) only [go_sem, ↓reduceIte]
    repeat (with_reducible refine And.intro (by first | assumption | omega | (simp; done) | (simp; omega)) ?_)
    refine callG_X (by first | rfl | (simp only [go_sem]; done) | (simp only [closedL, closedT, Bool.and_true]; exact closedL_map _ (fun _ => by first | rfl | (simp only [go_sem]; done)) _)) (F48_ok n a0 ([44] : List UInt8) _ h1) (by repeat (first | exact leL_refl _ | refine leL_cons (by first | exact leT_refl _ | exact leT_virt | exact leT_junk _ | exact leT_sl | exact leT_sln | exact leT_nil) ?_)) ?_
    try simp -implicitDefEqProofs (maxSteps := 4000000) (disch := first | omega | decide | (simp only [go_sem]; omega)) only [go_sem, ↓reduceIte]
    repeat (with_reducible refine And.intro (by first | assumption | omega | (simp; done) | (simp; omega)) ?_)
    refine toEnd hC ?_
    refine endX_seq ?_
    refine runX_block ?_
    refine runX_loop [3, 7, 8, 9] (fun m S => ∃ (x2 : Int) (x3 : List (List UInt8)), S = F25_S1 v1 x2 x3 ∧ m ≤ n ∧ F25_L1 m v1 x2 x3 = some r) n ⟨F25_S1 v1 (0 : Int) [], ?_, (0 : Int), [], rfl, Nat.le_refl _, h⟩ ?_
    · (try simp -implicitDefEqProofs (maxSteps := 4000000) (disch := first | omega | decide | (simp only [go_sem]; omega)) only [go_sem, ↓reduceIte])
      simp only [F25_S1]
      refine leS_trans (leS_pad _ _ 1) ?_
      simp only [List.replicate, List.cons_append, List.nil_append]
      refine leS_virt 0 9 1 rfl ?_ ?_ rfl
      · repeat (first | exact leL_refl _ | refine leL_cons (by first | exact leT_refl _ | exact leT_virt | exact leT_junk _ | exact leT_sl | exact leT_sln | exact leT_nil) ?_)
      · repeat (first | exact leOs_refl _ | refine leOs.cons (by first | exact leO.same _ | (refine leO.box (leT_agg (by repeat (first | exact leL_refl _ | refine leL_cons (by first | exact leT_refl _ | exact leT_virt | exact leT_junk _ | exact leT_sl | exact leT_sln | exact leT_nil) ?_))) rfl)) ?_)
    · clear h
      rintro m1 S ⟨x2, x3, rfl, hm1, h⟩
      cases m1 with
      | zero => first | cases (show (none : Option _) = some _ from h) | (rw [F25_L1] at h; cases h)
      | succ m1 =>
        rw [F25_L1] at h
        simp only [F25_S1]
        refine runX_seq ?_
        refine runX_regionC fun C hC => ?_
        try simp -implicitDefEqProofs (maxSteps := 4000000) (disch := first | omega | decide | (simp only [go_sem]; omega)) only [go_sem, ↓reduceIte]
        repeat (with_reducible refine And.intro (by first | assumption | omega | (simp; done) | (simp; omega)) ?_)
        refine toEnd hC ?_
        refine endX_seq ?_
        refine runX_seq ?_
        rcases iteB_some h with ⟨c4, h⟩ | ⟨c4, h⟩
        · refine runX_condT rfl c4 ?_
          refine runX_skip ?_
          refine endX_seq ?_
          refine runX_seq ?_
          refine runX_block ?_
          refine runX_seq ?_
          refine runX_regionC fun C hC => ?_
          obtain ⟨g5, h⟩ := grd_some h
          try simp -implicitDefEqProofs (maxSteps := 4000000) (disch := first | omega | decide | (simp only [go_sem]; omega)) only [go_sem, ↓reduceIte]
          repeat (with_reducible refine And.intro (by first | assumption | omega | (simp; done) | (simp; omega)) ?_)
          refine toEnd hC ?_
          refine endX_seq ?_
          refine runX_seq ?_
          refine runX_regionC fun C hC => ?_
          obtain ⟨v6, h6, h⟩ := bnd_some h
          try simp -implicitDefEqProofs (maxSteps := 4000000) (disch := first | omega | decide | (simp only [go_sem]; omega)) only [go_sem, ↓reduceIte]
          repeat (with_reducible refine And.intro (by first | assumption | omega | (simp; done) | (simp; omega)) ?_)
          refine callG_X (by first | rfl | (simp only [go_sem]; done) | (simp only [closedL, closedT, Bool.and_true]; exact closedL_map _ (fun _ => by first | rfl | (simp only [go_sem]; done)) _)) (F34_ok m1 (v1.getD x2.toNat default) ([32, 9] : List UInt8) _ h6) (by repeat (first | exact leL_refl _ | refine leL_cons (by first | exact leT_refl _ | exact leT_virt | exact leT_junk _ | exact leT_sl | exact leT_sln | exact leT_nil) ?_)) ?_
          try simp -implicitDefEqProofs (maxSteps := 4000000) (disch := first | omega | decide | (simp only [go_sem]; omega)) only [go_sem, ↓reduceIte]
          repeat (with_reducible refine And.intro (by first | assumption | omega | (simp; done) | (simp; omega)) ?_)
          refine toEnd hC ?_
          refine endX_seq ?_
          refine runX_seq ?_
          refine runX_regionC fun C hC => ?_
          try simp -implicitDefEqProofs (maxSteps := 4000000) (disch := first | omega | decide | (simp only [go_sem]; omega)) only [go_sem, ↓reduceIte]
          repeat (with_reducible refine And.intro (by first | assumption | omega | (simp; done) | (simp; omega)) ?_)
          refine toEnd hC ?_
          refine endX_seq ?_
          rcases iteB_some h with ⟨c7, h⟩ | ⟨c7, h⟩
          · refine runX_condT rfl c7 ?_
            refine runX_regionC fun C hC => ?_
            try simp -implicitDefEqProofs (maxSteps := 4000000) (disch := first | omega | decide | (simp only [go_sem]; omega)) only [go_sem, ↓reduceIte]
            repeat (with_reducible refine And.intro (by first | assumption | omega | (simp; done) | (simp; omega)) ?_)
            refine bs_go <| buildX_val ?_
            obtain ⟨g8, h⟩ := grd_some h
            try simp -implicitDefEqProofs (maxSteps := 4000000) (disch := first | omega | decide | (simp only [go_sem]; omega)) only [go_sem, ↓reduceIte]
            repeat (with_reducible refine And.intro (by first | assumption | omega | (simp; done) | (simp; omega)) ?_)
            refine toEnd hC ?_
            refine endX_blk ?_
            refine endX_seq ?_
            refine runX_regionC fun C hC => ?_
            try simp -implicitDefEqProofs (maxSteps := 4000000) (disch := first | omega | decide | (simp only [go_sem]; omega)) only [go_sem, ↓reduceIte]
            repeat (with_reducible refine And.intro (by first | assumption | omega | (simp; done) | (simp; omega)) ?_)
            refine toEnd hC ?_
            refine endX_q (roundQ_normal ⟨m1, by omega, F25_S1 v1 (IntKind.wrap .i64 (x2 + (1 : Int))) (x3 ++ [v6]), ?_, (IntKind.wrap .i64 (x2 + (1 : Int))), (x3 ++ [v6]), rfl, by omega, h⟩)
            simp only [F25_S1]
            (try simp -implicitDefEqProofs (maxSteps := 4000000) (disch := first | omega | decide | (simp only [go_sem]; omega)) only [go_sem, ↓reduceIte])
            first | exact leS_refl _ | (refine leS_le ?_ ?_ <;> first | exact leL_refl _ | exact leOs_refl _ | (repeat (first | exact leL_refl _ | refine leL_cons (by first | exact leT_refl _ | exact leT_virt | exact leT_junk _ | exact leT_sl | exact leT_sln | exact leT_nil) ?_)))
          · refine runX_condF rfl c7 ?_
            refine runX_skip ?_
            refine endX_blk ?_
            refine endX_seq ?_
            refine runX_regionC fun C hC => ?_
            try simp -implicitDefEqProofs (maxSteps := 4000000) (disch := first | omega | decide | (simp only [go_sem]; omega)) only [go_sem, ↓reduceIte]
            repeat (with_reducible refine And.intro (by first | assumption | omega | (simp; done) | (simp; omega)) ?_)
            refine toEnd hC ?_
            refine endX_q (roundQ_normal ⟨m1, by omega, F25_S1 v1 (IntKind.wrap .i64 (x2 + (1 : Int))) x3, ?_, (IntKind.wrap .i64 (x2 + (1 : Int))), x3, rfl, by omega, h⟩)
            simp only [F25_S1]
            (try simp -implicitDefEqProofs (maxSteps := 4000000) (disch := first | omega | decide | (simp only [go_sem]; omega)) only [go_sem, ↓reduceIte])
            first | exact leS_refl _ | (refine leS_le ?_ ?_ <;> first | exact leL_refl _ | exact leOs_refl _ | (repeat (first | exact leL_refl _ | refine leL_cons (by first | exact leT_refl _ | exact leT_virt | exact leT_junk _ | exact leT_sl | exact leT_sln | exact leT_nil) ?_)))
        · refine runX_condF rfl c4 ?_
          refine runX_exit ?_
          refine endX_seqE ?_
          refine endX_q (roundQ_exit ?_)
          refine endX_blkE ?_
          refine endX_seq ?_
          refine runX_seq ?_
          refine runX_regionC fun C hC => ?_
          try simp -implicitDefEqProofs (maxSteps := 4000000) (disch := first | omega | decide | (simp only [go_sem]; omega)) only [go_sem, ↓reduceIte]
          repeat (with_reducible refine And.intro (by first | assumption | omega | (simp; done) | (simp; omega)) ?_)
          refine toEnd hC ?_
          refine endX_seq ?_
          refine runX_ret ?_
          refine endX_q ?_
          obtain rfl := Option.some.inj h
          show RetW _ _ _ _ _
          simp only [RetW]
          (try simp -implicitDefEqProofs (maxSteps := 4000000) (disch := first | omega | decide | (simp only [go_sem]; omega)) only [go_sem, ↓reduceIte])
          (try simp (disch := omega) only [if_pos, Nat.sub_zero])
          exact leT_refl _
end Go.Proofs.YtbdkofondpalpaaDoorX

set_option linter.unusedVariables false
set_option linter.unusedSimpArgs false
namespace Go.Proofs.YtbdkofondpalpaaDoorX
open Go Go.RowKit Go.Proofs
set_option maxRecDepth 100000
attribute [local go_sem ↓] stepsK_build stepsK_build0 stepsK_bs stepsK_bs0 appendS
attribute [local go_sem] String.reduceEq String.reduceNe reduceCtorEq Int.reduceEq Nat.reduceAdd Nat.reduceSub Nat.reduceMul Nat.reduceLT Nat.reduceLeDiff Nat.reduceEqDiff Nat.reduceBEq Int.reduceToNat Int.reduceLT Int.reduceLE Int.reduceGT Int.reduceGE Int.reduceAdd Int.reduceSub Int.reduceMul Int.reduceNeg Int.reduceBEq Int.reduceBNe Int.reducePow Int.reduceDiv Int.reduceMod Int.reduceTDiv Int.reduceTMod Int.reduceNatCast
/-! ### shadowboxref30.Words -/
def F26_S1 (a0 : List UInt8) (x1 : List UInt8) (x2 : Int) (x3 : List (List UInt8)) : St := ⟨[.imm (.string (bs a0)), .junk, .junk, .rsl 0 1 0 x3.length, .imm (.string (bs x1)), .imm (.int .i64 x2), .junk, .junk, .junk, .junk, .junk, .junk, .junk, .junk, .junk, .junk, .junk, .junk, .junk, .junk, .junk, .junk, .junk, .junk, .junk, .junk, .junk, .junk, .junk, .junk, .junk, .junk, .junk, .junk, .junk, .junk, .junk, .junk], [some (.buf 9 1 (List.map eS x3) 0)]⟩
def F26_L1 : Nat → (List UInt8) → (List UInt8) → (Int) → (List (List UInt8)) → Option (List (List UInt8))
  | 0, _, _, _, _ => none
  | m1 + 1, a0, x1, x2, x3 => iteB (decide (x2 ≤ (a0.length : Int))) (iteB (decide (x2 < (a0.length : Int))) (grd (0 ≤ x2 ∧ x2 < (a0.length : Int)) (iteB (((a0.getD x2.toNat 0).toNat : Int) != (44 : Int)) (grd (0 ≤ x2 ∧ x2 ≤ (IntKind.wrap .i64 (x2 + (1 : Int))) ∧ (IntKind.wrap .i64 (x2 + (1 : Int))) ≤ (a0.length : Int)) (grd (x1.length + ((a0.take (IntKind.wrap .i64 (x2 + (1 : Int))).toNat).drop x2.toNat).length ≤ 9223372036854775807) (F26_L1 m1 a0 (x1 ++ ((a0.take (IntKind.wrap .i64 (x2 + (1 : Int))).toNat).drop x2.toNat)) (IntKind.wrap .i64 (x2 + (1 : Int))) x3))) ((F40 m1 x1).bind fun v10 => iteB (!(v10 == [])) ((F40 m1 x1).bind fun v12 => grd ((x3.length + 1) ≤ 549755813888) (F26_L1 m1 a0 [] (IntKind.wrap .i64 (x2 + (1 : Int))) (x3 ++ [v12]))) (F26_L1 m1 a0 [] (IntKind.wrap .i64 (x2 + (1 : Int))) x3)))) ((F40 m1 x1).bind fun v14 => iteB (!(v14 == [])) ((F40 m1 x1).bind fun v16 => grd ((x3.length + 1) ≤ 549755813888) (F26_L1 m1 a0 [] (IntKind.wrap .i64 (x2 + (1 : Int))) (x3 ++ [v16]))) (F26_L1 m1 a0 [] (IntKind.wrap .i64 (x2 + (1 : Int))) x3))) (some x3)
def F26 (n : Nat) (a0 : List UInt8) : Option (List (List UInt8)) := F26_L1 n a0 [] (0 : Int) []
set_option maxHeartbeats 4000000 in
theorem F26_ok : ∀ (n : Nat) (a0 : List UInt8) (r : List (List UInt8)), F26 n a0 = some r → FnC Tryd.prog 26 [.imm (.string (bs a0))] (.sl 1 false (List.map eS r))
  | n, a0, r, h => by
    unfold F26 at h
    refine FnC.goX mixed Tryd.func26 (by kernel_rfl) rfl ?_
    simp only [Tryd.ntmps26, List.length_cons, List.length_nil, List.replicate, List.cons_append, List.nil_append, Nat.reduceAdd, Nat.reduceSub]
    refine runX_seq ?_
    refine runX_regionC fun C hC => ?_
    try simp -implicitDefEqProofs (maxSteps := 4000000) (disch := first | omega | decide | (simp only [go_sem]; omega)) only [go_sem, ↓reduceIte]
    repeat (with_reducible refine And.intro (by first | assumption | omega | (simp; done) | (simp; omega)) ?_)
    refine toEnd hC ?_
    refine endX_seq ?_
    refine runX_seq ?_
    refine runX_regionC fun C hC => ?_
    try simp -implicitDefEqProofs (maxSteps := 4000000) (disch := first | omega | decide | (simp only [go_sem]; omega)) only [go_sem, ↓reduceIte]
    repeat (with_reducible refine And.intro (by first | assumption | omega | (simp; done) | (simp; omega)) ?_)
    refine toEnd hC ?_
    refine endX_seq ?_
    refine runX_seq ?_
    refine runX_regionC fun C hC => ?_
    try simp -implicitDefEqProofs (maxSteps := 4000000) (disch := first | omega | decide | (simp only [go_sem]; omega)) only [go_sem, ↓reduceIte]
    repeat (with_reducible refine And.intro (by first | assumption | omega | (simp; done) | (simp; omega)) ?_)
    refine toEnd hC ?_
    refine endX_seq ?_
    refine runX_seq ?_
    refine runX_seq ?_
    refine runX_regionC fun C hC => ?_
    try simp -implicitDefEqProofs (maxSteps := 4000000) (disch := first | omega | decide | (simp only [go_sem]; omega)) only [go_sem, ↓reduceIte]
    repeat (with_reducible refine And.intro (by first | assumption | omega | (simp; done) | (simp; omega)) ?_)
    refine toEnd hC ?_
    refine endX_seq ?_
    refine runX_block ?_
    refine runX_loop [0, 3, 4, 5] (fun m S => ∃ (x1 : List UInt8) (x2 : Int) (x3 : List (List UInt8)), S = F26_S1 a0 x1 x2 x3 ∧ m ≤ n ∧ F26_L1 m a0 x1 x2 x3 = some r) n ⟨F26_S1 a0 [] (0 : Int) [], ?_, [], (0 : Int), [], rfl, Nat.le_refl _, h⟩ ?_
    · (try simp -implicitDefEqProofs (maxSteps := 4000000) (disch := first | omega | decide | (simp only [go_sem]; omega)) only [go_sem, ↓reduceIte])
      simp only [F26_S1]
      refine leS_trans (leS_pad _ _ 1) ?_
      simp only [List.replicate, List.cons_append, List.nil_append]
      refine leS_virt 0 9 1 rfl ?_ ?_ rfl
      · repeat (first | exact leL_refl _ | refine leL_cons (by first | exact leT_refl _ | exact leT_virt | exact leT_junk _ | exact leT_sl | exact leT_sln | exact leT_nil) ?_)
      · repeat (first | exact leOs_refl _ | refine leOs.cons (by first | exact leO.same _ | (refine leO.box (leT_agg (by repeat (first | exact leL_refl _ | refine leL_cons (by first | exact leT_refl _ | exact leT_virt | exact leT_junk _ | exact leT_sl | exact leT_sln | exact leT_nil) ?_))) rfl)) ?_)
    · clear h
      rintro m1 S ⟨x1, x2, x3, rfl, hm1, h⟩
      cases m1 with
      | zero => first | cases (show (none : Option _) = some _ from h) | (rw [F26_L1] at h; cases h)
      | succ m1 =>
        rw [F26_L1] at h
        simp only [F26_S1]
        refine runX_seq ?_
        refine runX_seq ?_
        refine runX_regionC fun C hC => ?_
        try simp -implicitDefEqProofs (maxSteps := 4000000) (disch := first | omega | decide | (simp only [go_sem]; omega)) only [go_sem, ↓reduceIte]
        repeat (with_reducible refine And.intro (by first | assumption | omega | (simp; done) | (simp; omega)) ?_)
        refine toEnd hC ?_
        refine endX_seq ?_
        rcases iteB_some h with ⟨c4, h⟩ | ⟨c4, h⟩
        · refine runX_condT rfl c4 ?_
          refine runX_skip ?_
          refine endX_seq ?_
          refine runX_seq ?_
          refine runX_block ?_
          refine runX_seq ?_
          refine runX_seq ?_
          refine runX_regionC fun C hC => ?_
          try simp -implicitDefEqProofs (maxSteps := 4000000) (disch := first | omega | decide | (simp only [go_sem]; omega)) only [go_sem, ↓reduceIte]
          repeat (with_reducible refine And.intro (by first | assumption | omega | (simp; done) | (simp; omega)) ?_)
          rcases iteB_some h with ⟨c5, h⟩ | ⟨c5, h⟩
          · refine guardK_T c5 ?_
            obtain ⟨g6, h⟩ := grd_some h
            try simp -implicitDefEqProofs (maxSteps := 4000000) (disch := first | omega | decide | (simp only [go_sem]; omega)) only [go_sem, ↓reduceIte]
            repeat (with_reducible refine And.intro (by first | assumption | omega | (simp; done) | (simp; omega)) ?_)
            refine toEnd hC ?_
            refine endX_seq ?_
            rcases iteB_some h with ⟨c7, h⟩ | ⟨c7, h⟩
            · refine runX_condT rfl c7 ?_
              refine runX_seq ?_
              refine runX_regionC fun C hC => ?_
              obtain ⟨g8, h⟩ := grd_some h
              obtain ⟨g9, h⟩ := grd_some h
              try simp -implicitDefEqProofs (maxSteps := 4000000) (disch := first | omega | decide | (simp only [go_sem]; omega)) only [go_sem, ↓reduceIte]
              repeat (with_reducible refine And.intro (by first | assumption | omega | (simp; done) | (simp; omega)) ?_)
              refine toEnd hC ?_
              refine endX_seq ?_
              refine runX_exit ?_
              refine endX_seqE ?_
              refine endX_blkE ?_
              refine endX_seq ?_
              refine runX_regionC fun C hC => ?_
              try simp -implicitDefEqProofs (maxSteps := 4000000) (disch := first | omega | decide | (simp only [go_sem]; omega)) only [go_sem, ↓reduceIte]
              repeat (with_reducible refine And.intro (by first | assumption | omega | (simp; done) | (simp; omega)) ?_)
              refine toEnd hC ?_
              refine endX_q (roundQ_normal ⟨m1, by omega, F26_S1 a0 (x1 ++ ((a0.take (IntKind.wrap .i64 (x2 + (1 : Int))).toNat).drop x2.toNat)) (IntKind.wrap .i64 (x2 + (1 : Int))) x3, ?_, (x1 ++ ((a0.take (IntKind.wrap .i64 (x2 + (1 : Int))).toNat).drop x2.toNat)), (IntKind.wrap .i64 (x2 + (1 : Int))), x3, rfl, by omega, h⟩)
              simp only [F26_S1]
              (try simp -implicitDefEqProofs (maxSteps := 4000000) (disch := first | omega | decide | (simp only [go_sem]; omega)) only [go_sem, ↓reduceIte])
              first | exact leS_refl _ | (refine leS_le ?_ ?_ <;> first | exact leL_refl _ | exact leOs_refl _ | (repeat (first | exact leL_refl _ | refine leL_cons (by first | exact leT_refl _ | exact leT_virt | exact leT_junk _ | exact leT_sl | exact leT_sln | exact leT_nil) ?_)))
            · refine runX_condF rfl c7 ?_
              refine runX_skip ?_
              refine endX_seq ?_
              refine runX_seq ?_
              refine runX_seq ?_
              refine runX_regionC fun C hC => ?_
              obtain ⟨v10, h10, h⟩ := bnd_some h
              try simp -implicitDefEqProofs (maxSteps := 4000000) (disch := first | omega | decide | (simp only [go_sem]; omega)) only [go_sem, ↓reduceIte]
              repeat (with_reducible refine And.intro (by first | assumption | omega | (simp; done) | (simp; omega)) ?_)
              refine callG_X (by first | rfl | (simp only [go_sem]; done) | (simp only [closedL, closedT, Bool.and_true]; exact closedL_map _ (fun _ => by first | rfl | (simp only [go_sem]; done)) _)) (F40_ok m1 x1 _ h10) (by repeat (first | exact leL_refl _ | refine leL_cons (by first | exact leT_refl _ | exact leT_virt | exact leT_junk _ | exact leT_sl | exact leT_sln | exact leT_nil) ?_)) ?_
              try simp -implicitDefEqProofs (maxSteps := 4000000) (disch := first | omega | decide | (simp only [go_sem]; omega)) only [go_sem, ↓reduceIte]
              repeat (with_reducible refine And.intro (by first | assumption | omega | (simp; done) | (simp; omega)) ?_)
              refine toEnd hC ?_
              refine endX_seq ?_
              rcases iteB_some h with ⟨c11, h⟩ | ⟨c11, h⟩
              · refine runX_condT rfl c11 ?_
                refine runX_regionC fun C hC => ?_
                obtain ⟨v12, h12, h⟩ := bnd_some h
                try simp -implicitDefEqProofs (maxSteps := 4000000) (disch := first | omega | decide | (simp only [go_sem]; omega)) only [go_sem, ↓reduceIte]
                repeat (with_reducible refine And.intro (by first | assumption | omega | (simp; done) | (simp; omega)) ?_)
                refine callG_X (by first | rfl | (simp only [go_sem]; done) | (simp only [closedL, closedT, Bool.and_true]; exact closedL_map _ (fun _ => by first | rfl | (simp only [go_sem]; done)) _)) (F40_ok m1 x1 _ h12) (by repeat (first | exact leL_refl _ | refine leL_cons (by first | exact leT_refl _ | exact leT_virt | exact leT_junk _ | exact leT_sl | exact leT_sln | exact leT_nil) ?_)) ?_
                try simp -implicitDefEqProofs (maxSteps := 4000000) (disch := first | omega | decide | (simp only [go_sem]; omega)) only [go_sem, ↓reduceIte]
                repeat (with_reducible refine And.intro (by first | assumption | omega | (simp; done) | (simp; omega)) ?_)
                refine bs_go <| buildX_val ?_
                obtain ⟨g13, h⟩ := grd_some h
                try simp -implicitDefEqProofs (maxSteps := 4000000) (disch := first | omega | decide | (simp only [go_sem]; omega)) only [go_sem, ↓reduceIte]
                repeat (with_reducible refine And.intro (by first | assumption | omega | (simp; done) | (simp; omega)) ?_)
                refine toEnd hC ?_
                refine endX_seq ?_
                refine runX_regionC fun C hC => ?_
                try simp -implicitDefEqProofs (maxSteps := 4000000) (disch := first | omega | decide | (simp only [go_sem]; omega)) only [go_sem, ↓reduceIte]
                repeat (with_reducible refine And.intro (by first | assumption | omega | (simp; done) | (simp; omega)) ?_)
                refine toEnd hC ?_
                refine endX_blk ?_
                refine endX_seq ?_
                refine runX_regionC fun C hC => ?_
                try simp -implicitDefEqProofs (maxSteps := 4000000) (disch := first | omega | decide | (simp only [go_sem]; omega)) only [go_sem, ↓reduceIte]
                repeat (with_reducible refine And.intro (by first | assumption | omega | (simp; done) | (simp; omega)) ?_)
                refine toEnd hC ?_
                refine endX_q (roundQ_normal ⟨m1, by omega, F26_S1 a0 [] (IntKind.wrap .i64 (x2 + (1 : Int))) (x3 ++ [v12]), ?_, [], (IntKind.wrap .i64 (x2 + (1 : Int))), (x3 ++ [v12]), rfl, by omega, h⟩)
                simp only [F26_S1]
                (try simp -implicitDefEqProofs (maxSteps := 4000000) (disch := first | omega | decide | (simp only [go_sem]; omega)) only [go_sem, ↓reduceIte])
                first | exact leS_refl _ | (refine leS_le ?_ ?_ <;> first | exact leL_refl _ | exact leOs_refl _ | (repeat (first | exact leL_refl _ | refine leL_cons (by first | exact leT_refl _ | exact leT_virt | exact leT_junk _ | exact leT_sl | exact leT_sln | exact leT_nil) ?_)))
              · refine runX_condF rfl c11 ?_
                refine runX_skip ?_
                refine endX_seq ?_
                refine runX_regionC fun C hC => ?_
                try simp -implicitDefEqProofs (maxSteps := 4000000) (disch := first | omega | decide | (simp only [go_sem]; omega)) only [go_sem, ↓reduceIte]
                repeat (with_reducible refine And.intro (by first | assumption | omega | (simp; done) | (simp; omega)) ?_)
                refine toEnd hC ?_
                refine endX_blk ?_
                refine endX_seq ?_
                refine runX_regionC fun C hC => ?_
                try simp -implicitDefEqProofs (maxSteps := 4000000) (disch := first | omega | decide | (simp only [go_sem]; omega)) only [go_sem, ↓reduceIte]
                repeat (with_reducible refine And.intro (by first | assumption | omega | (simp; done) | (simp; omega)) ?_)
                refine toEnd hC ?_
                refine endX_q (roundQ_normal ⟨m1, by omega, F26_S1 a0 [] (IntKind.wrap .i64 (x2 + (1 : Int))) x3, ?_, [], (IntKind.wrap .i64 (x2 + (1 : Int))), x3, rfl, by omega, h⟩)
                simp only [F26_S1]
                (try simp -implicitDefEqProofs (maxSteps := 4000000) (disch := first | omega | decide | (simp only [go_sem]; omega)) only [go_sem, ↓reduceIte])
                first | exact leS_refl _ | (refine leS_le ?_ ?_ <;> first | exact leL_refl _ | exact leOs_refl _ | (repeat (first | exact leL_refl _ | refine leL_cons (by first | exact leT_refl _ | exact leT_virt | exact leT_junk _ | exact leT_sl | exact leT_sln | exact leT_nil) ?_)))
          · refine guardK_F c5 ?_
            try simp -implicitDefEqProofs (maxSteps := 4000000) (disch := first | omega | decide | (simp only [go_sem]; omega)) only [go_sem, ↓reduceIte]
            repeat (with_reducible refine And.intro (by first | assumption | omega | (simp; done) | (simp; omega)) ?_)
            refine toEnd hC ?_
            refine endX_seq ?_
            refine runX_condF rfl rfl ?_
            refine runX_skip ?_
            refine endX_seq ?_
            refine runX_seq ?_
            refine runX_seq ?_
            refine runX_regionC fun C hC => ?_
            obtain ⟨v14, h14, h⟩ := bnd_some h
            try simp -implicitDefEqProofs (maxSteps := 4000000) (disch := first | omega | decide | (simp only [go_sem]; omega)) only [go_sem, ↓reduceIte]
            repeat (with_reducible refine And.intro (by first | assumption | omega | (simp; done) | (simp; omega)) ?_)
            refine callG_X (by first | rfl | (simp only [go_sem]; done) | (simp only [closedL, closedT, Bool.and_true]; exact closedL_map _ (fun _ => by first | rfl | (simp only [go_sem]; done)) _)) (F40_ok m1 x1 _ h14) (by repeat (first | exact leL_refl _ | refine leL_cons (by first | exact leT_refl _ | exact leT_virt | exact leT_junk _ | exact leT_sl | exact leT_sln | exact leT_nil) ?_)) ?_
            try simp -implicitDefEqProofs (maxSteps := 4000000) (disch := first | omega | decide | (simp only [go_sem]; omega)) only [go_sem, ↓reduceIte]
            repeat (with_reducible refine And.intro (by first | assumption | omega | (simp; done) | (simp; omega)) ?_)
            refine toEnd hC ?_
            refine endX_seq ?_
            rcases iteB_some h with ⟨c15, h⟩ | ⟨c15, h⟩
            · refine runX_condT rfl c15 ?_
              refine runX_regionC fun C hC => ?_
              obtain ⟨v16, h16, h⟩ := bnd_some h
              try simp -implicitDefEqProofs (maxSteps := 4000000) (disch := first | omega | decide | (simp only [go_sem]; omega)) only [go_sem, ↓reduceIte]
              repeat (with_reducible refine And.intro (by first | assumption | omega | (simp; done) | (simp; omega)) ?_)
              refine callG_X (by first | rfl | (simp only [go_sem]; done) | (simp only [closedL, closedT, Bool.and_true]; exact closedL_map _ (fun _ => by first | rfl | (simp only [go_sem]; done)) _)) (F40_ok m1 x1 _ h16) (by repeat (first | exact leL_refl _ | refine leL_cons (by first | exact leT_refl _ | exact leT_virt | exact leT_junk _ | exact leT_sl | exact leT_sln | exact leT_nil) ?_)) ?_
              try simp -implicitDefEqProofs (maxSteps := 4000000) (disch := first | omega | decide | (simp only [go_sem]; omega)) only [go_sem, ↓reduceIte]
              repeat (with_reducible refine And.intro (by first | assumption | omega | (simp; done) | (simp; omega)) ?_)
              refine bs_go <| buildX_val ?_
              obtain ⟨g17, h⟩ := grd_some h
              try simp -implicitDefEqProofs (maxSteps := 4000000) (disch := first | omega | decide | (simp only [go_sem]; omega)) only [go_sem, ↓reduceIte]
              repeat (with_reducible refine And.intro (by first | assumption | omega | (simp; done) | (simp; omega)) ?_)
              refine toEnd hC ?_
              refine endX_seq ?_
              refine runX_regionC fun C hC => ?_
              try simp -implicitDefEqProofs (maxSteps := 4000000) (disch := first | omega | decide | (simp only [go_sem]; omega)) only [go_sem, ↓reduceIte]
              repeat (with_reducible refine And.intro (by first | assumption | omega | (simp; done) | (simp; omega)) ?_)
              refine toEnd hC ?_
              refine endX_blk ?_
              refine endX_seq ?_
              refine runX_regionC fun C hC => ?_
              try simp -implicitDefEqProofs (maxSteps := 4000000) (disch := first | omega | decide | (simp only [go_sem]; omega)) only [go_sem, ↓reduceIte]
              repeat (with_reducible refine And.intro (by first | assumption | omega | (simp; done) | (simp; omega)) ?_)
              refine toEnd hC ?_
              refine endX_q (roundQ_normal ⟨m1, by omega, F26_S1 a0 [] (IntKind.wrap .i64 (x2 + (1 : Int))) (x3 ++ [v16]), ?_, [], (IntKind.wrap .i64 (x2 + (1 : Int))), (x3 ++ [v16]), rfl, by omega, h⟩)
              simp only [F26_S1]
              (try simp -implicitDefEqProofs (maxSteps := 4000000) (disch := first | omega | decide | (simp only [go_sem]; omega)) only [go_sem, ↓reduceIte])
              first | exact leS_refl _ | (refine leS_le ?_ ?_ <;> first | exact leL_refl _ | exact leOs_refl _ | (repeat (first | exact leL_refl _ | refine leL_cons (by first | exact leT_refl _ | exact leT_virt | exact leT_junk _ | exact leT_sl | exact leT_sln | exact leT_nil) ?_)))
            · refine runX_condF rfl c15 ?_
              refine runX_skip ?_
              refine endX_seq ?_
              refine runX_regionC fun C hC => ?_
              try simp -implicitDefEqProofs (maxSteps := 4000000) (disch := first | omega | decide | (simp only [go_sem]; omega)) only [go_sem, ↓reduceIte]
              repeat (with_reducible refine And.intro (by first | assumption | omega | (simp; done) | (simp; omega)) ?_)
              refine toEnd hC ?_
              refine endX_blk ?_
              refine endX_seq ?_
              refine runX_regionC fun C hC => ?_
              try simp -implicitDefEqProofs (maxSteps := 4000000) (disch := first | omega | decide | (simp only [go_sem]; omega)) only [go_sem, ↓reduceIte]
              repeat (with_reducible refine And.intro (by first | assumption | omega | (simp; done) | (simp; omega)) ?_)
              refine toEnd hC ?_
              refine endX_q (roundQ_normal ⟨m1, by omega, F26_S1 a0 [] (IntKind.wrap .i64 (x2 + (1 : Int))) x3, ?_, [], (IntKind.wrap .i64 (x2 + (1 : Int))), x3, rfl, by omega, h⟩)
              simp only [F26_S1]
              (try simp -implicitDefEqProofs (maxSteps := 4000000) (disch := first | omega | decide | (simp only [go_sem]; omega)) only [go_sem, ↓reduceIte])
              first | exact leS_refl _ | (refine leS_le ?_ ?_ <;> first | exact leL_refl _ | exact leOs_refl _ | (repeat (first | exact leL_refl _ | refine leL_cons (by first | exact leT_refl _ | exact leT_virt | exact leT_junk _ | exact leT_sl | exact leT_sln | exact leT_nil) ?_)))
        · refine runX_condF rfl c4 ?_
          refine runX_exit ?_
          refine endX_seqE ?_
          refine endX_q (roundQ_exit ?_)
          refine endX_blkE ?_
          refine endX_seq ?_
          refine runX_seq ?_
          refine runX_regionC fun C hC => ?_
          try simp -implicitDefEqProofs (maxSteps := 4000000) (disch := first | omega | decide | (simp only [go_sem]; omega)) only [go_sem, ↓reduceIte]
          repeat (with_reducible refine And.intro (by first | assumption | omega | (simp; done) | (simp; omega)) ?_)
          refine toEnd hC ?_
          refine endX_seq ?_
          refine runX_ret ?_
          refine endX_q ?_
          obtain rfl := Option.some.inj h
          show RetW _ _ _ _ _
          simp only [RetW]
          (try simp -implicitDefEqProofs (maxSteps := 4000000) (disch := first | omega | decide | (simp only [go_sem]; omega)) only [go_sem, ↓reduceIte])
          (try simp (disch := omega) only [if_pos, Nat.sub_zero])
          exact leT_refl _
end Go.Proofs.YtbdkofondpalpaaDoorX

set_option linter.unusedVariables false
set_option linter.unusedSimpArgs false
namespace Go.Proofs.YtbdkofondpalpaaDoorX
open Go Go.RowKit Go.Proofs
set_option maxRecDepth 100000
attribute [local go_sem ↓] stepsK_build stepsK_build0 stepsK_bs stepsK_bs0 appendS
attribute [local go_sem] String.reduceEq String.reduceNe reduceCtorEq Int.reduceEq Nat.reduceAdd Nat.reduceSub Nat.reduceMul Nat.reduceLT Nat.reduceLeDiff Nat.reduceEqDiff Nat.reduceBEq Int.reduceToNat Int.reduceLT Int.reduceLE Int.reduceGT Int.reduceGE Int.reduceAdd Int.reduceSub Int.reduceMul Int.reduceNeg Int.reduceBEq Int.reduceBNe Int.reducePow Int.reduceDiv Int.reduceMod Int.reduceTDiv Int.reduceTMod Int.reduceNatCast
/-! ### shadowboxref30.Quote -/
def F27 (n : Nat) (a0 : (Bool) × (List UInt8)) : Option (List UInt8) := grd (1 + a0.2.length ≤ 9223372036854775807) (grd ((a0.2.length + 1) + 1 ≤ 9223372036854775807) (iteB a0.1 (grd (2 + (a0.2.length + 2) ≤ 9223372036854775807) (some (([87, 47] : List UInt8) ++ ((([34] : List UInt8) ++ a0.2) ++ ([34] : List UInt8))))) (some ((([34] : List UInt8) ++ a0.2) ++ ([34] : List UInt8)))))
set_option maxHeartbeats 4000000 in
theorem F27_ok : ∀ (n : Nat) (a0 : (Bool) × (List UInt8)) (r : List UInt8), F27 n a0 = some r → FnC Tryd.prog 27 [.agg [.imm (.bool a0.1), .imm (.string (bs a0.2))]] (.imm (.string (bs r)))
  | n, a0, r, h => by
    unfold F27 at h
    refine FnC.goX mixed Tryd.func27 (by kernel_rfl) rfl ?_
    simp only [Tryd.ntmps27, List.length_cons, List.length_nil, List.replicate, List.cons_append, List.nil_append, Nat.reduceAdd, Nat.reduceSub]
    refine runX_seq ?_
    refine runX_regionC fun C hC => ?_
    try simp -implicitDefEqProofs (maxSteps := 4000000) (disch := first | omega | decide | (simp only [go_sem]; omega)) only [go_sem, ↓reduceIte]
    repeat (with_reducible refine And.intro (by first | assumption | omega | (simp; done) | (simp; omega)) ?_)
    refine toEnd hC ?_
    refine endX_seq ?_
    refine runX_seq ?_
    refine runX_regionC fun C hC => ?_
    obtain ⟨g1, h⟩ := grd_some h
    obtain ⟨g2, h⟩ := grd_some h
    try simp -implicitDefEqProofs (maxSteps := 4000000) (disch := first | omega | decide | (simp only [go_sem]; omega)) only [go_sem, ↓reduceIte]
    repeat (with_reducible refine And.intro (by first | assumption | omega | (simp; done) | (simp; omega)) ?_)
    refine toEnd hC ?_
    refine endX_seq ?_
    refine runX_seq ?_
    refine runX_seq ?_
    refine runX_regionC fun C hC => ?_
    try simp -implicitDefEqProofs (maxSteps := 4000000) (disch := first | omega | decide | (simp only [go_sem]; omega)) only [go_sem, ↓reduceIte]
    repeat (with_reducible refine And.intro (by first | assumption | omega | (simp; done) | (simp; omega)) ?_)
    refine toEnd hC ?_
    refine endX_seq ?_
    rcases iteB_some h with ⟨c3, h⟩ | ⟨c3, h⟩
    · refine runX_condT rfl c3 ?_
      refine runX_seq ?_
      refine runX_regionC fun C hC => ?_
      obtain ⟨g4, h⟩ := grd_some h
      try simp -implicitDefEqProofs (maxSteps := 4000000) (disch := first | omega | decide | (simp only [go_sem]; omega)) only [go_sem, ↓reduceIte]
      repeat (with_reducible refine And.intro (by first | assumption | omega | (simp; done) | (simp; omega)) ?_)
      refine toEnd hC ?_
      refine endX_seq ?_
      refine runX_ret ?_
      refine endX_seqR ?_
      refine endX_q ?_
      obtain rfl := Option.some.inj h
      show RetW _ _ _ _ _
      simp only [RetW]
      (try simp -implicitDefEqProofs (maxSteps := 4000000) (disch := first | omega | decide | (simp only [go_sem]; omega)) only [go_sem, ↓reduceIte])
      (try simp (disch := omega) only [if_pos, Nat.sub_zero])
      exact leT_refl _
    · refine runX_condF rfl c3 ?_
      refine runX_skip ?_
      refine endX_seq ?_
      refine runX_seq ?_
      refine runX_regionC fun C hC => ?_
      try simp -implicitDefEqProofs (maxSteps := 4000000) (disch := first | omega | decide | (simp only [go_sem]; omega)) only [go_sem, ↓reduceIte]
      repeat (with_reducible refine And.intro (by first | assumption | omega | (simp; done) | (simp; omega)) ?_)
      refine toEnd hC ?_
      refine endX_seq ?_
      refine runX_ret ?_
      refine endX_q ?_
      obtain rfl := Option.some.inj h
      show RetW _ _ _ _ _
      simp only [RetW]
      (try simp -implicitDefEqProofs (maxSteps := 4000000) (disch := first | omega | decide | (simp only [go_sem]; omega)) only [go_sem, ↓reduceIte])
      (try simp (disch := omega) only [if_pos, Nat.sub_zero])
      exact leT_refl _
end Go.Proofs.YtbdkofondpalpaaDoorX

set_option linter.unusedVariables false
set_option linter.unusedSimpArgs false
namespace Go.Proofs.YtbdkofondpalpaaDoorX
open Go Go.RowKit Go.Proofs
set_option maxRecDepth 100000
attribute [local go_sem ↓] stepsK_build stepsK_build0 stepsK_bs stepsK_bs0 appendS
attribute [local go_sem] String.reduceEq String.reduceNe reduceCtorEq Int.reduceEq Nat.reduceAdd Nat.reduceSub Nat.reduceMul Nat.reduceLT Nat.reduceLeDiff Nat.reduceEqDiff Nat.reduceBEq Int.reduceToNat Int.reduceLT Int.reduceLE Int.reduceGT Int.reduceGE Int.reduceAdd Int.reduceSub Int.reduceMul Int.reduceNeg Int.reduceBEq Int.reduceBNe Int.reducePow Int.reduceDiv Int.reduceMod Int.reduceTDiv Int.reduceTMod Int.reduceNatCast
/-! ### shadowboxlaw30.HeaderTags -/
def F6_S2 (v4 : List (List UInt8)) (v5 : List (List UInt8)) (x18 : Int) : St := ⟨[.junk, .junk, .junk, .junk, .junk, .junk, .junk, .junk, .junk, .junk, .junk, .sl 1 false (List.map eS v4), .sl 1 false (List.map eS v5), .junk, .imm (.int .i64 x18), .junk, .junk, .junk, .junk, .junk, .junk, .junk, .junk, .junk, .junk, .junk, .junk, .junk, .junk, .junk, .junk, .junk, .junk, .junk, .junk, .junk, .junk, .junk, .junk, .junk, .junk, .junk, .junk, .junk, .junk, .junk, .junk, .junk, .junk, .junk, .junk, .junk, .junk, .junk, .junk, .junk, .junk, .junk, .junk, .junk, .junk, .junk, .junk, .junk, .junk, .junk, .junk, .junk, .junk, .junk, .junk, .junk, .junk, .junk, .junk, .junk, .junk, .junk, .junk, .junk, .junk, .junk, .junk, .junk, .junk, .junk, .junk, .junk, .junk, .junk, .junk, .junk, .junk, .junk, .junk, .junk, .junk, .junk, .junk, .junk, .junk, .junk, .junk, .junk, .junk, .junk, .junk, .junk, .junk], []⟩
def F6_S1 (v2 : (List ((Bool) × (List UInt8))) × (Bool) × (Bool)) (v3 : (List ((Bool) × (List UInt8))) × (Bool) × (Bool)) (v4 : List (List UInt8)) (v5 : List (List UInt8)) (x13 : Int) : St := ⟨[.junk, .junk, .junk, .junk, .junk, .sl 2 false (List.map eT23 v2.1), .junk, .junk, .sl 2 false (List.map eT23 v3.1), .junk, .junk, .sl 1 false (List.map eS v4), .sl 1 false (List.map eS v5), .imm (.int .i64 x13), .junk, .junk, .junk, .junk, .junk, .junk, .junk, .junk, .junk, .junk, .junk, .junk, .junk, .junk, .junk, .junk, .junk, .junk, .junk, .junk, .junk, .junk, .junk, .junk, .junk, .junk, .junk, .junk, .junk, .junk, .junk, .junk, .junk, .junk, .junk, .junk, .junk, .junk, .junk, .junk, .junk, .junk, .junk, .junk, .junk, .junk, .junk, .junk, .junk, .junk, .junk, .junk, .junk, .junk, .junk, .junk, .junk, .junk, .junk, .junk, .junk, .junk, .junk, .junk, .junk, .junk, .junk, .junk, .junk, .junk, .junk, .junk, .junk, .junk, .junk, .junk, .junk, .junk, .junk, .junk, .junk, .junk, .junk, .junk, .junk, .junk, .junk, .junk, .junk, .junk, .junk, .junk, .junk, .junk, .junk], []⟩
mutual
def F6_L2 : Nat → (List (List UInt8)) → (List (List UInt8)) → (Int) → Option (Bool)
  | 0, _, _, _ => none
  | m2 + 1, v4, v5, x18 => iteB (decide (x18 < (v4.length : Int))) (grd (0 ≤ x18 ∧ x18 < (v4.length : Int)) (grd (0 ≤ x18 ∧ x18 < (v5.length : Int)) (iteB (!((v4.getD x18.toNat default) == (v5.getD x18.toNat default))) (some false) (F6_L2 m2 v4 v5 (IntKind.wrap .i64 (x18 + (1 : Int))))))) ((F12 m2 ([32, 42, 32] : List UInt8)).bind fun v23 => iteB v23.2.1 (some v23.2.2) (some false))
def F6_L1 : Nat → ((List ((Bool) × (List UInt8))) × (Bool) × (Bool)) → ((List ((Bool) × (List UInt8))) × (Bool) × (Bool)) → (List (List UInt8)) → (List (List UInt8)) → (Int) → Option (Bool)
  | 0, _, _, _, _, _ => none
  | m1 + 1, v2, v3, v4, v5, x13 => iteB (decide (x13 < (v2.1.length : Int))) (grd (0 ≤ x13 ∧ x13 < (v2.1.length : Int)) (grd (0 ≤ x13 ∧ x13 < (v3.1.length : Int)) (iteB (!((((v2.1.getD x13.toNat default).1) == ((v3.1.getD x13.toNat default).1)) && (((v2.1.getD x13.toNat default).2) == ((v3.1.getD x13.toNat default).2)))) (some false) (F6_L1 m1 v2 v3 v4 v5 (IntKind.wrap .i64 (x13 + (1 : Int))))))) (F6_L2 m1 v4 v5 (0 : Int))
end
def F6 (n : Nat) (a0 : List UInt8) (a1 : (Bool) × (List UInt8)) : Option (Bool) := iteB (decide ((900 : Int) < (IntKind.wrap .i64 ((a0.length : Int) + (a1.2.length : Int))))) (some true) ((F12 n a0).bind fun v2 => (F24 n a0).bind fun v3 => (F25 n a0).bind fun v4 => (F26 n a0).bind fun v5 => iteB (!(v2.2.1 == v3.2.1)) (some false) (iteB (!(v2.2.2 == v3.2.2)) (some false) (iteB ((v2.1.length : Int) != (v3.1.length : Int)) (some false) (iteB ((v4.length : Int) != (v5.length : Int)) (some false) ((F11 n (a1.1, a1.2)).bind fun v10 => (F27 n (a1.1, a1.2)).bind fun v11 => iteB (!(v10 == v11)) (some false) (F6_L1 n v2 v3 v4 v5 (0 : Int)))))))
set_option maxHeartbeats 4000000 in
theorem F6_ok : ∀ (n : Nat) (a0 : List UInt8) (a1 : (Bool) × (List UInt8)) (r : Bool), F6 n a0 a1 = some r → FnC Tryd.prog 6 [.imm (.string (bs a0)), .agg [.imm (.bool a1.1), .imm (.string (bs a1.2))]] (.imm (.bool r))
  | n, a0, a1, r, h => by
    unfold F6 at h
    refine FnC.goX mixed Tryd.func6 (by kernel_rfl) rfl ?_
    simp only [Tryd.ntmps6, List.length_cons, List.length_nil, List.replicate, List.cons_append, List.nil_append, Nat.reduceAdd, Nat.reduceSub]
    refine runX_seq ?_
    refine runX_regionC fun C hC => ?_
    try simp -implicitDefEqProofs (maxSteps := 4000000) (disch := first | omega | decide | (simp only [go_sem]; omega)) only [go_sem, ↓reduceIte]
    repeat (with_reducible refine And.intro (by first | assumption | omega | (simp; done) | (simp; omega)) ?_)
    refine toEnd hC ?_
    refine endX_seq ?_
    refine runX_seq ?_
    refine runX_seq ?_
    refine runX_regionC fun C hC => ?_
    try simp -implicitDefEqProofs (maxSteps := 4000000) (disch := first | omega | decide | (simp only [go_sem]; omega)) only [go_sem, ↓reduceIte]
    repeat (with_reducible refine And.intro (by first | assumption | omega | (simp; done) | (simp; omega)) ?_)
    refine toEnd hC ?_
    refine endX_seq ?_
    rcases iteB_some h with ⟨c1, h⟩ | ⟨c1, h⟩
    · refine runX_condT rfl c1 ?_
      refine runX_seq ?_
      refine runX_regionC fun C hC => ?_
      try simp -implicitDefEqProofs (maxSteps := 4000000) (disch := first | omega | decide | (simp only [go_sem]; omega)) only [go_sem, ↓reduceIte]
      repeat (with_reducible refine And.intro (by first | assumption | omega | (simp; done) | (simp; omega)) ?_)
      refine toEnd hC ?_
      refine endX_seq ?_
      refine runX_ret ?_
      refine endX_seqR ?_
      refine endX_q ?_
      obtain rfl := Option.some.inj h
      show RetW _ _ _ _ _
      simp only [RetW]
      (try simp -implicitDefEqProofs (maxSteps := 4000000) (disch := first | omega | decide | (simp only [go_sem]; omega)) only [go_sem, ↓reduceIte])
      (try simp (disch := omega) only [if_pos, Nat.sub_zero])
      exact leT_refl _
    · refine runX_condF rfl c1 ?_
      refine runX_skip ?_
      refine endX_seq ?_
      refine runX_seq ?_
      refine runX_regionC fun C hC => ?_
      obtain ⟨v2, h2, h⟩ := bnd_some h
      try simp -implicitDefEqProofs (maxSteps := 4000000) (disch := first | omega | decide | (simp only [go_sem]; omega)) only [go_sem, ↓reduceIte]
      repeat (with_reducible refine And.intro (by first | assumption | omega | (simp; done) | (simp; omega)) ?_)
      refine callG_X (by first | rfl | (simp only [go_sem]; done) | (simp only [closedL, closedT, Bool.and_true]; exact closedL_map _ (fun _ => by first | rfl | (simp only [go_sem]; done)) _)) (F12_ok n a0 _ h2) (by repeat (first | exact leL_refl _ | refine leL_cons (by first | exact leT_refl _ | exact leT_virt | exact leT_junk _ | exact leT_sl | exact leT_sln | exact leT_nil) ?_)) ?_
      try simp -implicitDefEqProofs (maxSteps := 4000000) (disch := first | omega | decide | (simp only [go_sem]; omega)) only [go_sem, ↓reduceIte]
      repeat (with_reducible refine And.intro (by first | assumption | omega | (simp; done) | (simp; omega)) ?_)
      refine toEnd hC ?_
      refine endX_seq ?_
      refine runX_seq ?_
      refine runX_regionC fun C hC => ?_
      obtain ⟨v3, h3, h⟩ := bnd_some h
      try simp -implicitDefEqProofs (maxSteps := 4000000) (disch := first | omega | decide | (simp only [go_sem]; omega)) only [go_sem, ↓reduceIte]
      repeat (with_reducible refine And.intro (by first | assumption | omega | (simp; done) | (simp; omega)) ?_)
      refine callG_X (by first | rfl | (simp only [go_sem]; done) | (simp only [closedL, closedT, Bool.and_true]; exact closedL_map _ (fun _ => by first | rfl | (simp only [go_sem]; done)) _)) (F24_ok n a0 _ h3) (by repeat (first | exact leL_refl _ | refine leL_cons (by first | exact leT_refl _ | exact leT_virt | exact leT_junk _ | exact leT_sl | exact leT_sln | exact leT_nil) ?_)) ?_
      try simp -implicitDefEqProofs (maxSteps := 4000000) (disch := first | omega | decide | (simp only [go_sem]; omega)) only [go_sem, ↓reduceIte]
      repeat (with_reducible refine And.intro (by first | assumption | omega | (simp; done) | (simp; omega)) ?_)
      refine toEnd hC ?_
      refine endX_seq ?_
      refine runX_seq ?_
      refine runX_regionC fun C hC => ?_
      obtain ⟨v4, h4, h⟩ := bnd_some h
      try simp -implicitDefEqProofs (maxSteps := 4000000) (disch := first | omega | decide | (simp only [go_sem]; omega)) only [go_sem, ↓reduceIte]
      repeat (with_reducible refine And.intro (by first | assumption | omega | (simp; done) | (simp; omega)) ?_)
      refine callG_X (by first | rfl | (simp only [go_sem]; done) | (simp only [closedL, closedT, Bool.and_true]; exact closedL_map _ (fun _ => by first | rfl | (simp only [go_sem]; done)) _)) (F25_ok n a0 _ h4) (by repeat (first | exact leL_refl _ | refine leL_cons (by first | exact leT_refl _ | exact leT_virt | exact leT_junk _ | exact leT_sl | exact leT_sln | exact leT_nil) ?_)) ?_
      obtain ⟨v5, h5, h⟩ := bnd_some h
      try simp -implicitDefEqProofs (maxSteps := 4000000) (disch := first | omega | decide | (simp only [go_sem]; omega)) only [go_sem, ↓reduceIte]
      repeat (with_reducible refine And.intro (by first | assumption | omega | (simp; done) | (simp; omega)) ?_)
      refine callG_X (by first | rfl | (simp only [go_sem]; done) | (simp only [closedL, closedT, Bool.and_true]; exact closedL_map _ (fun _ => by first | rfl | (simp only [go_sem]; done)) _)) (F26_ok n a0 _ h5) (by repeat (first | exact leL_refl _ | refine leL_cons (by first | exact leT_refl _ | exact leT_virt | exact leT_junk _ | exact leT_sl | exact leT_sln | exact leT_nil) ?_)) ?_
      try simp -implicitDefEqProofs (maxSteps := 4000000) (disch := first | omega | decide | (simp only [go_sem]; omega)) only [go_sem, ↓reduceIte]
      repeat (with_reducible refine And.intro (by first | assumption | omega | (simp; done) | (simp; omega)) ?_)
      refine toEnd hC ?_
      refine endX_seq ?_
      refine runX_seq ?_
      refine runX_seq ?_
      refine runX_drawC mixed (by kernel_rfl) fun C hC => ?_
      try simp -implicitDefEqProofs (maxSteps := 4000000) (disch := first | omega | decide | (simp only [go_sem]; omega)) only [go_sem, ↓reduceIte]
      repeat (with_reducible refine And.intro (by first | assumption | omega | (simp; done) | (simp; omega)) ?_)
      rcases iteB_some h with ⟨c6, h⟩ | ⟨c6, h⟩
      · refine guardD_F c6 ?_
        try simp -implicitDefEqProofs (maxSteps := 4000000) (disch := first | omega | decide | (simp only [go_sem]; omega)) only [go_sem, ↓reduceIte]
        repeat (with_reducible refine And.intro (by first | assumption | omega | (simp; done) | (simp; omega)) ?_)
        refine toEnd hC ?_
        refine endX_seq ?_
        refine runX_condT rfl rfl ?_
        refine runX_seq ?_
        refine runX_regionC fun C hC => ?_
        try simp -implicitDefEqProofs (maxSteps := 4000000) (disch := first | omega | decide | (simp only [go_sem]; omega)) only [go_sem, ↓reduceIte]
        repeat (with_reducible refine And.intro (by first | assumption | omega | (simp; done) | (simp; omega)) ?_)
        refine toEnd hC ?_
        refine endX_seq ?_
        refine runX_ret ?_
        refine endX_seqR ?_
        refine endX_q ?_
        obtain rfl := Option.some.inj h
        show RetW _ _ _ _ _
        simp only [RetW]
        (try simp -implicitDefEqProofs (maxSteps := 4000000) (disch := first | omega | decide | (simp only [go_sem]; omega)) only [go_sem, ↓reduceIte])
        (try simp (disch := omega) only [if_pos, Nat.sub_zero])
        exact leT_refl _
      · refine guardD_T c6 ?_
        try simp -implicitDefEqProofs (maxSteps := 4000000) (disch := first | omega | decide | (simp only [go_sem]; omega)) only [go_sem, ↓reduceIte]
        repeat (with_reducible refine And.intro (by first | assumption | omega | (simp; done) | (simp; omega)) ?_)
        rcases iteB_some h with ⟨c7, h⟩ | ⟨c7, h⟩
        · refine guardD_F c7 ?_
          try simp -implicitDefEqProofs (maxSteps := 4000000) (disch := first | omega | decide | (simp only [go_sem]; omega)) only [go_sem, ↓reduceIte]
          repeat (with_reducible refine And.intro (by first | assumption | omega | (simp; done) | (simp; omega)) ?_)
          refine toEnd hC ?_
          refine endX_seq ?_
          refine runX_condT rfl rfl ?_
          refine runX_seq ?_
          refine runX_regionC fun C hC => ?_
          try simp -implicitDefEqProofs (maxSteps := 4000000) (disch := first | omega | decide | (simp only [go_sem]; omega)) only [go_sem, ↓reduceIte]
          repeat (with_reducible refine And.intro (by first | assumption | omega | (simp; done) | (simp; omega)) ?_)
          refine toEnd hC ?_
          refine endX_seq ?_
          refine runX_ret ?_
          refine endX_seqR ?_
          refine endX_q ?_
          obtain rfl := Option.some.inj h
          show RetW _ _ _ _ _
          simp only [RetW]
          (try simp -implicitDefEqProofs (maxSteps := 4000000) (disch := first | omega | decide | (simp only [go_sem]; omega)) only [go_sem, ↓reduceIte])
          (try simp (disch := omega) only [if_pos, Nat.sub_zero])
          exact leT_refl _
        · refine guardD_T c7 ?_
          try simp -implicitDefEqProofs (maxSteps := 4000000) (disch := first | omega | decide | (simp only [go_sem]; omega)) only [go_sem, ↓reduceIte]
          repeat (with_reducible refine And.intro (by first | assumption | omega | (simp; done) | (simp; omega)) ?_)
          rcases iteB_some h with ⟨c8, h⟩ | ⟨c8, h⟩
          · refine guardD_F c8 ?_
            try simp -implicitDefEqProofs (maxSteps := 4000000) (disch := first | omega | decide | (simp only [go_sem]; omega)) only [go_sem, ↓reduceIte]
            repeat (with_reducible refine And.intro (by first | assumption | omega | (simp; done) | (simp; omega)) ?_)
            refine toEnd hC ?_
            refine endX_seq ?_
            refine runX_condT rfl rfl ?_
            refine runX_seq ?_
            refine runX_regionC fun C hC => ?_
            try simp -implicitDefEqProofs (maxSteps := 4000000) (disch := first | omega | decide | (simp only [go_sem]; omega)) only [go_sem, ↓reduceIte]
            repeat (with_reducible refine And.intro (by first | assumption | omega | (simp; done) | (simp; omega)) ?_)
            refine toEnd hC ?_
            refine endX_seq ?_
            refine runX_ret ?_
            refine endX_seqR ?_
            refine endX_q ?_
            obtain rfl := Option.some.inj h
            show RetW _ _ _ _ _
            simp only [RetW]
            (try simp -implicitDefEqProofs (maxSteps := 4000000) (disch := first | omega | decide | (simp only [go_sem]; omega)) only [go_sem, ↓reduceIte])
            (try simp (disch := omega) only [if_pos, Nat.sub_zero])
            exact leT_refl _
          · refine guardD_T c8 ?_
            try simp -implicitDefEqProofs (maxSteps := 4000000) (disch := first | omega | decide | (simp only [go_sem]; omega)) only [go_sem, ↓reduceIte]
            repeat (with_reducible refine And.intro (by first | assumption | omega | (simp; done) | (simp; omega)) ?_)
            rcases iteB_some h with ⟨c9, h⟩ | ⟨c9, h⟩
            · refine guardD_F c9 ?_
              try simp -implicitDefEqProofs (maxSteps := 4000000) (disch := first | omega | decide | (simp only [go_sem]; omega)) only [go_sem, ↓reduceIte]
              repeat (with_reducible refine And.intro (by first | assumption | omega | (simp; done) | (simp; omega)) ?_)
              refine toEnd hC ?_
              refine endX_seq ?_
              refine runX_condT rfl rfl ?_
              refine runX_seq ?_
              refine runX_regionC fun C hC => ?_
              try simp -implicitDefEqProofs (maxSteps := 4000000) (disch := first | omega | decide | (simp only [go_sem]; omega)) only [go_sem, ↓reduceIte]
              repeat (with_reducible refine And.intro (by first | assumption | omega | (simp; done) | (simp; omega)) ?_)
              refine toEnd hC ?_
              refine endX_seq ?_
              refine runX_ret ?_
              refine endX_seqR ?_
              refine endX_q ?_
              obtain rfl := Option.some.inj h
              show RetW _ _ _ _ _
              simp only [RetW]
              (try simp -implicitDefEqProofs (maxSteps := 4000000) (disch := first | omega | decide | (simp only [go_sem]; omega)) only [go_sem, ↓reduceIte])
              (try simp (disch := omega) only [if_pos, Nat.sub_zero])
              exact leT_refl _
            · refine guardD_T c9 ?_
              obtain ⟨v10, h10, h⟩ := bnd_some h
              try simp -implicitDefEqProofs (maxSteps := 4000000) (disch := first | omega | decide | (simp only [go_sem]; omega)) only [go_sem, ↓reduceIte]
              repeat (with_reducible refine And.intro (by first | assumption | omega | (simp; done) | (simp; omega)) ?_)
              refine callD_X (F11_ok n (a1.1, a1.2) _ h10) (by repeat (first | exact leL_refl _ | refine leL_cons (by first | exact leT_refl _ | exact leT_virt | exact leT_junk _ | exact leT_sl | exact leT_sln | exact leT_nil) ?_)) ?_
              obtain ⟨v11, h11, h⟩ := bnd_some h
              try simp -implicitDefEqProofs (maxSteps := 4000000) (disch := first | omega | decide | (simp only [go_sem]; omega)) only [go_sem, ↓reduceIte]
              repeat (with_reducible refine And.intro (by first | assumption | omega | (simp; done) | (simp; omega)) ?_)
              refine callD_X (F27_ok n (a1.1, a1.2) _ h11) (by repeat (first | exact leL_refl _ | refine leL_cons (by first | exact leT_refl _ | exact leT_virt | exact leT_junk _ | exact leT_sl | exact leT_sln | exact leT_nil) ?_)) ?_
              try simp -implicitDefEqProofs (maxSteps := 4000000) (disch := first | omega | decide | (simp only [go_sem]; omega)) only [go_sem, ↓reduceIte]
              repeat (with_reducible refine And.intro (by first | assumption | omega | (simp; done) | (simp; omega)) ?_)
              refine toEnd hC ?_
              refine endX_seq ?_
              rcases iteB_some h with ⟨c12, h⟩ | ⟨c12, h⟩
              · refine runX_condT rfl c12 ?_
                refine runX_seq ?_
                refine runX_regionC fun C hC => ?_
                try simp -implicitDefEqProofs (maxSteps := 4000000) (disch := first | omega | decide | (simp only [go_sem]; omega)) only [go_sem, ↓reduceIte]
                repeat (with_reducible refine And.intro (by first | assumption | omega | (simp; done) | (simp; omega)) ?_)
                refine toEnd hC ?_
                refine endX_seq ?_
                refine runX_ret ?_
                refine endX_seqR ?_
                refine endX_q ?_
                obtain rfl := Option.some.inj h
                show RetW _ _ _ _ _
                simp only [RetW]
                (try simp -implicitDefEqProofs (maxSteps := 4000000) (disch := first | omega | decide | (simp only [go_sem]; omega)) only [go_sem, ↓reduceIte])
                (try simp (disch := omega) only [if_pos, Nat.sub_zero])
                exact leT_refl _
              · refine runX_condF rfl c12 ?_
                refine runX_skip ?_
                refine endX_seq ?_
                refine runX_seq ?_
                refine runX_seq ?_
                refine runX_regionC fun C hC => ?_
                try simp -implicitDefEqProofs (maxSteps := 4000000) (disch := first | omega | decide | (simp only [go_sem]; omega)) only [go_sem, ↓reduceIte]
                repeat (with_reducible refine And.intro (by first | assumption | omega | (simp; done) | (simp; omega)) ?_)
                refine toEnd hC ?_
                refine endX_seq ?_
                refine runX_block ?_
                refine runX_loop [5, 8, 11, 12, 13] (fun m S => ∃ (x13 : Int), S = F6_S1 v2 v3 v4 v5 x13 ∧ m ≤ n ∧ F6_L1 m v2 v3 v4 v5 x13 = some r) n ⟨F6_S1 v2 v3 v4 v5 (0 : Int), ?_, (0 : Int), rfl, Nat.le_refl _, h⟩ ?_
                · simp only [F6_S1]
                  (try simp -implicitDefEqProofs (maxSteps := 4000000) (disch := first | omega | decide | (simp only [go_sem]; omega)) only [go_sem, ↓reduceIte])
                  first | exact leS_refl _ | (refine leS_le ?_ ?_ <;> first | exact leL_refl _ | exact leOs_refl _ | (repeat (first | exact leL_refl _ | refine leL_cons (by first | exact leT_refl _ | exact leT_virt | exact leT_junk _ | exact leT_sl | exact leT_sln | exact leT_nil) ?_)))
                · clear h
                  rintro m1 S ⟨x13, rfl, hm1, h⟩
                  cases m1 with
                  | zero => first | cases (show (none : Option _) = some _ from h) | (rw [F6_L1] at h; cases h)
                  | succ m1 =>
                    rw [F6_L1] at h
                    simp only [F6_S1]
                    refine runX_seq ?_
                    refine runX_seq ?_
                    refine runX_regionC fun C hC => ?_
                    try simp -implicitDefEqProofs (maxSteps := 4000000) (disch := first | omega | decide | (simp only [go_sem]; omega)) only [go_sem, ↓reduceIte]
                    repeat (with_reducible refine And.intro (by first | assumption | omega | (simp; done) | (simp; omega)) ?_)
                    refine toEnd hC ?_
                    refine endX_seq ?_
                    rcases iteB_some h with ⟨c14, h⟩ | ⟨c14, h⟩
                    · refine runX_condT rfl c14 ?_
                      refine runX_skip ?_
                      refine endX_seq ?_
                      refine runX_seq ?_
                      refine runX_block ?_
                      refine runX_seq ?_
                      refine runX_drawC mixed (by kernel_rfl) fun C hC => ?_
                      obtain ⟨g15, h⟩ := grd_some h
                      obtain ⟨g16, h⟩ := grd_some h
                      try simp -implicitDefEqProofs (maxSteps := 4000000) (disch := first | omega | decide | (simp only [go_sem]; omega)) only [go_sem, ↓reduceIte]
                      repeat (with_reducible refine And.intro (by first | assumption | omega | (simp; done) | (simp; omega)) ?_)
                      refine toEnd hC ?_
                      refine endX_seq ?_
                      rcases iteB_some h with ⟨c17, h⟩ | ⟨c17, h⟩
                      · refine runX_condT rfl c17 ?_
                        refine runX_seq ?_
                        refine runX_regionC fun C hC => ?_
                        try simp -implicitDefEqProofs (maxSteps := 4000000) (disch := first | omega | decide | (simp only [go_sem]; omega)) only [go_sem, ↓reduceIte]
                        repeat (with_reducible refine And.intro (by first | assumption | omega | (simp; done) | (simp; omega)) ?_)
                        refine toEnd hC ?_
                        refine endX_seq ?_
                        refine runX_ret ?_
                        refine endX_blkR ?_
                        refine endX_seqR ?_
                        refine endX_q (roundQ_ret ?_)
                        refine endX_blkR ?_
                        refine endX_seqR ?_
                        refine endX_q ?_
                        obtain rfl := Option.some.inj h
                        show RetW _ _ _ _ _
                        simp only [RetW]
                        (try simp -implicitDefEqProofs (maxSteps := 4000000) (disch := first | omega | decide | (simp only [go_sem]; omega)) only [go_sem, ↓reduceIte])
                        (try simp (disch := omega) only [if_pos, Nat.sub_zero])
                        exact leT_refl _
                      · refine runX_condF rfl c17 ?_
                        refine runX_skip ?_
                        refine endX_blk ?_
                        refine endX_seq ?_
                        refine runX_regionC fun C hC => ?_
                        try simp -implicitDefEqProofs (maxSteps := 4000000) (disch := first | omega | decide | (simp only [go_sem]; omega)) only [go_sem, ↓reduceIte]
                        repeat (with_reducible refine And.intro (by first | assumption | omega | (simp; done) | (simp; omega)) ?_)
                        refine toEnd hC ?_
                        refine endX_q (roundQ_normal ⟨m1, by omega, F6_S1 v2 v3 v4 v5 (IntKind.wrap .i64 (x13 + (1 : Int))), ?_, (IntKind.wrap .i64 (x13 + (1 : Int))), rfl, by omega, h⟩)
                        simp only [F6_S1]
                        (try simp -implicitDefEqProofs (maxSteps := 4000000) (disch := first | omega | decide | (simp only [go_sem]; omega)) only [go_sem, ↓reduceIte])
                        first | exact leS_refl _ | (refine leS_le ?_ ?_ <;> first | exact leL_refl _ | exact leOs_refl _ | (repeat (first | exact leL_refl _ | refine leL_cons (by first | exact leT_refl _ | exact leT_virt | exact leT_junk _ | exact leT_sl | exact leT_sln | exact leT_nil) ?_)))
                    · refine runX_condF rfl c14 ?_
                      refine runX_exit ?_
                      refine endX_seqE ?_
                      refine endX_q (roundQ_exit ?_)
                      refine endX_blkE ?_
                      refine endX_seq ?_
                      refine runX_seq ?_
                      refine runX_seq ?_
                      refine runX_regionC fun C hC => ?_
                      try simp -implicitDefEqProofs (maxSteps := 4000000) (disch := first | omega | decide | (simp only [go_sem]; omega)) only [go_sem, ↓reduceIte]
                      repeat (with_reducible refine And.intro (by first | assumption | omega | (simp; done) | (simp; omega)) ?_)
                      refine toEnd hC ?_
                      refine endX_seq ?_
                      refine runX_block ?_
                      refine runX_loop [11, 12, 14] (fun m S => ∃ (x18 : Int), S = F6_S2 v4 v5 x18 ∧ m ≤ m1 ∧ F6_L2 m v4 v5 x18 = some r) m1 ⟨F6_S2 v4 v5 (0 : Int), ?_, (0 : Int), rfl, Nat.le_refl _, h⟩ ?_
                      · simp only [F6_S2]
                        (try simp -implicitDefEqProofs (maxSteps := 4000000) (disch := first | omega | decide | (simp only [go_sem]; omega)) only [go_sem, ↓reduceIte])
                        first | exact leS_refl _ | (refine leS_le ?_ ?_ <;> first | exact leL_refl _ | exact leOs_refl _ | (repeat (first | exact leL_refl _ | refine leL_cons (by first | exact leT_refl _ | exact leT_virt | exact leT_junk _ | exact leT_sl | exact leT_sln | exact leT_nil) ?_)))
                      · clear h
                        rintro m2 S ⟨x18, rfl, hm2, h⟩
                        cases m2 with
                        | zero => first | cases (show (none : Option _) = some _ from h) | (rw [F6_L2] at h; cases h)
                        | succ m2 =>
                          rw [F6_L2] at h
                          simp only [F6_S2]
                          refine runX_seq ?_
                          refine runX_seq ?_
                          refine runX_regionC fun C hC => ?_
                          try simp -implicitDefEqProofs (maxSteps := 4000000) (disch := first | omega | decide | (simp only [go_sem]; omega)) only [go_sem, ↓reduceIte]
                          repeat (with_reducible refine And.intro (by first | assumption | omega | (simp; done) | (simp; omega)) ?_)
                          refine toEnd hC ?_
                          refine endX_seq ?_
                          rcases iteB_some h with ⟨c19, h⟩ | ⟨c19, h⟩
                          · refine runX_condT rfl c19 ?_
                            refine runX_skip ?_
                            refine endX_seq ?_
                            refine runX_seq ?_
                            refine runX_block ?_
                            refine runX_seq ?_
                            refine runX_drawC mixed (by kernel_rfl) fun C hC => ?_
                            obtain ⟨g20, h⟩ := grd_some h
                            obtain ⟨g21, h⟩ := grd_some h
                            try simp -implicitDefEqProofs (maxSteps := 4000000) (disch := first | omega | decide | (simp only [go_sem]; omega)) only [go_sem, ↓reduceIte]
                            repeat (with_reducible refine And.intro (by first | assumption | omega | (simp; done) | (simp; omega)) ?_)
                            refine toEnd hC ?_
                            refine endX_seq ?_
                            rcases iteB_some h with ⟨c22, h⟩ | ⟨c22, h⟩
                            · refine runX_condT rfl c22 ?_
                              refine runX_seq ?_
                              refine runX_regionC fun C hC => ?_
                              try simp -implicitDefEqProofs (maxSteps := 4000000) (disch := first | omega | decide | (simp only [go_sem]; omega)) only [go_sem, ↓reduceIte]
                              repeat (with_reducible refine And.intro (by first | assumption | omega | (simp; done) | (simp; omega)) ?_)
                              refine toEnd hC ?_
                              refine endX_seq ?_
                              refine runX_ret ?_
                              refine endX_blkR ?_
                              refine endX_seqR ?_
                              refine endX_q (roundQ_ret ?_)
                              refine endX_blkR ?_
                              refine endX_seqR ?_
                              refine endX_q ?_
                              obtain rfl := Option.some.inj h
                              show RetW _ _ _ _ _
                              simp only [RetW]
                              (try simp -implicitDefEqProofs (maxSteps := 4000000) (disch := first | omega | decide | (simp only [go_sem]; omega)) only [go_sem, ↓reduceIte])
                              (try simp (disch := omega) only [if_pos, Nat.sub_zero])
                              exact leT_refl _
                            · refine runX_condF rfl c22 ?_
                              refine runX_skip ?_
                              refine endX_blk ?_
                              refine endX_seq ?_
                              refine runX_regionC fun C hC => ?_
                              try simp -implicitDefEqProofs (maxSteps := 4000000) (disch := first | omega | decide | (simp only [go_sem]; omega)) only [go_sem, ↓reduceIte]
                              repeat (with_reducible refine And.intro (by first | assumption | omega | (simp; done) | (simp; omega)) ?_)
                              refine toEnd hC ?_
                              refine endX_q (roundQ_normal ⟨m2, by omega, F6_S2 v4 v5 (IntKind.wrap .i64 (x18 + (1 : Int))), ?_, (IntKind.wrap .i64 (x18 + (1 : Int))), rfl, by omega, h⟩)
                              simp only [F6_S2]
                              (try simp -implicitDefEqProofs (maxSteps := 4000000) (disch := first | omega | decide | (simp only [go_sem]; omega)) only [go_sem, ↓reduceIte])
                              first | exact leS_refl _ | (refine leS_le ?_ ?_ <;> first | exact leL_refl _ | exact leOs_refl _ | (repeat (first | exact leL_refl _ | refine leL_cons (by first | exact leT_refl _ | exact leT_virt | exact leT_junk _ | exact leT_sl | exact leT_sln | exact leT_nil) ?_)))
                          · refine runX_condF rfl c19 ?_
                            refine runX_exit ?_
                            refine endX_seqE ?_
                            refine endX_q (roundQ_exit ?_)
                            refine endX_blkE ?_
                            refine endX_seq ?_
                            refine runX_seq ?_
                            refine runX_regionC fun C hC => ?_
                            simp only [runK_region, runK_draw, liteL, liteL2, dstsL, gL, List.getD_cons_zero, List.getD_cons_succ]
                            obtain ⟨v23, h23, h⟩ := bnd_some h
                            try simp -implicitDefEqProofs (maxSteps := 4000000) (disch := first | omega | decide | (simp only [go_sem]; omega)) only [go_sem, ↓reduceIte]
                            repeat (with_reducible refine And.intro (by first | assumption | omega | (simp; done) | (simp; omega)) ?_)
                            refine callG_X (by first | rfl | (simp only [go_sem]; done) | (simp only [closedL, closedT, Bool.and_true]; exact closedL_map _ (fun _ => by first | rfl | (simp only [go_sem]; done)) _)) (F12_ok m2 ([32, 42, 32] : List UInt8) _ h23) (by repeat (first | exact leL_refl _ | refine leL_cons (by first | exact leT_refl _ | exact leT_virt | exact leT_junk _ | exact leT_sl | exact leT_sln | exact leT_nil) ?_)) ?_
                            try simp -implicitDefEqProofs (maxSteps := 4000000) (disch := first | omega | decide | (simp only [go_sem]; omega)) only [go_sem, ↓reduceIte]
                            repeat (with_reducible refine And.intro (by first | assumption | omega | (simp; done) | (simp; omega)) ?_)
                            refine toEnd hC ?_
                            refine endX_seq ?_
                            refine runX_seq ?_
                            refine runX_regionC fun C hC => ?_
                            try simp -implicitDefEqProofs (maxSteps := 4000000) (disch := first | omega | decide | (simp only [go_sem]; omega)) only [go_sem, ↓reduceIte]
                            repeat (with_reducible refine And.intro (by first | assumption | omega | (simp; done) | (simp; omega)) ?_)
                            rcases iteB_some h with ⟨c24, h⟩ | ⟨c24, h⟩
                            · refine guardK_T c24 ?_
                              try simp -implicitDefEqProofs (maxSteps := 4000000) (disch := first | omega | decide | (simp only [go_sem]; omega)) only [go_sem, ↓reduceIte]
                              repeat (with_reducible refine And.intro (by first | assumption | omega | (simp; done) | (simp; omega)) ?_)
                              refine toEnd hC ?_
                              refine endX_seq ?_
                              refine runX_ret ?_
                              refine endX_q ?_
                              obtain rfl := Option.some.inj h
                              show RetW _ _ _ _ _
                              simp only [RetW]
                              (try simp -implicitDefEqProofs (maxSteps := 4000000) (disch := first | omega | decide | (simp only [go_sem]; omega)) only [go_sem, ↓reduceIte])
                              (try simp (disch := omega) only [if_pos, Nat.sub_zero])
                              exact leT_refl _
                            · refine guardK_F c24 ?_
                              try simp -implicitDefEqProofs (maxSteps := 4000000) (disch := first | omega | decide | (simp only [go_sem]; omega)) only [go_sem, ↓reduceIte]
                              repeat (with_reducible refine And.intro (by first | assumption | omega | (simp; done) | (simp; omega)) ?_)
                              refine toEnd hC ?_
                              refine endX_seq ?_
                              refine runX_ret ?_
                              refine endX_q ?_
                              obtain rfl := Option.some.inj h
                              show RetW _ _ _ _ _
                              simp only [RetW]
                              (try simp -implicitDefEqProofs (maxSteps := 4000000) (disch := first | omega | decide | (simp only [go_sem]; omega)) only [go_sem, ↓reduceIte])
                              (try simp (disch := omega) only [if_pos, Nat.sub_zero])
                              exact leT_refl _
end Go.Proofs.YtbdkofondpalpaaDoorX

/- Tags and words of a head's value: what the program and the reference answer. -/
set_option linter.unusedVariables false
set_option linter.unusedSimpArgs false
namespace Go.Proofs.YtbdkofondpalpaaDoorX
open Go

abbrev Tg := Bool × List UInt8
/-- Is a byte one of a tag's? -/
def tgB (c : UInt8) : Bool := !(decide ((c.toNat : Int) < 33) || ((c.toNat : Int) == 127))
def tgNo : Tg × List UInt8 × Bool := ((false, []), [], false)
/-- Behind the first quote. -/
def tgBody (w : Bool) (r : List UInt8) : Tg × List UInt8 × Bool :=
  if (cutB 34 r).2.2 = true ∧ (cutB 34 r).1.all tgB = true then ((w, (cutB 34 r).1), (cutB 34 r).2.1, true) else tgNo
def tgHead (w : Bool) (s : List UInt8) : Tg × List UInt8 × Bool := match s with
  | [] => tgNo
  | c :: r => if c = 34 then tgBody w r else tgNo
/-- The tag that a text begins with, and what is behind it. -/
def tgOne (s : List UInt8) : Tg × List UInt8 × Bool := match s with
  | 87 :: 47 :: r => tgHead true r
  | s => tgHead false s
theorem tgOne_cases (s : List UInt8) : (∃ r, s = 87 :: 47 :: r ∧ tgOne s = tgHead true r) ∨ ((∀ r, s ≠ 87 :: 47 :: r) ∧ tgOne s = tgHead false s) := by
  unfold tgOne
  split
  · exact .inl ⟨_, rfl, rfl⟩
  · rename_i h
    exact .inr ⟨fun r e => h r e, rfl⟩
theorem body_len (w : Bool) (r : List UInt8) : (tgBody w r).2.1.length ≤ r.length := by
  unfold tgBody
  split
  · unfold cutB
    split
    · simp only [List.length_drop]; omega
    · simp
  · simp [tgNo]
theorem head_len (w : Bool) (s : List UInt8) : (tgHead w s).2.2 = true → (tgHead w s).2.1.length < s.length := by
  unfold tgHead
  split
  · intro h; cases h
  · split
    · intro _
      have := body_len w ‹_›
      simp; omega
    · intro h; cases h
theorem one_len (s : List UInt8) : (tgOne s).2.2 = true → (tgOne s).2.1.length < s.length := by
  rcases tgOne_cases s with ⟨r, rfl, h⟩ | ⟨_, h⟩ <;> rw [h]
  · intro h2
    have := head_len true r h2
    simp; omega
  · exact head_len false s
/-! ### The program's tag -/
theorem tag_loop (r : List UInt8) (p : List UInt8 × Bool) (hp : p.1 = 34 :: r) (hr : r.length ≤ 1000000) (m : Nat) (hm : m < r.length) (hc : cutB 34 r = (r.take m, r.drop (m + 1), true)) :
    ∀ (d i : Nat), i + d = m → (r.take i).all tgB = true → Ev (fun n => F36_L1 n p (m : Int) (i : Int)) (tgBody p.2 r) := by
  have hd : p.1.drop 1 = r := by rw [hp]; rfl
  intro d
  induction d with
  | zero =>
    intro i hi ha
    obtain rfl : i = m := by omega
    have e : tgBody p.2 r = ((p.2, r.take i), r.drop (i + 1), true) := by
      unfold tgBody; rw [hc, if_pos ⟨rfl, ha⟩]
    rw [e]
    refine Ev.step (Ev.pure.congr fun n => ?_)
    rw [F36_L1, decide_eq_false (by omega), iteB_f, hd, g64 i (by omega), toNat_nat, toNat_nat, grd_t _ (by omega), grd_t _ (by omega)]
  | succ d ih =>
    intro i hi ha
    have hb : ((((p.1.drop 1).getD i 0).toNat : Nat) : Int) = bt r i := by rw [hd]; rfl
    have hk : (r.take (i + 1)).all tgB = ((r.take i).all tgB && tgB (r.getD i 0)) := by
      rw [List.take_add_one, List.all_append, List.getD_eq_getElem?_getD, List.getElem?_eq_getElem (by omega)]; simp
    have htk : (r.take m).all tgB = true → tgB (r.getD i 0) = true := by
      intro h
      refine List.all_eq_true.1 h _ ?_
      rw [List.getD_eq_getElem?_getD, List.getElem?_eq_getElem (by omega)]
      exact List.mem_take_iff_getElem.2 ⟨i, by omega, rfl⟩
    have hno : tgB (r.getD i 0) = false → tgBody p.2 r = tgNo := by
      intro h
      unfold tgBody; rw [hc, if_neg]
      rintro ⟨_, h2⟩
      rw [htk h2] at h; cases h
    have hdef : tgB (r.getD i 0) = !(decide (bt r i < 33) || (bt r i == 127)) := rfl
    by_cases h1 : bt r i < 33
    · rw [hno (by rw [hdef, decide_eq_true h1]; rfl)]
      refine Ev.step (Ev.pure.congr fun n => ?_)
      rw [F36_L1, decide_eq_true (by omega), iteB_t, toNat_nat, hb, decide_eq_true h1, iteB_t, grd_t _ (by rw [hd]; omega)]; rfl
    · by_cases h2 : bt r i = 127
      · rw [hno (by rw [hdef, bqt h2]; simp)]
        refine Ev.step (Ev.pure.congr fun n => ?_)
        rw [F36_L1, decide_eq_true (by omega), iteB_t, toNat_nat, hb, decide_eq_false h1, iteB_f, bqt h2, iteB_t, grd_t _ (by rw [hd]; omega)]; rfl
      · refine Ev.step ((ih (i + 1) (by omega) (by rw [hk, ha, hdef, decide_eq_false h1, bq h2]; rfl)).congr fun n => ?_)
        rw [F36_L1, decide_eq_true (by omega), iteB_t, toNat_nat, hb, decide_eq_false h1, iteB_f, bq h2, iteB_f, g64 i (by omega), grd_t _ (by rw [hd]; omega)]
theorem tag_head (s : List UInt8) (w : Bool) (hs : s.length ≤ 1000000) : Ev (fun n => iteB (s == []) (some tgNo) (grd ((0 : Int) < (s.length : Int)) (iteB (((s.getD (0 : Int).toNat 0).toNat : Int) != (34 : Int)) (some tgNo) (grd ((1 : Int) ≤ (s.length : Int)) ((F73 n (s.drop 1) (34 : Int)).bind fun v6 => iteB (decide (v6 < (0 : Int))) (some tgNo) (F36_L1 n (s, w) v6 (0 : Int))))))) (tgHead w s) := by
  cases s with
  | nil => exact Ev.pure.congr fun n => rfl
  | cons c r =>
    have hl : ((c :: r).length : Int) = (r.length : Int) + 1 := by simp
    have hr : r.length ≤ 1000000 := by simp at hs; omega
    by_cases h : c = 34
    · subst h
      have hx : ∀ n, F73 n ((34 :: r).drop 1) 34 = some (Lib.indexByte r 34) := fun n => by
        rw [F73, F106, bind_some']; rfl
      show Ev _ (tgBody w r)
      rcases idx_cases 34 r with ⟨h1, h2, h3, h4⟩ | ⟨m, h1, h2, h3, h4, h5, h6⟩
      · have e : tgBody w r = tgNo := by unfold tgBody; rw [cut_none 34 r h2, if_neg (by simp)]
        rw [e]
        refine Ev.pure.congr fun n => ?_
        rw [show ((34 :: r : List UInt8) == []) = false from rfl, iteB_f, grd_t _ (by omega), show ((((34 :: r : List UInt8).getD (0 : Int).toNat 0).toNat : Int) != 34) = false from rfl, iteB_f, grd_t _ (by omega), hx, h1, bind_some']
        rfl
      · have hc : cutB 34 r = (r.take m, r.drop (m + 1), true) := by
          conv => lhs; rw [h4]
          exact cut_app 34 _ _ h3
        refine (tag_loop r (34 :: r, w) rfl hr m h1 hc m 0 (by omega) rfl).congr fun n => ?_
        rw [show ((34 :: r : List UInt8) == []) = false from rfl, iteB_f, grd_t _ (by omega), show ((((34 :: r : List UInt8).getD (0 : Int).toNat 0).toNat : Int) != 34) = false from rfl, iteB_f, grd_t _ (by omega), hx, h2, bind_some', decide_eq_false (by omega), iteB_f]
        rfl
    · have e : tgHead w (c :: r) = tgNo := if_neg h
      rw [e]
      refine Ev.pure.congr fun n => ?_
      rw [show ((c :: r : List UInt8) == []) = false from rfl, iteB_f, grd_t _ (by omega), show ((((c :: r : List UInt8).getD (0 : Int).toNat 0).toNat : Int) != 34) = true by
        rw [bne_iff_ne]; intro e; exact h (UInt8.toNat_inj.1 (show c.toNat = (34 : UInt8).toNat by have : ((c.toNat : Nat) : Int) = 34 := e; show c.toNat = 34; omega)), iteB_t]
def preB (s p : List UInt8) : Bool := decide (p.length ≤ s.length) && s.take p.length == p
def cutPT (s p : List UInt8) : List UInt8 × Bool := if preB s p = true then (s.drop p.length, true) else (s, false)
theorem cutP_eq (n : Nat) (s p : List UInt8) : F35 n s p = some (cutPT s p) := by
  rw [F35, F72, F105]
  unfold cutPT preB
  by_cases h : p.length ≤ s.length
  · rw [decide_eq_true (by omega), iteB_t, grd_t _ (by omega), bind_some', decide_eq_true h, toNat_nat, Bool.true_and]
    cases hb : (s.take p.length == p) with
    | false => rfl
    | true =>
      show (grd _ _).bind _ = _
      rw [grd_t _ (by omega)]; rfl
  · rw [decide_eq_false (by omega), iteB_f, bind_some', decide_eq_false h]; rfl
theorem weak_pre (s : List UInt8) : preB s [87, 47] = true ↔ ∃ r, s = 87 :: 47 :: r := by
  unfold preB
  constructor
  · intro h
    simp only [Bool.and_eq_true, decide_eq_true_eq, beq_iff_eq] at h
    obtain ⟨h1, h2⟩ := h
    match s, h1, h2 with
    | a :: b :: r, _, h2 =>
      have h2 : [a, b] = [87, 47] := h2
      cases h2
      exact ⟨r, rfl⟩
  · rintro ⟨r, rfl⟩
    simp
theorem ev_tag (s : List UInt8) (hs : s.length ≤ 1000000) : Ev (fun n => F36 n s) (tgOne s) := by
  rcases tgOne_cases s with ⟨r, rfl, h⟩ | ⟨hno, h⟩ <;> rw [h]
  · refine (tag_head r true (by simp at hs; omega)).congr fun n => ?_
    rw [F36, cutP_eq, show cutPT (87 :: 47 :: r) [87, 47] = (r, true) by unfold cutPT; rw [if_pos ((weak_pre _).2 ⟨r, rfl⟩)]; rfl, bind_some']
    rfl
  · refine (tag_head s false hs).congr fun n => ?_
    rw [F36, cutP_eq, show cutPT s [87, 47] = (s, false) by unfold cutPT; rw [if_neg (fun h => by obtain ⟨r, e⟩ := (weak_pre s).1 h; exact hno r e)], bind_some']
    rfl
/-! ### The reference's tag -/
theorem rone_loop (w : Bool) (r : List UInt8) (hr : r.length ≤ 1000000) : ∀ (d i : Nat), i + d = r.length → (34 : UInt8) ∉ r.take i → (r.take i).all tgB = true → Ev (fun n => F47_L2 n (34 :: r) w ((i + 1 : Nat) : Int)) (tgBody w r) := by
  have hl : ((34 :: r : List UInt8).length : Int) = (r.length : Int) + 1 := by simp
  intro d
  induction d with
  | zero =>
    intro i hi hn ha
    rw [List.take_of_length_le (by omega)] at hn
    have e : tgBody w r = tgNo := by unfold tgBody; rw [cut_none 34 r hn, if_neg (by simp)]
    rw [e]
    refine Ev.step (Ev.pure.congr fun n => ?_)
    rw [F47_L2, decide_eq_false (by omega), iteB_f, bqt (show ((i + 1 : Nat) : Int) = ((34 :: r : List UInt8).length : Int) by omega), iteB_t]; rfl
  | succ d ih =>
    intro i hi hn ha
    have hb : ((((34 :: r : List UInt8).getD (i + 1) 0).toNat : Nat) : Int) = bt r i := rfl
    have hk : (r.take (i + 1)).all tgB = ((r.take i).all tgB && tgB (r.getD i 0)) := by
      rw [List.take_add_one, List.all_append, List.getD_eq_getElem?_getD, List.getElem?_eq_getElem (by omega)]; simp
    have hdef : tgB (r.getD i 0) = !(decide (bt r i < 33) || (bt r i == 127)) := rfl
    by_cases h : r.getD i 0 = 34
    · have hsp : r = r.take i ++ 34 :: r.drop (i + 1) := by
        conv => lhs; rw [← List.take_append_drop i r, drop_cons r i 0 (by omega), h]
      have hc : cutB 34 r = (r.take i, r.drop (i + 1), true) := by
        conv => lhs; rw [hsp]
        exact cut_app 34 _ _ hn
      have e : tgBody w r = ((w, r.take i), r.drop (i + 1), true) := by
        unfold tgBody; rw [hc, if_pos ⟨rfl, ha⟩]
      have h34 : (bt r i != 34) = false := by
        have : bt r i = 34 := by unfold bt; rw [h]; rfl
        rw [this]; rfl
      rw [e]
      refine Ev.step (Ev.pure.congr fun n => ?_)
      rw [F47_L2, decide_eq_true (by omega), iteB_t, toNat_nat, hb, h34, iteB_f, bq (show ¬ ((i + 1 : Nat) : Int) = ((34 :: r : List UInt8).length : Int) by omega), iteB_f, g64 (i + 1) (by omega), toNat_nat, grd_t _ (by omega), grd_t _ (by omega), grd_t _ (by omega)]
      rfl
    · have h34 : (bt r i != 34) = true := by
        rw [bne_iff_ne]; intro e
        apply h
        unfold bt at e
        apply UInt8.toNat_inj.1
        show (r.getD i 0).toNat = 34
        omega
      have hn' : (34 : UInt8) ∉ r.take (i + 1) := by
        rw [List.take_add_one, List.mem_append]
        rintro (e | e)
        · exact hn e
        · rw [List.getD_eq_getElem?_getD] at h
          cases hg : r[i]? with
          | none => rw [hg] at e; simp at e
          | some x => rw [hg] at e h; simp at e; exact h e.symm
      have hno : tgB (r.getD i 0) = false → tgBody w r = tgNo := by
        intro hf
        unfold tgBody
        rcases idx_cases 34 r with ⟨h1, h2, h3, h4⟩ | ⟨m, h1, h2, h3, h4, h5, h6⟩
        · rw [cut_none 34 r h2, if_neg (by simp)]
        · have hc : cutB 34 r = (r.take m, r.drop (m + 1), true) := by
            conv => lhs; rw [h4]
            exact cut_app 34 _ _ h3
          rw [hc, if_neg]
          rintro ⟨_, hall⟩
          have him : i < m := by
            rcases Nat.lt_or_ge i m with q | q
            · exact q
            · exfalso
              have hd := drop_cons r m 0 h1
              have hm34 : r.getD m 0 = 34 := by
                have e1 : r.drop m = 34 :: r.drop (m + 1) := by
                  conv => lhs; rw [h4]
                  rw [List.drop_left' (by rw [List.length_take]; omega)]
                rw [e1] at hd
                exact ((List.cons.inj hd).1).symm
              rcases Nat.eq_or_lt_of_le q with q | q
              · subst q; exact h hm34
              · refine hn ?_
                rw [← hm34, List.getD_eq_getElem?_getD, List.getElem?_eq_getElem h1]
                exact List.mem_take_iff_getElem.2 ⟨m, by omega, rfl⟩
          have : tgB (r.getD i 0) = true := by
            refine List.all_eq_true.1 hall _ ?_
            rw [List.getD_eq_getElem?_getD, List.getElem?_eq_getElem (by omega)]
            exact List.mem_take_iff_getElem.2 ⟨i, by omega, rfl⟩
          rw [this] at hf; cases hf
      by_cases h1 : bt r i < 33
      · rw [hno (by rw [hdef, decide_eq_true h1]; rfl)]
        refine Ev.step (Ev.pure.congr fun n => ?_)
        rw [F47_L2, decide_eq_true (by omega), iteB_t, toNat_nat, hb, h34, iteB_t, decide_eq_true h1, iteB_t, grd_t _ (by omega), grd_t _ (by omega)]; rfl
      · by_cases h2 : bt r i = 127
        · rw [hno (by rw [hdef, bqt h2]; simp)]
          refine Ev.step (Ev.pure.congr fun n => ?_)
          rw [F47_L2, decide_eq_true (by omega), iteB_t, toNat_nat, hb, h34, iteB_t, decide_eq_false h1, iteB_f, bqt h2, iteB_t, grd_t _ (by omega), grd_t _ (by omega), grd_t _ (by omega)]; rfl
        · refine Ev.step ((ih (i + 1) (by omega) hn' (by rw [hk, ha, hdef, decide_eq_false h1, bq h2]; rfl)).congr fun n => ?_)
          rw [F47_L2, decide_eq_true (by omega), iteB_t, toNat_nat, hb, h34, iteB_t, decide_eq_false h1, iteB_f, bq h2, iteB_f, g64 (i + 1) (by omega), grd_t _ (by omega), grd_t _ (by omega), grd_t _ (by omega)]
theorem rone_head (w : Bool) (s : List UInt8) (hs : s.length ≤ 1000000) : Ev (fun n => F47_J1 n s w) (tgHead w s) := by
  cases s with
  | nil => exact Ev.pure.congr fun n => by rw [F47_J1]; rfl
  | cons c r =>
    have hl : ((c :: r).length : Int) = (r.length : Int) + 1 := by simp
    by_cases h : c = 34
    · subst h
      refine (rone_loop w r (by simp at hs; omega) r.length 0 (by omega) (by simp) rfl).congr fun n => ?_
      rw [F47_J1, bq (show ¬ ((34 :: r : List UInt8).length : Int) = 0 by omega), iteB_f, grd_t _ (by omega), show ((((34 :: r : List UInt8).getD (0 : Int).toNat 0).toNat : Int) != 34) = false from rfl, iteB_f]
      rfl
    · have e : tgHead w (c :: r) = tgNo := if_neg h
      rw [e]
      refine Ev.pure.congr fun n => ?_
      rw [F47_J1, bq (show ¬ ((c :: r : List UInt8).length : Int) = 0 by omega), iteB_f, grd_t _ (by omega), show ((((c :: r : List UInt8).getD (0 : Int).toNat 0).toNat : Int) != 34) = true by
        rw [bne_iff_ne]; intro e; exact h (UInt8.toNat_inj.1 (show c.toNat = 34 by have : ((c.toNat : Nat) : Int) = 34 := e; omega)), iteB_t]
      rfl
theorem ev_rone (s : List UInt8) (hs : s.length ≤ 1000000) : Ev (fun n => F47 n s) (tgOne s) := by
  rcases tgOne_cases s with ⟨r, rfl, h⟩ | ⟨hno, h⟩ <;> rw [h]
  · cases r with
    | nil =>
      refine (rone_head false [87, 47] (by decide)).congr fun n => ?_
      rw [F47]; rfl
    | cons x r =>
      have hl : ((87 :: 47 :: x :: r : List UInt8).length : Int) = (r.length : Int) + 3 := by simp; omega
      refine (rone_head true (x :: r) (by simp at hs ⊢; omega)).congr fun n => ?_
      rw [F47, decide_eq_true (by omega), iteB_t, grd_t _ (by omega), show ((87 :: 47 :: x :: r : List UInt8).take 2 == [87, 47]) = true from rfl, iteB_t, grd_t _ (by omega)]
      rfl
  · refine (rone_head false s hs).congr fun n => ?_
    rw [F47]
    by_cases h2 : (2 : Int) < (s.length : Int)
    · have : (s.take 2 == ([87, 47] : List UInt8)) = false := by
        rw [beq_eq_false_iff_ne]
        intro e
        match s, h2, e with
        | a :: b :: r, _, e =>
          have e : [a, b] = [87, 47] := e
          cases e
          exact hno r rfl
      rw [decide_eq_true h2, iteB_t, grd_t _ (by omega), this, iteB_f]
    · rw [decide_eq_false h2, iteB_f]
/-! ### Tags -/
abbrev Tgs := List Tg × Bool × Bool
def tagsL : Nat → List UInt8 → Bool → List Tg → Tgs
  | 0, _, _, acc => (acc, false, decide ((0 : Int) < (acc.length : Int)))
  | _ + 1, [], _, acc => (acc, false, decide ((0 : Int) < (acc.length : Int)))
  | d + 1, c :: r, fr, acc =>
    if c = 44 then tagsL d (trimT r) true acc else if (tgOne (c :: r)).2.2 = false then ([], false, false) else if fr = false then ([], false, false) else tagsL d (trimT (tgOne (c :: r)).2.1) false (acc ++ [(tgOne (c :: r)).1])
theorem tagsL_fuel : ∀ (d d' : Nat) (s : List UInt8) (fr : Bool) (acc : List Tg), s.length ≤ d → s.length ≤ d' → tagsL d s fr acc = tagsL d' s fr acc
  | 0, 0, s, fr, acc, _, _ => rfl
  | 0, d' + 1, s, fr, acc, h, _ => by
    obtain rfl := List.eq_nil_of_length_eq_zero (by omega : s.length = 0)
    rw [tagsL, tagsL]
  | d + 1, 0, s, fr, acc, _, h => by
    obtain rfl := List.eq_nil_of_length_eq_zero (by omega : s.length = 0)
    rw [tagsL, tagsL]
  | d + 1, d' + 1, [], fr, acc, _, _ => by rw [tagsL, tagsL]
  | d + 1, d' + 1, c :: r, fr, acc, h1, h2 => by
    have ht := trimT_len r
    have ht2 := trimT_len (tgOne (c :: r)).2.1
    have hone := one_len (c :: r)
    simp only [List.length_cons] at h1 h2 hone
    rw [tagsL, tagsL, tagsL_fuel d d' (trimT r) true acc (by omega) (by omega)]
    split
    · rfl
    · split
      · rfl
      · rename_i hn
        have := hone (by simpa using hn)
        rw [tagsL_fuel d d' (trimT (tgOne (c :: r)).2.1) false _ (by omega) (by omega)]
theorem tags_loop : ∀ (d : Nat) (s : List UInt8) (fr : Bool) (acc : List Tg), s.length ≤ d → d + acc.length ≤ 1000000 →
    Ev (fun n => F12_L1 n s fr acc) (tagsL d s fr acc) ∧ Ev (fun n => F24_L1 n s fr acc) (tagsL d s fr acc) := by
  intro d
  have zero : ∀ (d : Nat) (fr : Bool) (acc : List Tg), Ev (fun n => F12_L1 n [] fr acc) (tagsL d [] fr acc) ∧ Ev (fun n => F24_L1 n [] fr acc) (tagsL d [] fr acc) := by
    intro d fr acc
    have e : tagsL d [] fr acc = (acc, false, decide ((0 : Int) < (acc.length : Int))) := by cases d <;> rw [tagsL]
    rw [e]
    exact ⟨Ev.step (Ev.pure.congr fun n => by rw [F12_L1]; rfl), Ev.step (Ev.pure.congr fun n => by rw [F24_L1]; rfl)⟩
  induction d with
  | zero =>
    intro s fr acc hs _
    obtain rfl := List.eq_nil_of_length_eq_zero (by omega : s.length = 0)
    exact zero 0 fr acc
  | succ d ih =>
    intro s fr acc hs hd
    cases s with
    | nil => exact zero (d + 1) fr acc
    | cons c r =>
      simp only [List.length_cons] at hs
      have hl : ((c :: r).length : Int) = (r.length : Int) + 1 := by simp
      have ht := trimT_len r
      have ht2 := trimT_len (tgOne (c :: r)).2.1
      have hone := one_len (c :: r)
      rw [tagsL]
      by_cases h : c = 44
      · subst h
        rw [if_pos rfl]
        obtain ⟨⟨N1, e1⟩, ⟨N2, e2⟩⟩ := ih (trimT r) true acc (by omega) (by omega)
        obtain ⟨N3, e3⟩ := ev_trim r (by omega)
        have hp : cutPT (44 :: r) [44] = (r, true) := by
          unfold cutPT preB
          rw [if_pos (by simp)]; rfl
        refine ⟨Ev.step ⟨N1, fun n hn => ?_⟩, Ev.step ⟨N2 + N3, fun n hn => ?_⟩⟩
        · have q1 := e1 n (by omega)
          dsimp only at q1
          show F12_L1 (n + 1) (44 :: r) fr acc = _
          rw [F12_L1, show (!((44 :: r : List UInt8) == [])) = true from rfl, iteB_t, cutP_eq, hp, bind_some', iteB_t]
          dsimp only
          rw [Trim_eq n r (by omega), bind_some', q1]
        · have q2 := e2 n (by omega)
          have q3 := e3 n (by omega)
          dsimp only at q2 q3
          show F24_L1 (n + 1) (44 :: r) fr acc = _
          rw [F24_L1, decide_eq_true (by omega), iteB_t, grd_t _ (by omega), show ((((44 :: r : List UInt8).getD (0 : Int).toNat 0).toNat : Int) == 44) = true from rfl, iteB_t, grd_t _ (by omega)]
          show (F40 n r).bind _ = _
          rw [q3, bind_some', q2]
      · rw [if_neg h]
        have hp : cutPT (c :: r) [44] = (c :: r, false) := by
          unfold cutPT preB
          rw [if_neg]
          simp only [Bool.and_eq_true, beq_iff_eq]
          rintro ⟨_, e⟩
          have e : [c] = [44] := e
          cases e; exact h rfl
        have hc : ((((c :: r : List UInt8).getD (0 : Int).toNat 0).toNat : Int) == 44) = false := by
          rw [beq_eq_false_iff_ne]
          intro e
          have e : ((c.toNat : Nat) : Int) = 44 := e
          exact h (UInt8.toNat_inj.1 (show c.toNat = 44 by omega))
        obtain ⟨N1, e1⟩ := ev_tag (c :: r) (by simp; omega)
        obtain ⟨N2, e2⟩ := ev_rone (c :: r) (by simp; omega)
        have hL : ∀ n, F12_L1 (n + 1) (c :: r) fr acc = (F36 n (c :: r)).bind fun v10 => iteB (!v10.2.2) (some ([], false, false)) (iteB (!fr) (some ([], false, false)) (grd ((acc.length + 1) ≤ 549755813888) ((F34 n v10.2.1 ([32, 9] : List UInt8)).bind fun v14 => F12_L1 n v14 false (acc ++ [(v10.1.1, v10.1.2)])))) := by
          intro n
          rw [F12_L1, show (!((c :: r : List UInt8) == [])) = true from rfl, iteB_t, cutP_eq, hp, bind_some', iteB_f]
        have hR : ∀ n, F24_L1 (n + 1) (c :: r) fr acc = (F47 n (c :: r)).bind fun v11 => iteB (!v11.2.2) (some ([], false, false)) (iteB (!fr) (some ([], false, false)) (grd ((acc.length + 1) ≤ 549755813888) ((F40 n v11.2.1).bind fun v15 => F24_L1 n v15 false (acc ++ [(v11.1.1, v11.1.2)])))) := by
          intro n
          rw [F24_L1, decide_eq_true (by omega), iteB_t, grd_t _ (by omega), hc, iteB_f]
        cases h2 : (tgOne (c :: r)).2.2 with
        | false =>
          rw [if_pos rfl]
          refine ⟨Ev.step ⟨N1, fun n hn => ?_⟩, Ev.step ⟨N2, fun n hn => ?_⟩⟩
          · have q1 := e1 n (by omega)
            dsimp only at q1
            show F12_L1 (n + 1) (c :: r) fr acc = _
            rw [hL, q1, bind_some', h2]; rfl
          · have q2 := e2 n (by omega)
            dsimp only at q2
            show F24_L1 (n + 1) (c :: r) fr acc = _
            rw [hR, q2, bind_some', h2]; rfl
        | true =>
          rw [if_neg (by simp)]
          have hlt := hone h2
          simp only [List.length_cons] at hlt
          cases fr with
          | false =>
            rw [if_pos rfl]
            refine ⟨Ev.step ⟨N1, fun n hn => ?_⟩, Ev.step ⟨N2, fun n hn => ?_⟩⟩
            · have q1 := e1 n (by omega)
              dsimp only at q1
              show F12_L1 (n + 1) (c :: r) false acc = _
              rw [hL, q1, bind_some', h2]; rfl
            · have q2 := e2 n (by omega)
              dsimp only at q2
              show F24_L1 (n + 1) (c :: r) false acc = _
              rw [hR, q2, bind_some', h2]; rfl
          | true =>
            rw [if_neg (by simp)]
            obtain ⟨⟨N3, e3⟩, ⟨N4, e4⟩⟩ := ih (trimT (tgOne (c :: r)).2.1) false (acc ++ [(tgOne (c :: r)).1]) (by omega) (by simp; omega)
            obtain ⟨N5, e5⟩ := ev_trim (tgOne (c :: r)).2.1 (by omega)
            refine ⟨Ev.step ⟨N1 + N3, fun n hn => ?_⟩, Ev.step ⟨N2 + N4 + N5, fun n hn => ?_⟩⟩
            · have q1 := e1 n (by omega)
              have q3 := e3 n (by omega)
              dsimp only at q1 q3
              show F12_L1 (n + 1) (c :: r) true acc = _
              rw [hL, q1, bind_some', h2, Bool.not_true, iteB_f, iteB_f, grd_t _ (by omega), Trim_eq n _ (by omega), bind_some']
              exact q3
            · have q2 := e2 n (by omega)
              have q4 := e4 n (by omega)
              have q5 := e5 n (by omega)
              dsimp only at q2 q4 q5
              show F24_L1 (n + 1) (c :: r) true acc = _
              rw [hR, q2, bind_some', h2, Bool.not_true, iteB_f, iteB_f, grd_t _ (by omega), q5, bind_some']
              exact q4
/-- The tags of a value. -/
def tagsT (s : List UInt8) : Tgs := if trimT s = [42] then ([], true, true) else tagsL (trimT s).length (trimT s) true []
theorem ev_Tags (s : List UInt8) (hs : s.length ≤ 900000) : Ev (fun n => F12 n s) (tagsT s) ∧ Ev (fun n => F24 n s) (tagsT s) := by
  have ht := trimT_len s
  unfold tagsT
  obtain ⟨⟨N1, e1⟩, ⟨N2, e2⟩⟩ := tags_loop (trimT s).length (trimT s) true [] (Nat.le_refl _) (by simp; omega)
  obtain ⟨N3, e3⟩ := ev_trim s (by omega)
  by_cases h : trimT s = [42]
  · rw [if_pos h]
    refine ⟨Ev.pure.congr fun n => ?_, ⟨N3, fun n hn => ?_⟩⟩
    · rw [F12, Trim_eq n s (by omega), bind_some', h]; rfl
    · have q3 := e3 n hn
      dsimp only at q3
      show F24 n s = _
      rw [F24, q3, bind_some', h]; rfl
  · rw [if_neg h]
    have hb : (trimT s == [42]) = false := by rw [beq_eq_false_iff_ne]; exact h
    refine ⟨⟨N1, fun n hn => ?_⟩, ⟨N2 + N3, fun n hn => ?_⟩⟩
    · have q1 := e1 n (by omega)
      dsimp only at q1
      show F12 n s = _
      rw [F12, Trim_eq n s (by omega), bind_some', hb, iteB_f, q1]
    · have q2 := e2 n (by omega)
      have q3 := e3 n (by omega)
      dsimp only at q2 q3
      show F24 n s = _
      rw [F24, q3, bind_some', hb, iteB_f, q2]
end Go.Proofs.YtbdkofondpalpaaDoorX

/- HeaderQuotes: tags that are quoted are told as they were. -/
set_option linter.unusedVariables false
set_option linter.unusedSimpArgs false
namespace Go.Proofs.YtbdkofondpalpaaDoorX
open Go

/-- A tag's text. -/
def quoteT (t : Tg) : List UInt8 := if t.1 = true then [87, 47] ++ ([34] ++ t.2 ++ [34]) else [34] ++ t.2 ++ [34]
theorem Quote_eq (n : Nat) (t : Tg) (h : t.2.length ≤ 1000000) : F11 n t = some (quoteT t) := by
  unfold quoteT
  obtain ⟨b, s⟩ := t
  have h : s.length ≤ 1000000 := h
  rw [F11, grd_t _ (by dsimp only; omega), grd_t _ (by dsimp only; omega), grd_t _ (by dsimp only; omega)]
  cases b <;> rfl
theorem quote_len (t : Tg) : (quoteT t).length ≤ t.2.length + 4 := by
  unfold quoteT; split <;> simp <;> omega
theorem quote_end (t : Tg) : ∃ q, quoteT t = q ++ [34] := by
  unfold quoteT; split
  · exact ⟨[87, 47] ++ ([34] ++ t.2), by simp⟩
  · exact ⟨[34] ++ t.2, by simp⟩
theorem quote_head (t : Tg) : ∃ c q, quoteT t = c :: q ∧ isBl c = false ∧ c ≠ 44 ∧ c ≠ 42 := by
  unfold quoteT; split
  · exact ⟨87, _, rfl, rfl, by decide, by decide⟩
  · exact ⟨34, _, rfl, rfl, by decide, by decide⟩
/-- A text that may stand between quotes. -/
def okq (c : UInt8) : Bool := !(c == 34) && tgB c
theorem okq_all {x : List UInt8} (h : x.all okq = true) : (34 : UInt8) ∉ x ∧ x.all tgB = true := by
  rw [List.all_eq_true] at h
  refine ⟨fun hm => ?_, List.all_eq_true.2 fun c hc => ?_⟩
  · have := h 34 hm
    simp [okq] at this
  · have := h c hc
    simp only [okq, Bool.and_eq_true] at this
    exact this.2
theorem one_quote (t : Tg) (rest : List UInt8) (h : t.2.all okq = true) : tgOne (quoteT t ++ rest) = (t, rest, true) := by
  obtain ⟨b, x⟩ := t
  obtain ⟨h1, h2⟩ := okq_all h
  have hb : ∀ w, tgBody w (x ++ 34 :: rest) = ((w, x), rest, true) := fun w => by
    unfold tgBody
    rw [cut_app 34 x rest h1, if_pos ⟨rfl, h2⟩]
  cases b with
  | true =>
    have e : quoteT (true, x) ++ rest = 87 :: 47 :: 34 :: (x ++ 34 :: rest) := by simp [quoteT]
    rw [e]
    show tgHead true (34 :: (x ++ 34 :: rest)) = _
    rw [show tgHead true (34 :: (x ++ 34 :: rest)) = tgBody true (x ++ 34 :: rest) by simp [tgHead], hb]
  | false =>
    have e : quoteT (false, x) ++ rest = 34 :: (x ++ 34 :: rest) := by simp [quoteT]
    rw [e]
    show tgHead false (34 :: (x ++ 34 :: rest)) = _
    rw [show tgHead false (34 :: (x ++ 34 :: rest)) = tgBody false (x ++ 34 :: rest) by simp [tgHead], hb]
/-! ### Parsing -/
def tagsG (s : List UInt8) (fr : Bool) (acc : List Tg) : Tgs := tagsL s.length s fr acc
theorem G_nil (fr : Bool) (acc : List Tg) : tagsG [] fr acc = (acc, false, decide ((0 : Int) < (acc.length : Int))) := by
  show tagsL 0 [] fr acc = _
  rw [tagsL]
theorem G_sep (r : List UInt8) (fr : Bool) (acc : List Tg) : tagsG (44 :: r) fr acc = tagsG (trimT r) true acc := by
  show tagsL (r.length + 1) (44 :: r) fr acc = _
  rw [tagsL, if_pos rfl]
  exact tagsL_fuel _ _ _ _ _ (trimT_len r) (Nat.le_refl _)
theorem G_tag (t : Tg) (rest : List UInt8) (acc : List Tg) (h : t.2.all okq = true) : tagsG (quoteT t ++ rest) true acc = tagsG (trimT rest) false (acc ++ [t]) := by
  have ho := one_quote t rest h
  have hl := one_len (quoteT t ++ rest) (by rw [ho])
  obtain ⟨c, q, hq, _, h44, _⟩ := quote_head t
  have ht := trimT_len rest
  rw [ho] at hl
  rw [hq] at ho hl ⊢
  rw [List.cons_append] at ho hl ⊢
  show tagsL ((q ++ rest).length + 1) (c :: (q ++ rest)) true acc = _
  rw [tagsL, if_neg h44, ho, if_neg (by simp), if_neg (by simp)]
  simp only [List.length_cons] at hl
  dsimp only
  exact tagsL_fuel _ _ _ _ _ (by omega) (Nat.le_refl _)
theorem trimR_end (m : List UInt8) (c : UInt8) (h : isBl c = false) : trimR (m ++ [c]) = m ++ [c] := by rw [trimR_snoc, if_neg (by rw [h]; simp)]
theorem trimT_both (c : UInt8) (q m : List UInt8) (d : UInt8) (e : c :: q = m ++ [d]) (hc : isBl c = false) (hd : isBl d = false) : trimT (c :: q) = c :: q := by
  unfold trimT
  rw [e, trimR_end m d hd, ← e, trimL, if_neg (by rw [hc]; simp)]
def tailQ (r : List Tg) : List UInt8 := r.flatMap fun t => [32, 44, 9] ++ quoteT t
def joinQ : List Tg → List UInt8
  | [] => []
  | t :: r => quoteT t ++ tailQ r
theorem join_snoc (l : List Tg) (t : Tg) : joinQ (l ++ [t]) = if l.length = 0 then quoteT t else joinQ l ++ [32, 44, 9] ++ quoteT t := by
  cases l with
  | nil => simp [joinQ, tailQ]
  | cons x r => rw [if_neg (by simp), List.cons_append, joinQ, joinQ]; simp [tailQ]
/-- What may stand behind. -/
def endE (e : List UInt8) : Prop := e = [] ∨ e = [32, 120]
theorem end_nb (t : Tg) (r : List Tg) (e : List UInt8) (he : endE e) : ∃ m d, quoteT t ++ tailQ r ++ e = m ++ [d] ∧ isBl d = false := by
  rcases he with rfl | rfl
  · rw [List.append_nil]
    induction r using rev_ind with
    | h0 =>
      obtain ⟨q, hq⟩ := quote_end t
      exact ⟨q, 34, by rw [hq]; simp [tailQ], rfl⟩
    | h1 r u _ =>
      obtain ⟨q, hq⟩ := quote_end u
      exact ⟨quoteT t ++ tailQ r ++ [32, 44, 9] ++ q, 34, by simp [tailQ, hq], rfl⟩
  · exact ⟨quoteT t ++ tailQ r ++ [32], 120, by simp, rfl⟩
theorem trim_quote (t : Tg) (r : List Tg) (e : List UInt8) (he : endE e) : trimT (quoteT t ++ tailQ r ++ e) = quoteT t ++ tailQ r ++ e := by
  obtain ⟨m, d, hm, hd⟩ := end_nb t r e he
  obtain ⟨c, q, hq, hc, _, _⟩ := quote_head t
  rw [hq, List.cons_append, List.cons_append] at hm ⊢
  exact trimT_both c _ m d hm hc hd
theorem tail_parse (e : List UInt8) (he : endE e) : ∀ (r : List Tg) (acc : List Tg), r.all (fun t => t.2.all okq) = true → tagsG (trimT (tailQ r ++ e)) false acc = tagsG (trimT e) false (acc ++ r)
  | [], acc, _ => by rw [List.append_nil]; rfl
  | t :: r, acc, h => by
    rw [List.all_cons, Bool.and_eq_true] at h
    have e1 : tailQ (t :: r) ++ e = 32 :: 44 :: 9 :: (quoteT t ++ tailQ r ++ e) := by simp [tailQ]
    obtain ⟨m, d, hm, hd⟩ := end_nb t r e he
    obtain ⟨c, q, hq, hc, _, _⟩ := quote_head t
    have e2 : trimT (32 :: 44 :: 9 :: (quoteT t ++ tailQ r ++ e)) = 44 :: 9 :: (quoteT t ++ tailQ r ++ e) := by
      unfold trimT
      rw [hm, show 32 :: 44 :: 9 :: (m ++ [d]) = (32 :: 44 :: 9 :: m) ++ [d] from rfl, trimR_end _ d hd]
      rfl
    have e3 : trimT (9 :: (quoteT t ++ tailQ r ++ e)) = quoteT t ++ tailQ r ++ e := by
      unfold trimT
      rw [hm, show 9 :: (m ++ [d]) = (9 :: m) ++ [d] from rfl, trimR_end _ d hd, List.cons_append, trimL, if_pos (show isBl 9 = true from rfl), ← hm, hq, List.cons_append, List.cons_append, trimL, if_neg (by rw [hc]; simp)]
    rw [e1, e2, G_sep, e3, List.append_assoc, G_tag t _ acc h.1, tail_parse e he r _ h.2, List.append_assoc]
    rfl
theorem tags_join (t : Tg) (r : List Tg) (e : List UInt8) (he : endE e) (h : (t :: r).all (fun t => t.2.all okq) = true) : tagsT (joinQ (t :: r) ++ e) = tagsG (trimT e) false (t :: r) := by
  rw [List.all_cons, Bool.and_eq_true] at h
  unfold tagsT
  rw [show joinQ (t :: r) ++ e = quoteT t ++ tailQ r ++ e from rfl, trim_quote t r e he]
  obtain ⟨c, q, hq, _, _, h42⟩ := quote_head t
  rw [if_neg (by
    rw [hq, List.cons_append, List.cons_append]
    intro e
    exact h42 (List.cons.inj e).1)]
  show tagsG (quoteT t ++ tailQ r ++ e) true [] = _
  rw [List.append_assoc, G_tag t _ [] h.1, tail_parse e he r _ h.2]
  rfl
theorem tags_right (t : Tg) (r : List Tg) (h : (t :: r).all (fun t => t.2.all okq) = true) : tagsT (joinQ (t :: r)) = (t :: r, false, true) := by
  have := tags_join t r [] (.inl rfl) h
  rw [List.append_nil] at this
  rw [this]
  show tagsG [] false (t :: r) = _
  rw [G_nil, decide_eq_true (by simp)]
theorem tags_more (t : Tg) (r : List Tg) (h : (t :: r).all (fun t => t.2.all okq) = true) : (tagsT (joinQ (t :: r) ++ [32, 120])).2.2 = false := by
  rw [tags_join t r _ (.inr rfl) h]
  rfl
theorem tags_a : tagsT [34, 97, 34] = ([(false, [97])], false, true) := by decide
/-! ### The law -/
def totQ (l : List Tg) : Prop := l.length ≤ 20
theorem join_len (l : List Tg) (h : ∀ t ∈ l, t.2.length ≤ 100) : (joinQ l).length ≤ 107 * l.length := by
  have key : ∀ r : List Tg, (∀ t ∈ r, t.2.length ≤ 100) → (tailQ r).length ≤ 107 * r.length := by
    intro r
    induction r with
    | nil => intro _; simp [tailQ]
    | cons t r ih =>
      intro h
      have h1 := ih fun u hu => h u (by simp [hu])
      have h2 := quote_len t
      have h3 := h t (by simp)
      have e : tailQ (t :: r) = ([32, 44, 9] ++ quoteT t) ++ tailQ r := rfl
      rw [e]; simp at h1 ⊢; omega
  cases l with
  | nil => simp [joinQ]
  | cons t r =>
    have h1 := key r fun u hu => h u (by simp [hu])
    have h2 := quote_len t
    have h3 := h t (by simp)
    rw [joinQ]; simp; omega
theorem text_loop (l : List Tg) (s : List UInt8) (i : Nat) (hi : i < l.length) (hl : l.length ≤ 20) (hs : s.length ≤ 10000) (ht : (l.getD i default).2.length ≤ 100) (r : Bool)
    (hnext : ∀ right', Ev (fun n => iteB (decide ((0 : Int) < (i : Int))) (grd (s.length + 3 ≤ 9223372036854775807) (F3_J4 n l right' (i : Int) (s ++ ([32, 44, 9] : List UInt8)))) (F3_J4 n l right' (i : Int) s)) true → True) :
    ∀ (d k : Nat) (right : Bool), k + d = (l.getD i default).2.length →
      Ev (fun n => iteB (decide ((0 : Int) < (i : Int))) (grd (s.length + 3 ≤ 9223372036854775807) (F3_J4 n l (right && ((l.getD i default).2.drop k).all okq) (i : Int) (s ++ ([32, 44, 9] : List UInt8)))) (F3_J4 n l (right && ((l.getD i default).2.drop k).all okq) (i : Int) s)) true →
      Ev (fun n => F3_L3 n l s (i : Int) right (k : Int)) true := by
  generalize hx : (l.getD i default).2 = x at ht
  intro d
  induction d with
  | zero =>
    intro k right hk hn
    rw [List.drop_of_length_le (by omega), List.all_nil, Bool.and_true] at hn
    refine Ev.step (hn.congr fun n => ?_)
    rw [F3_L3, toNat_nat, hx, decide_eq_false (by omega), iteB_f]
  | succ d ih =>
    intro k right hk hn
    have hd : x.drop k = x.getD k 0 :: x.drop (k + 1) := drop_cons x k 0 (by omega)
    rw [hd, List.all_cons] at hn
    have hok : okq (x.getD k 0) = ((bt x k != 34) && (decide (33 ≤ bt x k) && (bt x k != 127))) := by
      have h34 : (x.getD k 0 == 34) = (bt x k == 34) := (u8_lit (x.getD k 0) 34 (by omega)).symm
      unfold okq tgB
      rw [h34]
      show (!(bt x k == 34) && !(decide (bt x k < 33) || (bt x k == 127))) = _
      rw [Bool.not_or]
      congr 2
      by_cases h : bt x k < 33
      · rw [decide_eq_true h, decide_eq_false (by omega)]; rfl
      · rw [decide_eq_false h, decide_eq_true (by omega)]; rfl
    have hgr : 0 ≤ (k : Int) ∧ (k : Int) < (x.length : Int) := by omega
    rw [← Bool.and_assoc] at hn
    refine Ev.step ((ih (k + 1) (right && okq (x.getD k 0)) (by omega) hn).congr fun n => ?_)
    rw [F3_L3, toNat_nat, hx, decide_eq_true (by omega), iteB_t, g64 k (by omega), toNat_nat]
    simp only [grd_t _ hgr]
    rw [hok]
    show iteB right (iteB (bt x k != 34) (iteB (decide (33 ≤ bt x k)) (F3_L3 n l s (i : Int) (bt x k != 127) _) _) _) _ = _
    cases right with
    | false => rfl
    | true =>
      rw [iteB_t, Bool.true_and]
      cases (bt x k != 34) with
      | false => rfl
      | true =>
        rw [iteB_t, Bool.true_and]
        cases (decide (33 ≤ bt x k)) with
        | false => rfl
        | true => rw [iteB_t, Bool.true_and]
theorem eq_loop (l : List Tg) (s : List UInt8) (hl : l.length ≤ 20) (hs : s.length ≤ 10000) (hm : (tagsT (s ++ [32, 120])).2.2 = false) : ∀ (d i : Nat), i + d = l.length → Ev (fun n => F3_L5 n l s (l, false, true) (i : Int)) true := by
  intro d
  induction d with
  | zero =>
    intro i hi
    obtain ⟨⟨N, e⟩, _⟩ := ev_Tags (s ++ [32, 120]) (by simp; omega)
    refine Ev.step ⟨N, fun n hn => ?_⟩
    have q := e n hn
    dsimp only at q
    show F3_L5 (n + 1) l s (l, false, true) (i : Int) = _
    rw [F3_L5, decide_eq_false (by omega), iteB_f, grd_t _ (by omega), q, bind_some', hm]
    rfl
  | succ d ih =>
    intro i hi
    refine Ev.step ((ih (i + 1) (by omega)).congr fun n => ?_)
    rw [F3_L5, decide_eq_true (by omega), iteB_t, grd_t _ (by dsimp only; omega), grd_t _ (by omega), beq_self_eq_true, beq_self_eq_true, Bool.and_self, Bool.not_true, iteB_f, g64 i (by omega)]
theorem quotes_loop (l : List Tg) (hl : l.length ≤ 20) : ∀ (d i : Nat), i + d = l.length → (∀ t ∈ l.take i, t.2.length ≤ 100) → Ev (fun n => F3_L2 n l (joinQ (l.take i)) ((l.take i).all fun t => t.2.all okq) (i : Int)) true := by
  intro d
  induction d with
  | zero =>
    intro i hi h100
    rw [List.take_of_length_le (by omega)] at h100 ⊢
    have hjl := join_len l h100
    obtain ⟨⟨N1, e1⟩, _⟩ := ev_Tags (joinQ l) (by omega)
    obtain ⟨⟨N2, e2⟩, _⟩ := ev_Tags [34, 97, 34] (by decide)
    cases hr : l.all fun t => t.2.all okq with
    | false =>
      refine Ev.step ⟨N1 + N2, fun n hn => ?_⟩
      have q1 := e1 n (by omega)
      have q2 := e2 n (by omega)
      dsimp only at q1 q2
      show F3_L2 (n + 1) l (joinQ l) false (i : Int) = _
      rw [F3_L2, decide_eq_false (by omega), iteB_f, q1, bind_some', Bool.not_false, iteB_t, q2, bind_some', tags_a]
      cases l with
      | nil => cases hr
      | cons t r => rw [decide_eq_true (by simp), iteB_t]; rfl
    | true =>
      cases l with
      | nil =>
        refine Ev.step ⟨N1 + N2, fun n hn => ?_⟩
        have q1 := e1 n (by omega)
        have q2 := e2 n (by omega)
        dsimp only at q1 q2
        show F3_L2 (n + 1) [] (joinQ []) true (i : Int) = _
        rw [F3_L2, decide_eq_false (by omega), iteB_f, q1, bind_some', Bool.not_true, iteB_f, show ((([] : List Tg).length : Int) == 0) = true from rfl, iteB_t, q2, bind_some', tags_a]
        rfl
      | cons t r =>
        obtain ⟨N3, e3⟩ := eq_loop (t :: r) (joinQ (t :: r)) hl (by omega) (tags_more t r hr) (t :: r).length 0 (by omega)
        refine Ev.step ⟨N1 + N3, fun n hn => ?_⟩
        have q1 := e1 n (by omega)
        have q3 := e3 n (by omega)
        dsimp only at q1 q3
        show F3_L2 (n + 1) (t :: r) (joinQ (t :: r)) true (i : Int) = _
        rw [F3_L2, decide_eq_false (by omega), iteB_f, q1, bind_some', Bool.not_true, iteB_f, bq (show ¬ ((t :: r : List Tg).length : Int) = 0 by simp; omega), iteB_f, tags_right t r hr, Bool.not_true, iteB_f, iteB_f, show (((t :: r : List Tg).length : Int) != ((t :: r : List Tg).length : Int)) = false from bne_self_eq_false _, iteB_f]
        exact q3
  | succ d ih =>
    intro i hi h100
    have hjl := join_len (l.take i) h100
    have htl : (l.take i).length = i := by rw [List.length_take]; omega
    have hm : l.getD i default ∈ l := by
      rw [List.getD_eq_getElem?_getD, List.getElem?_eq_getElem (by omega)]; exact List.getElem_mem _
    have htk : l.take (i + 1) = l.take i ++ [l.getD i default] := by
      rw [List.take_add_one, List.getD_eq_getElem?_getD, List.getElem?_eq_getElem (by omega)]; rfl
    by_cases h1 : 100 < (l.getD i default).2.length
    · refine Ev.step (Ev.pure.congr fun n => ?_)
      rw [F3_L2, decide_eq_true (by omega), iteB_t, toNat_nat, grd_t _ (by omega), decide_eq_true (by omega), iteB_t]
    · have ih' := ih (i + 1) (by omega) (by
        rw [htk]; intro t ht
        rcases List.mem_append.1 ht with ht | ht
        · exact h100 t ht
        · rw [List.mem_singleton] at ht; subst ht; omega)
      rw [htk, List.all_append, List.all_cons, List.all_nil, Bool.and_true, join_snoc, htl] at ih'
      have hql := quote_len (l.getD i default)
      refine Ev.step (Ev.congr (g := fun n => F3_L3 n l (joinQ (l.take i)) (i : Int) ((l.take i).all fun t => t.2.all okq) ((0 : Nat) : Int)) (text_loop l (joinQ (l.take i)) i (by omega) hl (by omega) (by omega) true (fun _ _ => trivial) (l.getD i default).2.length 0 _ (by omega) ?_) fun n => ?_)
      · rw [List.drop_zero]
        refine ih'.congr fun n => ?_
        have hJ : ∀ (right : Bool) (y : List UInt8), y.length ≤ 10000 → F3_J4 n l right (i : Int) y = F3_L2 n l (y ++ quoteT (l.getD i default)) right ((i + 1 : Nat) : Int) := by
          intro right y hy
          rw [F3_J4, toNat_nat, grd_t _ (by omega), show F11 n ((l.getD i default).1, (l.getD i default).2) = some (quoteT (l.getD i default)) from Quote_eq n (l.getD i default) (by omega), bind_some', grd_t _ (by omega), g64 i (by omega)]
        by_cases h0 : i = 0
        · subst h0
          rw [if_pos rfl, decide_eq_false (by omega), iteB_f, hJ _ _ (by omega)]
          rfl
        · rw [if_neg h0, decide_eq_true (by omega), iteB_t, grd_t _ (by omega), hJ _ _ (by simp; omega)]
      · rw [F3_L2, decide_eq_true (by omega), iteB_t, toNat_nat, grd_t _ (by omega), decide_eq_false (by omega), iteB_f]
        rfl
theorem quotes_law (l : List Tg) : Ev (fun n => F3 n l) true := by
  have key : ∀ l : List Tg, l.length ≤ 20 → Ev (fun n => F3_J1 n l) true := fun l hl =>
    (quotes_loop l hl l.length 0 (by omega) (by simp)).congr fun n => rfl
  by_cases h : 20 < l.length
  · refine (key (l.take 20) (by rw [List.length_take]; omega)).congr fun n => ?_
    rw [F3, decide_eq_true (by omega), iteB_t, grd_t _ (by omega)]
  · refine (key l (by omega)).congr fun n => ?_
    rw [F3, decide_eq_false (by omega), iteB_f]
theorem law_main (v0 : List Tg) (h0 : okT22 v0) : ∃ n, F3 n v0 = some true := by
  obtain ⟨N, h⟩ := quotes_law v0
  exact ⟨N, h N (Nat.le_refl _)⟩
end Go.Proofs.YtbdkofondpalpaaDoorX

set_option linter.unusedVariables false
namespace Go.Proofs.YtbdkofondpalpaaDoorX
open Go Go.RowKit Go.Proofs
set_option maxRecDepth 100000
theorem shapedRow (xs : List T) (h : ShapesW Tryd.prog [22] xs) : FnC Tryd.prog 3 xs (tb true) := shapedHeaderQuotes law_main xs h
end Go.Proofs.YtbdkofondpalpaaDoorX
namespace Go.Proofs.YtbdkofondpalpaaDoor.headerQuotes
open Go.ChangeShapes Go.WideShapes Go.ChangeAt Go.RowKit
set_option linter.unusedVariables false
theorem own : ownKnob Tryd.prog.godebug = none := by kernel_rfl
set_option maxRecDepth 100000 in
theorem lifted (os : Os) (started : os.Started) (H : Type) (enc : TypeId × Value → H) :
    ReturnsInHanded {} Tryd.checked os 3 .any (fun w args => (Rows.headerQuotesSpec.pre enc Tryd.prog Tryd.f3 [] false w args ∧ laidMetH Tryd.prog Rows.headerQuotesRow.laid w) ∧ sizedMet enc Tryd.prog Tryd.f3 (OpenSpec.ofChange Rows.headerQuotesSpec) false w args) (Rows.headerQuotesSpec.post enc Tryd.prog Tryd.f3 false true false false) := by
  refine returnsInHanded_of_change_and (C := Tryd.checked) (X := fun w _ => laidMetH Tryd.prog Rows.headerQuotesRow.laid w) (fun _ _ _ hh h => h.of_heap hh) own started (by kernel_rfl) Tryd.func3
    (ChangeSpec.witness_shaped (enc := enc) (C := Tryd.checked) (os := os) (X := fun w _ => laidMetH Tryd.prog Rows.headerQuotesRow.laid w) false (World.laidAll Tryd.prog os Rows.headerQuotesRow.laid) #[.slice none 0 0] 8 (World.laidAll_os _ _ _)
      (World.shaped_of_ZipB (by kernel_rfl) (by kernel_rfl)) (by kernel_rfl) (by kernel_rfl) (by kernel_rfl)
      (by rw [MakeChecks.laidMetH_plain _ _ _ (by kernel_rfl)]; exact laidMet_laidAll _ (by kernel_rfl) (by kernel_rfl))) ?_
  intro W base args ds gs before hval0 hW _ _ hL _
  exact YtbdkofondpalpaaDoorX.row_contract (P := Tryd.prog) (fn := Tryd.f3) (s := Rows.headerQuotesSpec) (ts := [22]) (tb := 4) (L := [22, 24, 23, 4, 9]) (by kernel_rfl) (by kernel_rfl) (by kernel_rfl) (by kernel_rfl) (by kernel_rfl) (by kernel_rfl) rfl
    (fun H ds h => by
      match ds, h with
      | [d0], _ => rfl) YtbdkofondpalpaaDoorX.shapedRow W base args ds gs before hval0 hW
theorem over : Rows.headerQuotesRow.holds Tryd.pinned (OpenSpec.ofChange Rows.headerQuotesSpec) :=
  OpenClaim.holds_of_wide 3 Tryd.f3 rfl rfl rfl rfl rfl rfl rfl ⟨rfl, rfl, rfl, rfl, rfl⟩ rfl rfl rfl rfl rfl (by kernel_rfl) Tryd.func3 (by kernel_rfl)
    (of_decide_eq_true (by kernel_rfl)) (by unfold Func.isWrapper; first | (rw [if_pos (by decide +kernel)]; kernel_rfl) | (rw [if_neg (by decide +kernel)]; exact ⟨rfl, rfl⟩))
    (fun os started H enc _ => lifted os started H enc)
theorem proved : Rows.HeaderQuotesCardSaid :=
  Claim7.holds_tied_plain_at .later [] [.data, .pinned] true (true, "48a05177c2816304ae20193907aa78ea5bf3c06c577e3e3e520e080529c15cb6") false
    over (fun _ h => by cases h) (by kernel_rfl) (fun _ h => by cases h) headerQuotes_row_tie rfl ⟨rfl, rfl⟩ (by kernel_rfl) rfl
    (fun f fn hf hfn => by
      obtain rfl : f = 3 := Option.some.inj ((show Tryd.prog.funcNamed "shadowbox/shadowboxlaw30.HeaderQuotes" = some 3 by kernel_rfl).symm.trans hf) |>.symm
      obtain rfl : fn = Tryd.f3 := (Option.some.inj (Tryd.func3.symm.trans hfn)).symm
      exact ⟨by kernel_rfl, fun j t ht => by
        rw [Tryd.params3] at ht
        have hm : t ∈ [22] := by simpa using Array.mem_of_getElem? ht
        have hall : ([22].all fun u => !Tryd.prog.wantsStandIn u) = true := by kernel_rfl
        exact (show Tryd.prog.wantsStandIn t = false by simpa using List.all_eq_true.1 hall t hm)⟩)
    (by kernel_rfl)
#print axioms proved
end Go.Proofs.YtbdkofondpalpaaDoor.headerQuotes
namespace Go.Proofs.YtbdkofondpalpaaDoor
/-- The card, under a short name, for the claim. -/
theorem headerQuotes_holds : Rows.HeaderQuotesCardSaid := headerQuotes.proved
end Go.Proofs.YtbdkofondpalpaaDoor
