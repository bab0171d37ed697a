/- Part of the proof of ReplyBack: walks and plain words, merged. -/
import Derived.Test.YtdjgldjebcoihaaDoorBReplyBackb
import Derived.Laws.AppendOwn
import Derived.Shelf.Strings.Search2
import Derived.Shelf.Lays
import Derived.Shelf.Strings.SlTrimAscii
import Derived.Shelf.Strings.Fold
import Derived.WalkKit
import Derived.Deep.LoopGhost
import Derived.Lib.Walk
import Derived.Lib.SliceRun
import Derived.Lib.Builder
import Derived.Laws.Externs
import Derived.Lib.Strings
import Derived.BigRegion
import Derived.Lib.UnsafeStr
import Derived.Shelf.Bytes.SlIndexWhole
import Derived.Lib.IndexLaws
import Derived.Lib.Bytealg
import Derived.Shelf.Strings.Count
set_option linter.unusedVariables false
set_option linter.unusedSimpArgs false

set_option linter.unusedVariables false
set_option linter.unusedSimpArgs false
namespace Go.Proofs.YtdjgldjebcoihaaDoorX
open Go Go.RowKit Go.Proofs
set_option maxRecDepth 100000
attribute [local go_sem ↓] stepsK_build stepsK_bs appendS
attribute [local go_sem] String.reduceEq String.reduceNe reduceCtorEq Int.reduceEq Nat.reduceAdd Nat.reduceSub Nat.reduceMul Nat.reduceLT Nat.reduceLeDiff Nat.reduceEqDiff Nat.reduceBEq Int.reduceToNat Int.reduceLT Int.reduceLE Int.reduceGT Int.reduceGE Int.reduceAdd Int.reduceSub Int.reduceMul Int.reduceNeg Int.reduceBEq Int.reduceBNe Int.reducePow Int.reduceDiv Int.reduceMod Int.reduceTDiv Int.reduceTMod Int.reduceNatCast
/-! ### shadowboxlaw43.own -/
def F6_S1 (a0 : (Int) × (List ((List UInt8) × (List UInt8))) × (List (Int))) (x1 : Int) (x2 : Int) (x3 : List ((List UInt8) × (List UInt8))) : St := ⟨[.junk, .ref 0 0 0 0, .ref 1 0 0 0, .junk, .ref 2 0 0 0, .imm (.int .i64 x1), .imm (.int .i64 x2), .junk, .junk, .junk, .junk, .junk, .junk, .junk, .junk, .junk, .junk, .junk, .junk, .junk, .junk, .junk, .junk, .junk, .junk, .junk, .junk, .junk, .junk, .junk, .junk, .junk, .junk, .junk, .junk, .junk, .junk, .junk, .junk, .junk, .junk, .junk, .junk, .junk, .junk, .junk, .junk, .junk, .junk, .junk, .junk, .junk, .junk, .junk, .junk, .junk, .junk, .junk, .junk, .junk], [some (.box 25 (.agg [.imm (.int .i64 a0.1), .sl 2 false (List.map eT41 a0.2.1), .sl 1 false (List.map byteT a0.2.2)]) false), some (.box 28 (.agg [.imm (.int .i64 (0 : Int)), .sl 0 true [], .sl 0 true []]) false), some (.box 28 (.agg [.imm (.int .i64 a0.1), .rsl 3 2 0 x3.length, .sl 1 false (List.map byteT a0.2.2)]) false), some (.buf 43 2 (List.map eT41 x3) 0)]⟩
def F6_L1 : Nat → ((Int) × (List ((List UInt8) × (List UInt8))) × (List (Int))) → (Int) → (Int) → (List ((List UInt8) × (List UInt8))) → Option (((Int) × (List ((List UInt8) × (List UInt8))) × (List (Int))) × (Bool))
 | 0, _, _, _, _ => none
 | m1 + 1, a0, x1, x2, x3 => iteB (decide (x2 < (a0.2.1.length : Int))) (iteB (decide (x1 < (3000 : Int))) (grd (0 ≤ x2 ∧ x2 < (a0.2.1.length : Int)) (grd (0 ≤ x2 ∧ x2 < (a0.2.1.length : Int)) (grd (0 ≤ x2 ∧ x2 < (a0.2.1.length : Int)) (grd ((x3.length + 1) ≤ 549755813888) (F6_L1 m1 a0 (IntKind.wrap .i64 ((IntKind.wrap .i64 ((IntKind.wrap .i64 (x1 + (10 : Int))) + (if (3000 : Int) < (((a0.2.1.getD x2.toNat default).1).length : Int) then (3000 : Int) else (((a0.2.1.getD x2.toNat default).1).length : Int)))) + (if (3000 : Int) < (((a0.2.1.getD x2.toNat default).2).length : Int) then (3000 : Int) else (((a0.2.1.getD x2.toNat default).2).length : Int)))) (IntKind.wrap .i64 (x2 + (1 : Int))) (x3 ++ [((a0.2.1.getD x2.toNat default).1, (a0.2.1.getD x2.toNat default).2)])))))) (some ((a0.1, x3, a0.2.2), (decide (x1 < (3000 : Int)))))) (some ((a0.1, x3, a0.2.2), (decide (x1 < (3000 : Int)))))
def F6 (n : Nat) (a0 : (Int) × (List ((List UInt8) × (List UInt8))) × (List (Int))) : Option (((Int) × (List ((List UInt8) × (List UInt8))) × (List (Int))) × (Bool)) := F6_L1 n a0 (if (3000 : Int) < (a0.2.2.length : Int) then (3000 : Int) else (a0.2.2.length : Int)) (0 : Int) []
set_option maxHeartbeats 4000000 in
theorem F6_ok : ∀ (n : Nat) (a0 : (Int) × (List ((List UInt8) × (List UInt8))) × (List (Int))) (r : ((Int) × (List ((List UInt8) × (List UInt8))) × (List (Int))) × (Bool)), F6 n a0 = some r → FnC Tryd.prog 6 [.agg [.imm (.int .i64 a0.1), .sl 2 false (List.map eT41 a0.2.1), .sl 1 false (List.map byteT a0.2.2)]] (.tup [.agg [.imm (.int .i64 r.1.1), .sl 2 false (List.map eT41 r.1.2.1), .sl 1 false (List.map byteT r.1.2.2)], .imm (.bool r.2)])
 | n, a0, r, h => by
  unfold F6 at h
  refine FnC.goX mixed Tryd.func6 (by kernel_rfl) rfl ?_
  simp only [Tryd.ntmps6, List.length_cons, List.length_nil, List.replicate, List.cons_append, List.nil_append, Nat.reduceAdd, Nat.reduceSub]
  refine runX_seq ?_
  refine runX_regionC fun C hC => ?_
  try simp -implicitDefEqProofs (maxSteps := 4000000) (disch := first | omega | decide | (simp only [go_sem]; omega)) only [go_sem, ↓reduceIte]
  repeat (with_reducible refine And.intro (by first | assumption | omega | (simp; done) | (simp; omega)) ?_)
  refine toEnd hC ?_
  refine endX_seq ?_
  refine runX_seq ?_
  refine runX_regionC fun C hC => ?_
  try simp -implicitDefEqProofs (maxSteps := 4000000) (disch := first | omega | decide | (simp only [go_sem]; omega)) only [go_sem, ↓reduceIte]
  repeat (with_reducible refine And.intro (by first | assumption | omega | (simp; done) | (simp; omega)) ?_)
  refine bldG_of [.imm (.int .i64 a0.1), .sl 0 true [], .sl 1 false (List.map byteT a0.2.2)] (by kernel_rfl) ?_
  try simp -implicitDefEqProofs (maxSteps := 4000000) (disch := first | omega | decide | (simp only [go_sem]; omega)) only [go_sem, ↓reduceIte]
  repeat (with_reducible refine And.intro (by first | assumption | omega | (simp; done) | (simp; omega)) ?_)
  refine toEnd hC ?_
  refine endX_seq ?_
  refine runX_seq ?_
  refine runX_regionC fun C hC => ?_
  try simp -implicitDefEqProofs (maxSteps := 4000000) (disch := first | omega | decide | (simp only [go_sem]; omega)) only [go_sem, ↓reduceIte]
  repeat (with_reducible refine And.intro (by first | assumption | omega | (simp; done) | (simp; omega)) ?_)
  refine toEnd hC ?_
  refine endX_seq ?_
  refine runX_seq ?_
  refine runX_seq ?_
  refine runX_regionC fun C hC => ?_
  try simp -implicitDefEqProofs (maxSteps := 4000000) (disch := first | omega | decide | (simp only [go_sem]; omega)) only [go_sem, ↓reduceIte]
  repeat (with_reducible refine And.intro (by first | assumption | omega | (simp; done) | (simp; omega)) ?_)
  refine toEnd hC ?_
  refine endX_seq ?_
  refine runX_block ?_
  refine runX_loop [1, 2, 4, 5, 6] (fun m S => ∃ (x1 : Int) (x2 : Int) (x3 : List ((List UInt8) × (List UInt8))), S = F6_S1 a0 x1 x2 x3 ∧ m ≤ n ∧ F6_L1 m a0 x1 x2 x3 = some r) n ⟨F6_S1 a0 (if (3000 : Int) < (a0.2.2.length : Int) then (3000 : Int) else (a0.2.2.length : Int)) (0 : Int) [], ?_, (if (3000 : Int) < (a0.2.2.length : Int) then (3000 : Int) else (a0.2.2.length : Int)), (0 : Int), [], rfl, Nat.le_refl _, h⟩ ?_
  ·(try simp -implicitDefEqProofs (maxSteps := 4000000) (disch := first | omega | decide | (simp only [go_sem]; omega)) only [go_sem, ↓reduceIte])
   simp only [F6_S1]
   refine leS_trans (leS_pad _ _ 1) ?_
   simp only [List.replicate, List.cons_append, List.nil_append]
   refine leS_virt 3 43 2 rfl ?_ ?_ rfl
   ·repeat (first | exact leL_refl _ | refine leL_cons (by first | exact leT_refl _ | exact leT_virt | exact leT_junk _ | exact leT_sl | exact leT_sln | exact leT_nil | (refine leT_agg (by repeat (first | exact leL_refl _ | refine leL_cons (by first | exact leT_refl _ | exact leT_sl | exact leT_sln | exact leT_nil) ?_)))) ?_)
   ·repeat (first | exact leOs_refl _ | refine leOs.cons (by first | exact leO.same _ | (refine leO.box (leT_agg (by repeat (first | exact leL_refl _ | refine leL_cons (by first | exact leT_refl _ | exact leT_virt | exact leT_junk _ | exact leT_sl | exact leT_sln | exact leT_nil | (refine leT_agg (by repeat (first | exact leL_refl _ | refine leL_cons (by first | exact leT_refl _ | exact leT_sl | exact leT_sln | exact leT_nil) ?_)))) ?_))) rfl) | (refine leO.box (by first | exact leT_virt | exact leT_sl | exact leT_sln) rfl)) ?_)
  ·clear h
   rintro m1 S ⟨x1, x2, x3, rfl, hm1, h⟩
   cases m1 with
   | zero => first | cases (show (none : Option _) = some _ from h) | (rw [F6_L1] at h; cases h)
   | succ m1 =>
    rw [F6_L1] at h
    simp only [F6_S1]
    refine runX_seq ?_
    refine runX_seq ?_
    refine runX_regionC fun C hC => ?_
    try simp -implicitDefEqProofs (maxSteps := 4000000) (disch := first | omega | decide | (simp only [go_sem]; omega)) only [go_sem, ↓reduceIte]
    repeat (with_reducible refine And.intro (by first | assumption | omega | (simp; done) | (simp; omega)) ?_)
    rcases iteB_some h with ⟨c4, h⟩ | ⟨c4, h⟩
    ·refine guardK_T c4 ?_
     try simp -implicitDefEqProofs (maxSteps := 4000000) (disch := first | omega | decide | (simp only [go_sem]; omega)) only [go_sem, ↓reduceIte]
     repeat (with_reducible refine And.intro (by first | assumption | omega | (simp; done) | (simp; omega)) ?_)
     refine toEnd hC ?_
     refine endX_seq ?_
     rcases iteB_some h with ⟨c5, h⟩ | ⟨c5, h⟩
     ·refine runX_condT rfl c5 ?_
      refine runX_skip ?_
      refine endX_seq ?_
      refine runX_seq ?_
      refine runX_block ?_
      refine runX_seq ?_
      refine runX_drawC mixed (by kernel_rfl) fun C hC => ?_
      obtain ⟨g6, h⟩ := grd_some h
      obtain ⟨g7, h⟩ := grd_some h
      try simp -implicitDefEqProofs (maxSteps := 4000000) (disch := first | omega | decide | (simp only [go_sem]; omega)) only [go_sem, ↓reduceIte]
      repeat (with_reducible refine And.intro (by first | assumption | omega | (simp; done) | (simp; omega)) ?_)
      refine toEnd hC ?_
      refine endX_seq ?_
      refine runX_drawC mixed (by kernel_rfl) fun C hC => ?_
      obtain ⟨g8, h⟩ := grd_some h
      try simp -implicitDefEqProofs (maxSteps := 4000000) (disch := first | omega | decide | (simp only [go_sem]; omega)) only [go_sem, ↓reduceIte]
      repeat (with_reducible refine And.intro (by first | assumption | omega | (simp; done) | (simp; omega)) ?_)
      refine buildX_val ?_
      obtain ⟨g9, h⟩ := grd_some h
      try simp -implicitDefEqProofs (maxSteps := 4000000) (disch := first | omega | decide | (simp only [go_sem]; omega)) only [go_sem, ↓reduceIte]
      repeat (with_reducible refine And.intro (by first | assumption | omega | (simp; done) | (simp; omega)) ?_)
      refine toEnd hC ?_
      refine endX_blk ?_
      refine endX_seq ?_
      refine runX_regionC fun C hC => ?_
      try simp -implicitDefEqProofs (maxSteps := 4000000) (disch := first | omega | decide | (simp only [go_sem]; omega)) only [go_sem, ↓reduceIte]
      repeat (with_reducible refine And.intro (by first | assumption | omega | (simp; done) | (simp; omega)) ?_)
      refine toEnd hC ?_
      refine endX_q (roundQ_normal ⟨m1, by omega, F6_S1 a0 (IntKind.wrap .i64 ((IntKind.wrap .i64 ((IntKind.wrap .i64 (x1 + (10 : Int))) + (if (3000 : Int) < (((a0.2.1.getD x2.toNat default).1).length : Int) then (3000 : Int) else (((a0.2.1.getD x2.toNat default).1).length : Int)))) + (if (3000 : Int) < (((a0.2.1.getD x2.toNat default).2).length : Int) then (3000 : Int) else (((a0.2.1.getD x2.toNat default).2).length : Int)))) (IntKind.wrap .i64 (x2 + (1 : Int))) (x3 ++ [((a0.2.1.getD x2.toNat default).1, (a0.2.1.getD x2.toNat default).2)]), ?_, (IntKind.wrap .i64 ((IntKind.wrap .i64 ((IntKind.wrap .i64 (x1 + (10 : Int))) + (if (3000 : Int) < (((a0.2.1.getD x2.toNat default).1).length : Int) then (3000 : Int) else (((a0.2.1.getD x2.toNat default).1).length : Int)))) + (if (3000 : Int) < (((a0.2.1.getD x2.toNat default).2).length : Int) then (3000 : Int) else (((a0.2.1.getD x2.toNat default).2).length : Int)))), (IntKind.wrap .i64 (x2 + (1 : Int))), (x3 ++ [((a0.2.1.getD x2.toNat default).1, (a0.2.1.getD x2.toNat default).2)]), rfl, by omega, h⟩)
      simp only [F6_S1]
      (try simp -implicitDefEqProofs (maxSteps := 4000000) (disch := first | omega | decide | (simp only [go_sem]; omega)) only [go_sem, ↓reduceIte])
      first | exact leS_refl _ | (refine leS_le ?_ ?_ <;> first | exact leL_refl _ | exact leOs_refl _ | (simp only [List.append_assoc, List.cons_append, List.nil_append]; exact leOs_refl _) | (refine leOs.cons (by first | exact leO.same _ | (refine leO.box (leT_agg (by repeat (first | exact leL_refl _ | refine leL_cons (by first | exact leT_refl _ | exact leT_virt | exact leT_junk _ | exact leT_sl | exact leT_sln | exact leT_nil | (refine leT_agg (by repeat (first | exact leL_refl _ | refine leL_cons (by first | exact leT_refl _ | exact leT_sl | exact leT_sln | exact leT_nil) ?_)))) ?_))) rfl) | (refine leO.box (by first | exact leT_virt | exact leT_sl | exact leT_sln) rfl)) ?_; repeat (first | exact leOs_refl _ | refine leOs.cons (by first | exact leO.same _ | (refine leO.box (leT_agg (by repeat (first | exact leL_refl _ | refine leL_cons (by first | exact leT_refl _ | exact leT_virt | exact leT_junk _ | exact leT_sl | exact leT_sln | exact leT_nil | (refine leT_agg (by repeat (first | exact leL_refl _ | refine leL_cons (by first | exact leT_refl _ | exact leT_sl | exact leT_sln | exact leT_nil) ?_)))) ?_))) rfl) | (refine leO.box (by first | exact leT_virt | exact leT_sl | exact leT_sln) rfl)) ?_)) | (repeat (first | exact leL_refl _ | refine leL_cons (by first | exact leT_refl _ | exact leT_virt | exact leT_junk _ | exact leT_sl | exact leT_sln | exact leT_nil | (refine leT_agg (by repeat (first | exact leL_refl _ | refine leL_cons (by first | exact leT_refl _ | exact leT_sl | exact leT_sln | exact leT_nil) ?_)))) ?_)))
     ·refine runX_condF rfl c5 ?_
      refine runX_exit ?_
      refine endX_seqE ?_
      refine endX_q (roundQ_exit ?_)
      refine endX_blkE ?_
      refine endX_seq ?_
      refine runX_seq ?_
      refine runX_regionC fun C hC => ?_
      try simp -implicitDefEqProofs (maxSteps := 4000000) (disch := first | omega | decide | (simp only [go_sem]; omega)) only [go_sem, ↓reduceIte]
      repeat (with_reducible refine And.intro (by first | assumption | omega | (simp; done) | (simp; omega)) ?_)
      refine toEnd hC ?_
      refine endX_seq ?_
      refine runX_ret ?_
      refine endX_q ?_
      obtain rfl := Option.some.inj h
      show RetW _ _ _ _ _
      simp only [RetW]
      (try simp -implicitDefEqProofs (maxSteps := 4000000) (disch := first | omega | decide | (simp only [go_sem]; omega)) only [go_sem, ↓reduceIte])
      (try simp (disch := omega) only [if_pos, Nat.sub_zero])
      exact leT_refl _
    ·refine guardK_F c4 ?_
     try simp -implicitDefEqProofs (maxSteps := 4000000) (disch := first | omega | decide | (simp only [go_sem]; omega)) only [go_sem, ↓reduceIte]
     repeat (with_reducible refine And.intro (by first | assumption | omega | (simp; done) | (simp; omega)) ?_)
     refine toEnd hC ?_
     refine endX_seq ?_
     refine runX_condF rfl rfl ?_
     refine runX_exit ?_
     refine endX_seqE ?_
     refine endX_q (roundQ_exit ?_)
     refine endX_blkE ?_
     refine endX_seq ?_
     refine runX_seq ?_
     refine runX_regionC fun C hC => ?_
     try simp -implicitDefEqProofs (maxSteps := 4000000) (disch := first | omega | decide | (simp only [go_sem]; omega)) only [go_sem, ↓reduceIte]
     repeat (with_reducible refine And.intro (by first | assumption | omega | (simp; done) | (simp; omega)) ?_)
     refine toEnd hC ?_
     refine endX_seq ?_
     refine runX_ret ?_
     refine endX_q ?_
     obtain rfl := Option.some.inj h
     show RetW _ _ _ _ _
     simp only [RetW]
     (try simp -implicitDefEqProofs (maxSteps := 4000000) (disch := first | omega | decide | (simp only [go_sem]; omega)) only [go_sem, ↓reduceIte])
     (try simp (disch := omega) only [if_pos, Nat.sub_zero])
     exact leT_refl _
end Go.Proofs.YtdjgldjebcoihaaDoorX

/- A row that is there, of nothing, and functions that hand out a row of their own. Of no program. -/
set_option linter.unusedVariables false
set_option linter.unusedSimpArgs false
namespace Go.Proofs.YtdjgldjebcoihaaDoorX
open Go Go.RowKit
theorem Sat.addRow {B : Base} {S : St} {a : Act} {w : World} {μ : Nat → Option Nat} (hS : Sat B S a w μ) (t : TypeId) (sz : Nat) : Sat B ⟨S.tmps, S.objs ++ [some (.buf t sz [] 0)]⟩ a w (fun o => if o = S.objs.length then none else μ o) := by
  have get_old : ∀ o, o < S.objs.length → (S.objs ++ [some (Own.buf t sz [] 0)])[o]? = S.objs[o]? := fun o ho => List.getElem?_append_left ho
  have get_new : ∀ o x, (S.objs ++ [some (Own.buf t sz [] 0)])[o]? = some (some x) → (o < S.objs.length ∧ S.objs[o]? = some (some x)) ∨ (o = S.objs.length ∧ x = .buf t sz [] 0) := by
    intro o x h
    by_cases ho : o < S.objs.length
    · exact .inl ⟨ho, (get_old o ho) ▸ h⟩
    · have hl := (List.getElem?_eq_some_iff.1 h).1
      have e : o = S.objs.length := by simp at hl; omega
      subst e
      rw [List.getElem?_append_right (Nat.le_refl _), Nat.sub_self] at h
      simp at h
      exact .inr ⟨rfl, h.symm⟩
  have hst : Step [] ⟨w, μ, S.objs, B.ban⟩ ⟨w, (fun o => if o = S.objs.length then none else μ o), S.objs ++ [some (.buf t sz [] 0)], B.ban⟩ := by
    refine ⟨⟨fun b j v ⟨h1, h2, h3⟩ => ⟨h1, fun lk ⟨o, y, k1, k2, k3⟩ => ?_, h3⟩, fun b c t fr hb => ⟨c, fr, hb, rfl⟩⟩, fun o ⟨x, hx⟩ _ => ⟨x, ?_⟩, fun o ⟨x, hx⟩ _ => ?_⟩
    · rcases get_new o y k1 with ⟨ho, hx⟩ | ⟨rfl, rfl⟩
      · have k2 : (if o = S.objs.length then none else μ o) = some b := k2
        rw [if_neg (by omega)] at k2
        exact h2 lk ⟨o, y, hx, k2, k3⟩
      · have k2 : (if S.objs.length = S.objs.length then none else μ S.objs.length) = some b := k2
        rw [if_pos rfl] at k2; cases k2
    · have hx : S.objs[o]? = some (some x) := hx
      show (S.objs ++ _)[o]? = _
      rw [get_old o (List.getElem?_eq_some_iff.1 hx).1, hx]
    · have hx : S.objs[o]? = some (some x) := hx
      have := (List.getElem?_eq_some_iff.1 hx).1
      show (if o = S.objs.length then none else μ o) = μ o
      rw [if_neg (by omega)]
  refine ⟨RepL.step hst hS.tmps, hS.defers, ⟨fun o y hy => ?_, fun o o' y y' b h1 h2 hd hd' hb hb' => ?_⟩, fun o y b h1 hd hb => ?_, hS.kept⟩
  · rcases get_new o y hy with ⟨ho, hx⟩ | ⟨rfl, rfl⟩
    · have hm : (if o = S.objs.length then none else μ o) = μ o := if_neg (by omega)
      have := hS.objs.at_ o y hx
      cases y with
      | box t x lk =>
        obtain ⟨b, fr, u, h1, h2, h3, h4, h5, h6⟩ := this
        exact ⟨b, fr, u, hm.trans h1, h2, h3, Rep.step hst h4, h5, h6⟩
      | buf t sz l lk =>
        obtain ⟨h0, h1⟩ := this
        exact ⟨h0, h1.imp (fun h => ⟨hm.trans h.1, h.2⟩) fun ⟨b, c, fr, c1, c2, h1, h2, h3, h4, h5⟩ => ⟨b, c, fr, c1, c2, hm.trans h1, h2, h3, h4, RepR.stepC hst.toStepC _ _ _ h5⟩⟩
      | dead => trivial
    · exact ⟨Nat.le_refl _, .inl ⟨if_pos rfl, rfl⟩⟩
  · have hb : (if o = S.objs.length then none else μ o) = some b := hb
    have hb' : (if o' = S.objs.length then none else μ o') = some b := hb'
    rcases get_new o y h1 with ⟨ho, hx⟩ | ⟨rfl, rfl⟩
    · rcases get_new o' y' h2 with ⟨ho', hx'⟩ | ⟨rfl, rfl⟩
      · rw [if_neg (by omega)] at hb hb'
        exact hS.objs.inj o o' y y' b hx hx' hd hd' hb hb'
      · rw [if_pos rfl] at hb'; cases hb'
    · rw [if_pos rfl] at hb; cases hb
  · have hb : (if o = S.objs.length then none else μ o) = some b := hb
    rcases get_new o y h1 with ⟨ho, hx⟩ | ⟨rfl, rfl⟩
    · rw [if_neg (by omega)] at hb
      exact hS.fresh o y b hx hd hb
    · rw [if_pos rfl] at hb; cases hb
theorem runX_add {P : Program} {Q : Exit → St → Prop} {c : Code} {ts : List T} {os : List (Option Own)} {k : Kn} (t : TypeId) (sz : Nat) (h : runX P Q c ⟨ts, os ++ [some (.buf t sz [] 0)]⟩ k) : runX P Q c ⟨ts, os⟩ k :=
  fun B a w μ hS => h B a w _ (hS.addRow t sz)
theorem FnR.fresh {P : Program} {f : FuncId} {t : TypeId} {sz : Nat} {args : List T} {l : List T} (hf : enters P f) (hz : refsCL args = [])
    (h : ∀ (E : Env) (vs : Array Value), RepL E false args vs.toList → Calls P f vs E.w fun e w' => ∃ v' xs, e = .returned v' ∧ w'.ownsRow E.w.heap.size t sz v' l.length xs ∧ Below E.w.heap.size E.w w' ∧ RepR E sz l xs) :
    FnR P f [some (.buf t sz [] 0)] args (.rsl 0 sz 0 l.length) [some (.buf t sz l 0)] := by
  refine ⟨hf, rfl, rfl, by rw [hz]; rfl, fun B μ vs hO hOwn hv => ?_⟩
  refine (h ⟨B.w, μ, [some (.buf t sz [] 0)], B.ban⟩ vs hv).mono fun e w' ⟨v', xs, he, hown, hb, hr⟩ => ?_
  have hb : Below B.w.heap.size B.w w' := hb
  have hk : Kept B w' := ⟨hb.os, hb.tape, hb.output, hb.size, fun k h1 _ => hb.block k h1,
    fun k lk h1 j _ => cell_of_block (hb.block k (B.lt k lk h1)), fun k lk h1 c t fr hc => ⟨c, fr, (hb.block k (B.lt k lk h1)).trans hc, rfl⟩⟩
  obtain ⟨hxl, hown⟩ := hown
  rcases hown with ⟨rfl, hn⟩ | ⟨g, cap, cur, rfl, hg, hheap, hcap, _, hcs, hct⟩
  · have hl : l = [] := List.length_eq_zero_iff.1 hn
    subst hl
    refine ⟨_, fun _ => none, he, ⟨fun o x hx => ?_, fun o o' x x' b _ _ _ _ h1 _ => by cases h1⟩, ?_, hk, fun o x b _ _ h1 => by cases h1⟩
    · have hx : ([some (Own.buf t sz [] 0)] : List (Option Own))[o]? = some (some x) := hx
      cases o with
      | zero => simp at hx; subst hx; exact ⟨Nat.le_refl _, .inl ⟨rfl, rfl⟩⟩
      | succ o => simp at hx
    · simp only [Rep]
      exact ⟨trivial, ⟨_, rfl⟩, .inl ⟨trivial, rfl, trivial, ⟨⟨none, fun x h => by cases h⟩, rfl⟩⟩⟩
  · have hst : StepC ⟨B.w, μ, [some (.buf t sz [] 0)], B.ban⟩ ⟨w', fun o => if o = 0 then some g else none, [some (.buf t sz l 0)], B.ban⟩ := by
      refine ⟨fun b j v ⟨h1, h2, h3⟩ => ⟨(cell_of_block (hb.block b (cell_lt h1))).trans h1, fun lk ⟨o, y, k1, k2, k3⟩ => ?_, h3⟩, fun b c t fr hc => ⟨c, fr, (hb.block b (Array.getElem?_eq_some_iff.1 hc).1).trans hc, rfl⟩⟩
      have hlt := cell_lt h1
      have k2 : (if o = 0 then some g else none) = some b := k2
      split at k2
      · injection k2 with k2
        have : B.w.heap.size ≤ b := k2 ▸ hg
        have hlt : b < B.w.heap.size := hlt
        omega
      · cases k2
    refine ⟨_, fun o => if o = 0 then some g else none, he, ⟨fun o x hx => ?_, fun o o' x x' b h1 h2 _ _ _ _ => ?_⟩, ?_, hk, fun o x b h1 _ h2 => ?_⟩
    · have hx : ([some (Own.buf t sz l 0)] : List (Option Own))[o]? = some (some x) := hx
      cases o with
      | zero =>
        simp at hx; subst hx
        refine ⟨Nat.zero_le _, .inr ⟨g, cur, (0, 0), xs, cur.toList.drop (l.length * sz), rfl, hheap, .inl rfl, ?_, RepR.stepC hst _ _ _ hr⟩⟩
        rw [← hct]; exact (List.take_append_drop _ _).symm
      | succ o => simp at hx
    · have h1 : ([some (Own.buf t sz l 0)] : List (Option Own))[o]? = some (some x) := h1
      have h2 : ([some (Own.buf t sz l 0)] : List (Option Own))[o']? = some (some x') := h2
      have := (List.getElem?_eq_some_iff.1 h1).1
      have := (List.getElem?_eq_some_iff.1 h2).1
      simp at *
      omega
    · simp only [Rep]
      exact ⟨trivial, ⟨_, rfl⟩, .inr ⟨g, 0, cap, cur, t, (0, 0), rfl, rfl, hcap, .inr (by omega), hheap, by rw [Nat.zero_add, hcs]; exact Nat.le_refl _⟩⟩
    · have h2 : (if o = 0 then some g else none) = some b := h2
      split at h2
      · injection h2 with h2; exact .inl (h2 ▸ hg)
      · cases h2
end Go.Proofs.YtdjgldjebcoihaaDoorX

set_option linter.unusedVariables false
set_option linter.unusedSimpArgs false
namespace Go.Proofs.YtdjgldjebcoihaaDoorX
open Go Go.RowKit Go.Proofs
set_option maxRecDepth 100000
attribute [local go_sem ↓] stepsK_build stepsK_bs appendS
attribute [local go_sem] String.reduceEq String.reduceNe reduceCtorEq Int.reduceEq Nat.reduceAdd Nat.reduceSub Nat.reduceMul Nat.reduceLT Nat.reduceLeDiff Nat.reduceEqDiff Nat.reduceBEq Int.reduceToNat Int.reduceLT Int.reduceLE Int.reduceGT Int.reduceGE Int.reduceAdd Int.reduceSub Int.reduceMul Int.reduceNeg Int.reduceBEq Int.reduceBNe Int.reducePow Int.reduceDiv Int.reduceMod Int.reduceTDiv Int.reduceTMod Int.reduceNatCast
/-! ### reply.Reason -/
def F9 (n : Nat) (a0 : Int) : Option (List UInt8) := iteB (a0 == (200 : Int)) (some ([79, 75] : List UInt8)) (iteB (a0 == (204 : Int)) (some ([78, 111, 32, 67, 111, 110, 116, 101, 110, 116] : List UInt8)) (iteB (a0 == (206 : Int)) (some ([80, 97, 114, 116, 105, 97, 108, 32, 67, 111, 110, 116, 101, 110, 116] : List UInt8)) (iteB (a0 == (304 : Int)) (some ([78, 111, 116, 32, 77, 111, 100, 105, 102, 105, 101, 100] : List UInt8)) (iteB (a0 == (400 : Int)) (some ([66, 97, 100, 32, 82, 101, 113, 117, 101, 115, 116] : List UInt8)) (iteB (a0 == (403 : Int)) (some ([70, 111, 114, 98, 105, 100, 100, 101, 110] : List UInt8)) (iteB (a0 == (404 : Int)) (some ([78, 111, 116, 32, 70, 111, 117, 110, 100] : List UInt8)) (iteB (a0 == (405 : Int)) (some ([77, 101, 116, 104, 111, 100, 32, 78, 111, 116, 32, 65, 108, 108, 111, 119, 101, 100] : List UInt8)) (iteB (a0 == (409 : Int)) (some ([67, 111, 110, 102, 108, 105, 99, 116] : List UInt8)) (iteB (a0 == (412 : Int)) (some ([80, 114, 101, 99, 111, 110, 100, 105, 116, 105, 111, 110, 32, 70, 97, 105, 108, 101, 100] : List UInt8)) (iteB (a0 == (413 : Int)) (some ([67, 111, 110, 116, 101, 110, 116, 32, 84, 111, 111, 32, 76, 97, 114, 103, 101] : List UInt8)) (iteB (a0 == (416 : Int)) (some ([82, 97, 110, 103, 101, 32, 78, 111, 116, 32, 83, 97, 116, 105, 115, 102, 105, 97, 98, 108, 101] : List UInt8)) (iteB (a0 == (431 : Int)) (some (82 :: 101 :: 113 :: 117 :: 101 :: 115 :: 116 :: 32 :: 72 :: 101 :: 97 :: 100 :: 101 :: 114 :: 32 :: 70 :: 105 :: 101 :: 108 :: 100 :: 115 :: 32 :: 84 :: 111 :: 111 :: 32 :: 76 :: 97 :: 114 :: 103 :: 101 :: ([] : List UInt8))) (iteB (a0 == (500 : Int)) (some ([73, 110, 116, 101, 114, 110, 97, 108, 32, 83, 101, 114, 118, 101, 114, 32, 69, 114, 114, 111, 114] : List UInt8)) (iteB (a0 == (501 : Int)) (some ([78, 111, 116, 32, 73, 109, 112, 108, 101, 109, 101, 110, 116, 101, 100] : List UInt8)) (iteB (a0 == (507 : Int)) (some ([73, 110, 115, 117, 102, 102, 105, 99, 105, 101, 110, 116, 32, 83, 116, 111, 114, 97, 103, 101] : List UInt8)) (some []))))))))))))))))
set_option maxHeartbeats 4000000 in
theorem F9_ok : ∀ (n : Nat) (a0 : Int) (r : List UInt8), F9 n a0 = some r → FnC Tryd.prog 9 [.imm (.int .i64 a0)] (.imm (.string (bs r)))
 | n, a0, r, h => by
  unfold F9 at h
  refine FnC.goX mixed Tryd.func9 (by kernel_rfl) rfl ?_
  simp only [Tryd.ntmps9, List.length_cons, List.length_nil, List.replicate, List.cons_append, List.nil_append, Nat.reduceAdd, Nat.reduceSub]
  refine runX_seq ?_
  refine runX_regionC fun C hC => ?_
  try simp -implicitDefEqProofs (maxSteps := 4000000) (disch := first | omega | decide | (simp only [go_sem]; omega)) only [go_sem, ↓reduceIte]
  repeat (with_reducible refine And.intro (by first | assumption | omega | (simp; done) | (simp; omega)) ?_)
  refine toEnd hC ?_
  refine endX_seq ?_
  refine runX_seq ?_
  refine runX_seq ?_
  refine runX_regionC fun C hC => ?_
  try simp -implicitDefEqProofs (maxSteps := 4000000) (disch := first | omega | decide | (simp only [go_sem]; omega)) only [go_sem, ↓reduceIte]
  repeat (with_reducible refine And.intro (by first | assumption | omega | (simp; done) | (simp; omega)) ?_)
  refine toEnd hC ?_
  refine endX_seq ?_
  refine runX_block ?_
  refine runX_seq ?_
  refine runX_regionC fun C hC => ?_
  try simp -implicitDefEqProofs (maxSteps := 4000000) (disch := first | omega | decide | (simp only [go_sem]; omega)) only [go_sem, ↓reduceIte]
  repeat (with_reducible refine And.intro (by first | assumption | omega | (simp; done) | (simp; omega)) ?_)
  refine toEnd hC ?_
  refine endX_seq ?_
  rcases iteB_some h with ⟨c1, h⟩ | ⟨c1, h⟩
  ·refine runX_condT rfl c1 ?_
   refine runX_seq ?_
   refine runX_regionC fun C hC => ?_
   try simp -implicitDefEqProofs (maxSteps := 4000000) (disch := first | omega | decide | (simp only [go_sem]; omega)) only [go_sem, ↓reduceIte]
   repeat (with_reducible refine And.intro (by first | assumption | omega | (simp; done) | (simp; omega)) ?_)
   refine toEnd hC ?_
   refine endX_seq ?_
   refine runX_ret ?_
   refine endX_blkR ?_
   refine endX_seqR ?_
   refine endX_q ?_
   obtain rfl := Option.some.inj h
   show RetW _ _ _ _ _
   simp only [RetW]
   (try simp -implicitDefEqProofs (maxSteps := 4000000) (disch := first | omega | decide | (simp only [go_sem]; omega)) only [go_sem, ↓reduceIte])
   (try simp (disch := omega) only [if_pos, Nat.sub_zero])
   exact leT_refl _
  ·refine runX_condF rfl c1 ?_
   refine runX_seq ?_
   refine runX_regionC fun C hC => ?_
   try simp -implicitDefEqProofs (maxSteps := 4000000) (disch := first | omega | decide | (simp only [go_sem]; omega)) only [go_sem, ↓reduceIte]
   repeat (with_reducible refine And.intro (by first | assumption | omega | (simp; done) | (simp; omega)) ?_)
   refine toEnd hC ?_
   refine endX_seq ?_
   rcases iteB_some h with ⟨c2, h⟩ | ⟨c2, h⟩
   ·refine runX_condT rfl c2 ?_
    refine runX_seq ?_
    refine runX_regionC fun C hC => ?_
    try simp -implicitDefEqProofs (maxSteps := 4000000) (disch := first | omega | decide | (simp only [go_sem]; omega)) only [go_sem, ↓reduceIte]
    repeat (with_reducible refine And.intro (by first | assumption | omega | (simp; done) | (simp; omega)) ?_)
    refine toEnd hC ?_
    refine endX_seq ?_
    refine runX_ret ?_
    refine endX_blkR ?_
    refine endX_seqR ?_
    refine endX_q ?_
    obtain rfl := Option.some.inj h
    show RetW _ _ _ _ _
    simp only [RetW]
    (try simp -implicitDefEqProofs (maxSteps := 4000000) (disch := first | omega | decide | (simp only [go_sem]; omega)) only [go_sem, ↓reduceIte])
    (try simp (disch := omega) only [if_pos, Nat.sub_zero])
    exact leT_refl _
   ·refine runX_condF rfl c2 ?_
    refine runX_seq ?_
    refine runX_regionC fun C hC => ?_
    try simp -implicitDefEqProofs (maxSteps := 4000000) (disch := first | omega | decide | (simp only [go_sem]; omega)) only [go_sem, ↓reduceIte]
    repeat (with_reducible refine And.intro (by first | assumption | omega | (simp; done) | (simp; omega)) ?_)
    refine toEnd hC ?_
    refine endX_seq ?_
    rcases iteB_some h with ⟨c3, h⟩ | ⟨c3, h⟩
    ·refine runX_condT rfl c3 ?_
     refine runX_seq ?_
     refine runX_regionC fun C hC => ?_
     try simp -implicitDefEqProofs (maxSteps := 4000000) (disch := first | omega | decide | (simp only [go_sem]; omega)) only [go_sem, ↓reduceIte]
     repeat (with_reducible refine And.intro (by first | assumption | omega | (simp; done) | (simp; omega)) ?_)
     refine toEnd hC ?_
     refine endX_seq ?_
     refine runX_ret ?_
     refine endX_blkR ?_
     refine endX_seqR ?_
     refine endX_q ?_
     obtain rfl := Option.some.inj h
     show RetW _ _ _ _ _
     simp only [RetW]
     (try simp -implicitDefEqProofs (maxSteps := 4000000) (disch := first | omega | decide | (simp only [go_sem]; omega)) only [go_sem, ↓reduceIte])
     (try simp (disch := omega) only [if_pos, Nat.sub_zero])
     exact leT_refl _
    ·refine runX_condF rfl c3 ?_
     refine runX_seq ?_
     refine runX_regionC fun C hC => ?_
     try simp -implicitDefEqProofs (maxSteps := 4000000) (disch := first | omega | decide | (simp only [go_sem]; omega)) only [go_sem, ↓reduceIte]
     repeat (with_reducible refine And.intro (by first | assumption | omega | (simp; done) | (simp; omega)) ?_)
     refine toEnd hC ?_
     refine endX_seq ?_
     rcases iteB_some h with ⟨c4, h⟩ | ⟨c4, h⟩
     ·refine runX_condT rfl c4 ?_
      refine runX_seq ?_
      refine runX_regionC fun C hC => ?_
      try simp -implicitDefEqProofs (maxSteps := 4000000) (disch := first | omega | decide | (simp only [go_sem]; omega)) only [go_sem, ↓reduceIte]
      repeat (with_reducible refine And.intro (by first | assumption | omega | (simp; done) | (simp; omega)) ?_)
      refine toEnd hC ?_
      refine endX_seq ?_
      refine runX_ret ?_
      refine endX_blkR ?_
      refine endX_seqR ?_
      refine endX_q ?_
      obtain rfl := Option.some.inj h
      show RetW _ _ _ _ _
      simp only [RetW]
      (try simp -implicitDefEqProofs (maxSteps := 4000000) (disch := first | omega | decide | (simp only [go_sem]; omega)) only [go_sem, ↓reduceIte])
      (try simp (disch := omega) only [if_pos, Nat.sub_zero])
      exact leT_refl _
     ·refine runX_condF rfl c4 ?_
      refine runX_seq ?_
      refine runX_regionC fun C hC => ?_
      try simp -implicitDefEqProofs (maxSteps := 4000000) (disch := first | omega | decide | (simp only [go_sem]; omega)) only [go_sem, ↓reduceIte]
      repeat (with_reducible refine And.intro (by first | assumption | omega | (simp; done) | (simp; omega)) ?_)
      refine toEnd hC ?_
      refine endX_seq ?_
      rcases iteB_some h with ⟨c5, h⟩ | ⟨c5, h⟩
      ·refine runX_condT rfl c5 ?_
       refine runX_seq ?_
       refine runX_regionC fun C hC => ?_
       try simp -implicitDefEqProofs (maxSteps := 4000000) (disch := first | omega | decide | (simp only [go_sem]; omega)) only [go_sem, ↓reduceIte]
       repeat (with_reducible refine And.intro (by first | assumption | omega | (simp; done) | (simp; omega)) ?_)
       refine toEnd hC ?_
       refine endX_seq ?_
       refine runX_ret ?_
       refine endX_blkR ?_
       refine endX_seqR ?_
       refine endX_q ?_
       obtain rfl := Option.some.inj h
       show RetW _ _ _ _ _
       simp only [RetW]
       (try simp -implicitDefEqProofs (maxSteps := 4000000) (disch := first | omega | decide | (simp only [go_sem]; omega)) only [go_sem, ↓reduceIte])
       (try simp (disch := omega) only [if_pos, Nat.sub_zero])
       exact leT_refl _
      ·refine runX_condF rfl c5 ?_
       refine runX_seq ?_
       refine runX_regionC fun C hC => ?_
       try simp -implicitDefEqProofs (maxSteps := 4000000) (disch := first | omega | decide | (simp only [go_sem]; omega)) only [go_sem, ↓reduceIte]
       repeat (with_reducible refine And.intro (by first | assumption | omega | (simp; done) | (simp; omega)) ?_)
       refine toEnd hC ?_
       refine endX_seq ?_
       rcases iteB_some h with ⟨c6, h⟩ | ⟨c6, h⟩
       ·refine runX_condT rfl c6 ?_
        refine runX_seq ?_
        refine runX_regionC fun C hC => ?_
        try simp -implicitDefEqProofs (maxSteps := 4000000) (disch := first | omega | decide | (simp only [go_sem]; omega)) only [go_sem, ↓reduceIte]
        repeat (with_reducible refine And.intro (by first | assumption | omega | (simp; done) | (simp; omega)) ?_)
        refine toEnd hC ?_
        refine endX_seq ?_
        refine runX_ret ?_
        refine endX_blkR ?_
        refine endX_seqR ?_
        refine endX_q ?_
        obtain rfl := Option.some.inj h
        show RetW _ _ _ _ _
        simp only [RetW]
        (try simp -implicitDefEqProofs (maxSteps := 4000000) (disch := first | omega | decide | (simp only [go_sem]; omega)) only [go_sem, ↓reduceIte])
        (try simp (disch := omega) only [if_pos, Nat.sub_zero])
        exact leT_refl _
       ·refine runX_condF rfl c6 ?_
        refine runX_seq ?_
        refine runX_regionC fun C hC => ?_
        try simp -implicitDefEqProofs (maxSteps := 4000000) (disch := first | omega | decide | (simp only [go_sem]; omega)) only [go_sem, ↓reduceIte]
        repeat (with_reducible refine And.intro (by first | assumption | omega | (simp; done) | (simp; omega)) ?_)
        refine toEnd hC ?_
        refine endX_seq ?_
        rcases iteB_some h with ⟨c7, h⟩ | ⟨c7, h⟩
        ·refine runX_condT rfl c7 ?_
         refine runX_seq ?_
         refine runX_regionC fun C hC => ?_
         try simp -implicitDefEqProofs (maxSteps := 4000000) (disch := first | omega | decide | (simp only [go_sem]; omega)) only [go_sem, ↓reduceIte]
         repeat (with_reducible refine And.intro (by first | assumption | omega | (simp; done) | (simp; omega)) ?_)
         refine toEnd hC ?_
         refine endX_seq ?_
         refine runX_ret ?_
         refine endX_blkR ?_
         refine endX_seqR ?_
         refine endX_q ?_
         obtain rfl := Option.some.inj h
         show RetW _ _ _ _ _
         simp only [RetW]
         (try simp -implicitDefEqProofs (maxSteps := 4000000) (disch := first | omega | decide | (simp only [go_sem]; omega)) only [go_sem, ↓reduceIte])
         (try simp (disch := omega) only [if_pos, Nat.sub_zero])
         exact leT_refl _
        ·refine runX_condF rfl c7 ?_
         refine runX_seq ?_
         refine runX_regionC fun C hC => ?_
         try simp -implicitDefEqProofs (maxSteps := 4000000) (disch := first | omega | decide | (simp only [go_sem]; omega)) only [go_sem, ↓reduceIte]
         repeat (with_reducible refine And.intro (by first | assumption | omega | (simp; done) | (simp; omega)) ?_)
         refine toEnd hC ?_
         refine endX_seq ?_
         rcases iteB_some h with ⟨c8, h⟩ | ⟨c8, h⟩
         ·refine runX_condT rfl c8 ?_
          refine runX_seq ?_
          refine runX_regionC fun C hC => ?_
          try simp -implicitDefEqProofs (maxSteps := 4000000) (disch := first | omega | decide | (simp only [go_sem]; omega)) only [go_sem, ↓reduceIte]
          repeat (with_reducible refine And.intro (by first | assumption | omega | (simp; done) | (simp; omega)) ?_)
          refine toEnd hC ?_
          refine endX_seq ?_
          refine runX_ret ?_
          refine endX_blkR ?_
          refine endX_seqR ?_
          refine endX_q ?_
          obtain rfl := Option.some.inj h
          show RetW _ _ _ _ _
          simp only [RetW]
          (try simp -implicitDefEqProofs (maxSteps := 4000000) (disch := first | omega | decide | (simp only [go_sem]; omega)) only [go_sem, ↓reduceIte])
          (try simp (disch := omega) only [if_pos, Nat.sub_zero])
          exact leT_refl _
         ·refine runX_condF rfl c8 ?_
          refine runX_seq ?_
          refine runX_regionC fun C hC => ?_
          try simp -implicitDefEqProofs (maxSteps := 4000000) (disch := first | omega | decide | (simp only [go_sem]; omega)) only [go_sem, ↓reduceIte]
          repeat (with_reducible refine And.intro (by first | assumption | omega | (simp; done) | (simp; omega)) ?_)
          refine toEnd hC ?_
          refine endX_seq ?_
          rcases iteB_some h with ⟨c9, h⟩ | ⟨c9, h⟩
          ·refine runX_condT rfl c9 ?_
           refine runX_seq ?_
           refine runX_regionC fun C hC => ?_
           try simp -implicitDefEqProofs (maxSteps := 4000000) (disch := first | omega | decide | (simp only [go_sem]; omega)) only [go_sem, ↓reduceIte]
           repeat (with_reducible refine And.intro (by first | assumption | omega | (simp; done) | (simp; omega)) ?_)
           refine toEnd hC ?_
           refine endX_seq ?_
           refine runX_ret ?_
           refine endX_blkR ?_
           refine endX_seqR ?_
           refine endX_q ?_
           obtain rfl := Option.some.inj h
           show RetW _ _ _ _ _
           simp only [RetW]
           (try simp -implicitDefEqProofs (maxSteps := 4000000) (disch := first | omega | decide | (simp only [go_sem]; omega)) only [go_sem, ↓reduceIte])
           (try simp (disch := omega) only [if_pos, Nat.sub_zero])
           exact leT_refl _
          ·refine runX_condF rfl c9 ?_
           refine runX_seq ?_
           refine runX_regionC fun C hC => ?_
           try simp -implicitDefEqProofs (maxSteps := 4000000) (disch := first | omega | decide | (simp only [go_sem]; omega)) only [go_sem, ↓reduceIte]
           repeat (with_reducible refine And.intro (by first | assumption | omega | (simp; done) | (simp; omega)) ?_)
           refine toEnd hC ?_
           refine endX_seq ?_
           rcases iteB_some h with ⟨c10, h⟩ | ⟨c10, h⟩
           ·refine runX_condT rfl c10 ?_
            refine runX_seq ?_
            refine runX_regionC fun C hC => ?_
            try simp -implicitDefEqProofs (maxSteps := 4000000) (disch := first | omega | decide | (simp only [go_sem]; omega)) only [go_sem, ↓reduceIte]
            repeat (with_reducible refine And.intro (by first | assumption | omega | (simp; done) | (simp; omega)) ?_)
            refine toEnd hC ?_
            refine endX_seq ?_
            refine runX_ret ?_
            refine endX_blkR ?_
            refine endX_seqR ?_
            refine endX_q ?_
            obtain rfl := Option.some.inj h
            show RetW _ _ _ _ _
            simp only [RetW]
            (try simp -implicitDefEqProofs (maxSteps := 4000000) (disch := first | omega | decide | (simp only [go_sem]; omega)) only [go_sem, ↓reduceIte])
            (try simp (disch := omega) only [if_pos, Nat.sub_zero])
            exact leT_refl _
           ·refine runX_condF rfl c10 ?_
            refine runX_seq ?_
            refine runX_regionC fun C hC => ?_
            try simp -implicitDefEqProofs (maxSteps := 4000000) (disch := first | omega | decide | (simp only [go_sem]; omega)) only [go_sem, ↓reduceIte]
            repeat (with_reducible refine And.intro (by first | assumption | omega | (simp; done) | (simp; omega)) ?_)
            refine toEnd hC ?_
            refine endX_seq ?_
            rcases iteB_some h with ⟨c11, h⟩ | ⟨c11, h⟩
            ·refine runX_condT rfl c11 ?_
             refine runX_seq ?_
             refine runX_regionC fun C hC => ?_
             try simp -implicitDefEqProofs (maxSteps := 4000000) (disch := first | omega | decide | (simp only [go_sem]; omega)) only [go_sem, ↓reduceIte]
             repeat (with_reducible refine And.intro (by first | assumption | omega | (simp; done) | (simp; omega)) ?_)
             refine toEnd hC ?_
             refine endX_seq ?_
             refine runX_ret ?_
             refine endX_blkR ?_
             refine endX_seqR ?_
             refine endX_q ?_
             obtain rfl := Option.some.inj h
             show RetW _ _ _ _ _
             simp only [RetW]
             (try simp -implicitDefEqProofs (maxSteps := 4000000) (disch := first | omega | decide | (simp only [go_sem]; omega)) only [go_sem, ↓reduceIte])
             (try simp (disch := omega) only [if_pos, Nat.sub_zero])
             exact leT_refl _
            ·refine runX_condF rfl c11 ?_
             refine runX_seq ?_
             refine runX_regionC fun C hC => ?_
             try simp -implicitDefEqProofs (maxSteps := 4000000) (disch := first | omega | decide | (simp only [go_sem]; omega)) only [go_sem, ↓reduceIte]
             repeat (with_reducible refine And.intro (by first | assumption | omega | (simp; done) | (simp; omega)) ?_)
             refine toEnd hC ?_
             refine endX_seq ?_
             rcases iteB_some h with ⟨c12, h⟩ | ⟨c12, h⟩
             ·refine runX_condT rfl c12 ?_
              refine runX_seq ?_
              refine runX_regionC fun C hC => ?_
              try simp -implicitDefEqProofs (maxSteps := 4000000) (disch := first | omega | decide | (simp only [go_sem]; omega)) only [go_sem, ↓reduceIte]
              repeat (with_reducible refine And.intro (by first | assumption | omega | (simp; done) | (simp; omega)) ?_)
              refine toEnd hC ?_
              refine endX_seq ?_
              refine runX_ret ?_
              refine endX_blkR ?_
              refine endX_seqR ?_
              refine endX_q ?_
              obtain rfl := Option.some.inj h
              show RetW _ _ _ _ _
              simp only [RetW]
              (try simp -implicitDefEqProofs (maxSteps := 4000000) (disch := first | omega | decide | (simp only [go_sem]; omega)) only [go_sem, ↓reduceIte])
              (try simp (disch := omega) only [if_pos, Nat.sub_zero])
              exact leT_refl _
             ·refine runX_condF rfl c12 ?_
              refine runX_seq ?_
              refine runX_regionC fun C hC => ?_
              try simp -implicitDefEqProofs (maxSteps := 4000000) (disch := first | omega | decide | (simp only [go_sem]; omega)) only [go_sem, ↓reduceIte]
              repeat (with_reducible refine And.intro (by first | assumption | omega | (simp; done) | (simp; omega)) ?_)
              refine toEnd hC ?_
              refine endX_seq ?_
              rcases iteB_some h with ⟨c13, h⟩ | ⟨c13, h⟩
              ·refine runX_condT rfl c13 ?_
               refine runX_seq ?_
               refine runX_regionC fun C hC => ?_
               try simp -implicitDefEqProofs (maxSteps := 4000000) (disch := first | omega | decide | (simp only [go_sem]; omega)) only [go_sem, ↓reduceIte]
               repeat (with_reducible refine And.intro (by first | assumption | omega | (simp; done) | (simp; omega)) ?_)
               refine toEnd hC ?_
               refine endX_seq ?_
               refine runX_ret ?_
               refine endX_blkR ?_
               refine endX_seqR ?_
               refine endX_q ?_
               obtain rfl := Option.some.inj h
               show RetW _ _ _ _ _
               simp only [RetW]
               (try simp -implicitDefEqProofs (maxSteps := 4000000) (disch := first | omega | decide | (simp only [go_sem]; omega)) only [go_sem, ↓reduceIte])
               (try simp (disch := omega) only [if_pos, Nat.sub_zero])
               exact leT_refl _
              ·refine runX_condF rfl c13 ?_
               refine runX_seq ?_
               refine runX_regionC fun C hC => ?_
               try simp -implicitDefEqProofs (maxSteps := 4000000) (disch := first | omega | decide | (simp only [go_sem]; omega)) only [go_sem, ↓reduceIte]
               repeat (with_reducible refine And.intro (by first | assumption | omega | (simp; done) | (simp; omega)) ?_)
               refine toEnd hC ?_
               refine endX_seq ?_
               rcases iteB_some h with ⟨c14, h⟩ | ⟨c14, h⟩
               ·refine runX_condT rfl c14 ?_
                refine runX_seq ?_
                refine runX_regionC fun C hC => ?_
                try simp -implicitDefEqProofs (maxSteps := 4000000) (disch := first | omega | decide | (simp only [go_sem]; omega)) only [go_sem, ↓reduceIte]
                repeat (with_reducible refine And.intro (by first | assumption | omega | (simp; done) | (simp; omega)) ?_)
                refine toEnd hC ?_
                refine endX_seq ?_
                refine runX_ret ?_
                refine endX_blkR ?_
                refine endX_seqR ?_
                refine endX_q ?_
                obtain rfl := Option.some.inj h
                show RetW _ _ _ _ _
                simp only [RetW]
                (try simp -implicitDefEqProofs (maxSteps := 4000000) (disch := first | omega | decide | (simp only [go_sem]; omega)) only [go_sem, ↓reduceIte])
                (try simp (disch := omega) only [if_pos, Nat.sub_zero])
                exact leT_refl _
               ·refine runX_condF rfl c14 ?_
                refine runX_seq ?_
                refine runX_regionC fun C hC => ?_
                try simp -implicitDefEqProofs (maxSteps := 4000000) (disch := first | omega | decide | (simp only [go_sem]; omega)) only [go_sem, ↓reduceIte]
                repeat (with_reducible refine And.intro (by first | assumption | omega | (simp; done) | (simp; omega)) ?_)
                refine toEnd hC ?_
                refine endX_seq ?_
                rcases iteB_some h with ⟨c15, h⟩ | ⟨c15, h⟩
                ·refine runX_condT rfl c15 ?_
                 refine runX_seq ?_
                 refine runX_regionC fun C hC => ?_
                 try simp -implicitDefEqProofs (maxSteps := 4000000) (disch := first | omega | decide | (simp only [go_sem]; omega)) only [go_sem, ↓reduceIte]
                 repeat (with_reducible refine And.intro (by first | assumption | omega | (simp; done) | (simp; omega)) ?_)
                 refine toEnd hC ?_
                 refine endX_seq ?_
                 refine runX_ret ?_
                 refine endX_blkR ?_
                 refine endX_seqR ?_
                 refine endX_q ?_
                 obtain rfl := Option.some.inj h
                 show RetW _ _ _ _ _
                 simp only [RetW]
                 (try simp -implicitDefEqProofs (maxSteps := 4000000) (disch := first | omega | decide | (simp only [go_sem]; omega)) only [go_sem, ↓reduceIte])
                 (try simp (disch := omega) only [if_pos, Nat.sub_zero])
                 exact leT_refl _
                ·refine runX_condF rfl c15 ?_
                 refine runX_seq ?_
                 refine runX_regionC fun C hC => ?_
                 try simp -implicitDefEqProofs (maxSteps := 4000000) (disch := first | omega | decide | (simp only [go_sem]; omega)) only [go_sem, ↓reduceIte]
                 repeat (with_reducible refine And.intro (by first | assumption | omega | (simp; done) | (simp; omega)) ?_)
                 refine toEnd hC ?_
                 refine endX_seq ?_
                 rcases iteB_some h with ⟨c16, h⟩ | ⟨c16, h⟩
                 ·refine runX_condT rfl c16 ?_
                  refine runX_seq ?_
                  refine runX_regionC fun C hC => ?_
                  try simp -implicitDefEqProofs (maxSteps := 4000000) (disch := first | omega | decide | (simp only [go_sem]; omega)) only [go_sem, ↓reduceIte]
                  repeat (with_reducible refine And.intro (by first | assumption | omega | (simp; done) | (simp; omega)) ?_)
                  refine toEnd hC ?_
                  refine endX_seq ?_
                  refine runX_ret ?_
                  refine endX_blkR ?_
                  refine endX_seqR ?_
                  refine endX_q ?_
                  obtain rfl := Option.some.inj h
                  show RetW _ _ _ _ _
                  simp only [RetW]
                  (try simp -implicitDefEqProofs (maxSteps := 4000000) (disch := first | omega | decide | (simp only [go_sem]; omega)) only [go_sem, ↓reduceIte])
                  (try simp (disch := omega) only [if_pos, Nat.sub_zero])
                  exact leT_refl _
                 ·refine runX_condF rfl c16 ?_
                  refine runX_skip ?_
                  refine endX_blk ?_
                  refine endX_seq ?_
                  refine runX_seq ?_
                  refine runX_regionC fun C hC => ?_
                  try simp -implicitDefEqProofs (maxSteps := 4000000) (disch := first | omega | decide | (simp only [go_sem]; omega)) only [go_sem, ↓reduceIte]
                  repeat (with_reducible refine And.intro (by first | assumption | omega | (simp; done) | (simp; omega)) ?_)
                  refine toEnd hC ?_
                  refine endX_seq ?_
                  refine runX_ret ?_
                  refine endX_q ?_
                  obtain rfl := Option.some.inj h
                  show RetW _ _ _ _ _
                  simp only [RetW]
                  (try simp -implicitDefEqProofs (maxSteps := 4000000) (disch := first | omega | decide | (simp only [go_sem]; omega)) only [go_sem, ↓reduceIte])
                  (try simp (disch := omega) only [if_pos, Nat.sub_zero])
                  exact leT_refl _
end Go.Proofs.YtdjgldjebcoihaaDoorX

set_option linter.unusedVariables false
set_option linter.unusedSimpArgs false
namespace Go.Proofs.YtdjgldjebcoihaaDoorX
open Go Go.RowKit Go.Proofs
set_option maxRecDepth 100000
/-! ### internal/stringslite.Index: by the shelf -/
open Go.Shelf
def Tryd.lay219_ren : Go.Shelf.Ren := ⟨fun | 219 => 78 | 217 => 85 | 225 => 86 | 224 => 39 | 267 => 87 | 266 => 90 | 314 => 91 | n => n, fun | 9 => 9 | 3 => 3 | 4 => 4 | 5 => 5 | 46 => 77 | 146 => 92 | 51 => 91 | n => n, fun | 1 => 0 | n => n⟩
theorem Tryd.lay219 : Go.Proofs.Lays.n219 Tryd.prog Tryd.lay219_ren := {
 mixed := by kernel_rfl,
 f217 := Tryd.func85.trans (congrArg some (by kernel_rfl)),
 f219 := Tryd.func78.trans (congrArg some (by kernel_rfl)),
 f224 := Tryd.func39.trans (congrArg some (by kernel_rfl)),
 f225 := Tryd.func86.trans (congrArg some (by kernel_rfl)),
 f266 := Tryd.func90.trans (congrArg some (by kernel_rfl)),
 f267 := Tryd.func87.trans (congrArg some (by kernel_rfl)),
 f314 := Tryd.func91.trans (congrArg some (by kernel_rfl)),
 t3 := Tryd.underlying3,
 a3 := Tryd.isAgg3,
 z3 := Tryd.sizeOf3,
 v3 := Tryd.zeroValue3,
 t4 := Tryd.underlying4,
 a4 := Tryd.isAgg4,
 z4 := Tryd.sizeOf4,
 v4 := Tryd.zeroValue4,
 t5 := Tryd.underlying5,
 a5 := Tryd.isAgg5,
 z5 := Tryd.sizeOf5,
 v5 := Tryd.zeroValue5,
 t9 := Tryd.underlying9,
 a9 := Tryd.isAgg9,
 z9 := Tryd.sizeOf9,
 v9 := Tryd.zeroValue9,
 t46 := Tryd.underlying77,
 a46 := Tryd.isAgg77,
 z46 := Tryd.sizeOf77,
 v46 := Tryd.zeroValue77,
 t51 := Tryd.underlying91,
 a51 := Tryd.isAgg91,
 z51 := Tryd.sizeOf91,
 v51 := Tryd.zeroValue91,
 t146 := Tryd.underlying92,
 a146 := Tryd.isAgg92,
 z146 := Tryd.sizeOf92,
 v146 := Tryd.zeroValue92,
 g1 := by kernel_rfl }
def F78 (n : Nat) (a0 : List UInt8) (a1 : List UInt8) : Option Int := match a1 with
 | [c] => some (Lib.indexByte a0 c)
 | _ => if a0.length < 4294967281 then some (Lib.index a0 a1) else none
theorem F78_ok (n : Nat) (a0 : List UInt8) (a1 : List UInt8) (r : Int) (h : F78 n a0 a1 = some r) : FnC Tryd.prog 78 [.imm (.string (bs a0)), .imm (.string (bs a1))] (.imm (.int .i64 r)) := by
 have hf : Tryd.lay219_ren.f 219 = 78 := by kernel_rfl
 refine ⟨⟨Tryd.f78, Tryd.func78, by kernel_rfl, rfl⟩, fun w ban vs hban hgi hv => ?_⟩
 obtain ⟨m, hm⟩ := hgi 0 (by decide)
 have e : vs = #[.string (bs a0), .string (bs a1)] := by
  obtain ⟨l⟩ := vs
  simp only [RepL, Rep] at hv
  obtain ⟨u, us, h1, h2, v, vs', h3, h4, h5⟩ := hv
  simp_all
 rw [e]
 unfold F78 at h
 split at h
 ·rename_i c
  obtain rfl := Option.some.inj h
  have hc := Any.stringslite_Index_one Tryd.lay219 (bs a0) c w
  rw [hf] at hc
  refine hc.mono ?_
  rintro e w' ⟨rfl, rfl⟩
  exact ⟨_, rfl, Below.refl _ _, by simp only [Rep]; exact ⟨rfl, rfl⟩⟩
 ·split at h
  case isFalse => cases h
  rename_i hh
  obtain rfl := Option.some.inj h
  have hc := Any.stringslite_Index Tryd.lay219 (bs a0) (bs a1) m w (by rw [bs_size]; exact hh) (by
   rw [show Tryd.lay219_ren.g 1 = 0 by kernel_rfl]; exact hm)
  rw [hf] at hc
  refine hc.mono ?_
  rintro e w' ⟨rfl, rfl⟩
  exact ⟨_, rfl, Below.refl _ _, by simp only [Rep]; exact ⟨rfl, rfl⟩⟩
end Go.Proofs.YtdjgldjebcoihaaDoorX

set_option linter.unusedVariables false
set_option linter.unusedSimpArgs false
namespace Go.Proofs.YtdjgldjebcoihaaDoorX
open Go Go.RowKit Go.Proofs
set_option maxRecDepth 100000
attribute [local go_sem ↓] stepsK_build stepsK_bs appendS
attribute [local go_sem] String.reduceEq String.reduceNe reduceCtorEq Int.reduceEq Nat.reduceAdd Nat.reduceSub Nat.reduceMul Nat.reduceLT Nat.reduceLeDiff Nat.reduceEqDiff Nat.reduceBEq Int.reduceToNat Int.reduceLT Int.reduceLE Int.reduceGT Int.reduceGE Int.reduceAdd Int.reduceSub Int.reduceMul Int.reduceNeg Int.reduceBEq Int.reduceBNe Int.reducePow Int.reduceDiv Int.reduceMod Int.reduceTDiv Int.reduceTMod Int.reduceNatCast
/-! ### internal/stringslite.Cut -/
def F59 (n : Nat) (a0 : List UInt8) (a1 : List UInt8) : Option ((List UInt8) × (List UInt8) × (Bool)) := (F78 n a0 a1).bind fun v1 => iteB (decide ((0 : Int) ≤ v1)) (grd (0 ≤ v1 ∧ v1 ≤ (a0.length : Int)) (grd (0 ≤ (IntKind.wrap .i64 (v1 + (a1.length : Int))) ∧ (IntKind.wrap .i64 (v1 + (a1.length : Int))) ≤ (a0.length : Int)) (some ((a0.take v1.toNat), (a0.drop (IntKind.wrap .i64 (v1 + (a1.length : Int))).toNat), true)))) (some (a0, [], false))
set_option maxHeartbeats 4000000 in
theorem F59_ok : ∀ (n : Nat) (a0 : List UInt8) (a1 : List UInt8) (r : (List UInt8) × (List UInt8) × (Bool)), F59 n a0 a1 = some r → FnC Tryd.prog 59 [.imm (.string (bs a0)), .imm (.string (bs a1))] (.tup [.imm (.string (bs r.1)), .imm (.string (bs r.2.1)), .imm (.bool r.2.2)])
 | n, a0, a1, r, h => by
  unfold F59 at h
  refine FnC.goX mixed Tryd.func59 (by kernel_rfl) rfl ?_
  simp only [Tryd.ntmps59, List.length_cons, List.length_nil, List.replicate, List.cons_append, List.nil_append, Nat.reduceAdd, Nat.reduceSub]
  refine runX_seq ?_
  refine runX_regionC fun C hC => ?_
  try simp -implicitDefEqProofs (maxSteps := 4000000) (disch := first | omega | decide | (simp only [go_sem]; omega)) only [go_sem, ↓reduceIte]
  repeat (with_reducible refine And.intro (by first | assumption | omega | (simp; done) | (simp; omega)) ?_)
  refine toEnd hC ?_
  refine endX_seq ?_
  refine runX_seq ?_
  refine runX_seq ?_
  refine runX_regionC fun C hC => ?_
  obtain ⟨v1, h1, h⟩ := bnd_some h
  try simp -implicitDefEqProofs (maxSteps := 4000000) (disch := first | omega | decide | (simp only [go_sem]; omega)) only [go_sem, ↓reduceIte]
  repeat (with_reducible refine And.intro (by first | assumption | omega | (simp; done) | (simp; omega)) ?_)
  refine callG_X (by first | rfl | (simp only [go_sem]; done) | (simp only [closedL, closedT, Bool.and_true]; exact closedL_map _ (fun _ => by first | rfl | (simp only [go_sem]; done)) _)) (F78_ok n a0 a1 _ h1) (by repeat (first | exact leL_refl _ | refine leL_cons (by first | exact leT_refl _ | exact leT_virt | exact leT_junk _ | exact leT_sl | exact leT_sln | exact leT_nil | (refine leT_agg (by repeat (first | exact leL_refl _ | refine leL_cons (by first | exact leT_refl _ | exact leT_sl | exact leT_sln | exact leT_nil) ?_)))) ?_)) ?_
  try simp -implicitDefEqProofs (maxSteps := 4000000) (disch := first | omega | decide | (simp only [go_sem]; omega)) only [go_sem, ↓reduceIte]
  repeat (with_reducible refine And.intro (by first | assumption | omega | (simp; done) | (simp; omega)) ?_)
  refine toEnd hC ?_
  refine endX_seq ?_
  refine runX_seq ?_
  refine runX_regionC fun C hC => ?_
  try simp -implicitDefEqProofs (maxSteps := 4000000) (disch := first | omega | decide | (simp only [go_sem]; omega)) only [go_sem, ↓reduceIte]
  repeat (with_reducible refine And.intro (by first | assumption | omega | (simp; done) | (simp; omega)) ?_)
  refine toEnd hC ?_
  refine endX_seq ?_
  rcases iteB_some h with ⟨c2, h⟩ | ⟨c2, h⟩
  ·refine runX_condT rfl c2 ?_
   refine runX_seq ?_
   refine runX_drawC mixed (by kernel_rfl) fun C hC => ?_
   obtain ⟨g3, h⟩ := grd_some h
   obtain ⟨g4, h⟩ := grd_some h
   try simp -implicitDefEqProofs (maxSteps := 4000000) (disch := first | omega | decide | (simp only [go_sem]; omega)) only [go_sem, ↓reduceIte]
   repeat (with_reducible refine And.intro (by first | assumption | omega | (simp; done) | (simp; omega)) ?_)
   refine toEnd hC ?_
   refine endX_seq ?_
   refine runX_ret ?_
   refine endX_seqR ?_
   refine endX_q ?_
   obtain rfl := Option.some.inj h
   show RetW _ _ _ _ _
   simp only [RetW]
   (try simp -implicitDefEqProofs (maxSteps := 4000000) (disch := first | omega | decide | (simp only [go_sem]; omega)) only [go_sem, ↓reduceIte])
   (try simp (disch := omega) only [if_pos, Nat.sub_zero])
   exact leT_refl _
  ·refine runX_condF rfl c2 ?_
   refine runX_skip ?_
   refine endX_seq ?_
   refine runX_seq ?_
   refine runX_regionC fun C hC => ?_
   try simp -implicitDefEqProofs (maxSteps := 4000000) (disch := first | omega | decide | (simp only [go_sem]; omega)) only [go_sem, ↓reduceIte]
   repeat (with_reducible refine And.intro (by first | assumption | omega | (simp; done) | (simp; omega)) ?_)
   refine toEnd hC ?_
   refine endX_seq ?_
   refine runX_ret ?_
   refine endX_q ?_
   obtain rfl := Option.some.inj h
   show RetW _ _ _ _ _
   simp only [RetW]
   (try simp -implicitDefEqProofs (maxSteps := 4000000) (disch := first | omega | decide | (simp only [go_sem]; omega)) only [go_sem, ↓reduceIte])
   (try simp (disch := omega) only [if_pos, Nat.sub_zero])
   exact leT_refl _
end Go.Proofs.YtdjgldjebcoihaaDoorX

set_option linter.unusedVariables false
set_option linter.unusedSimpArgs false
namespace Go.Proofs.YtdjgldjebcoihaaDoorX
open Go Go.RowKit Go.Proofs
set_option maxRecDepth 100000
attribute [local go_sem ↓] stepsK_build stepsK_bs appendS
attribute [local go_sem] String.reduceEq String.reduceNe reduceCtorEq Int.reduceEq Nat.reduceAdd Nat.reduceSub Nat.reduceMul Nat.reduceLT Nat.reduceLeDiff Nat.reduceEqDiff Nat.reduceBEq Int.reduceToNat Int.reduceLT Int.reduceLE Int.reduceGT Int.reduceGE Int.reduceAdd Int.reduceSub Int.reduceMul Int.reduceNeg Int.reduceBEq Int.reduceBNe Int.reducePow Int.reduceDiv Int.reduceMod Int.reduceTDiv Int.reduceTMod Int.reduceNatCast
/-! ### strings.Cut -/
def F44 (n : Nat) (a0 : List UInt8) (a1 : List UInt8) : Option ((List UInt8) × (List UInt8) × (Bool)) := (F59 n a0 a1).bind fun v1 => some (v1.1, v1.2.1, v1.2.2)
set_option maxHeartbeats 4000000 in
theorem F44_ok : ∀ (n : Nat) (a0 : List UInt8) (a1 : List UInt8) (r : (List UInt8) × (List UInt8) × (Bool)), F44 n a0 a1 = some r → FnC Tryd.prog 44 [.imm (.string (bs a0)), .imm (.string (bs a1))] (.tup [.imm (.string (bs r.1)), .imm (.string (bs r.2.1)), .imm (.bool r.2.2)])
 | n, a0, a1, r, h => by
  unfold F44 at h
  refine FnC.goX mixed Tryd.func44 (by kernel_rfl) rfl ?_
  simp only [Tryd.ntmps44, List.length_cons, List.length_nil, List.replicate, List.cons_append, List.nil_append, Nat.reduceAdd, Nat.reduceSub]
  refine runX_seq ?_
  refine runX_regionC fun C hC => ?_
  try simp -implicitDefEqProofs (maxSteps := 4000000) (disch := first | omega | decide | (simp only [go_sem]; omega)) only [go_sem, ↓reduceIte]
  repeat (with_reducible refine And.intro (by first | assumption | omega | (simp; done) | (simp; omega)) ?_)
  refine toEnd hC ?_
  refine endX_seq ?_
  refine runX_seq ?_
  refine runX_regionC fun C hC => ?_
  obtain ⟨v1, h1, h⟩ := bnd_some h
  try simp -implicitDefEqProofs (maxSteps := 4000000) (disch := first | omega | decide | (simp only [go_sem]; omega)) only [go_sem, ↓reduceIte]
  repeat (with_reducible refine And.intro (by first | assumption | omega | (simp; done) | (simp; omega)) ?_)
  refine callG_X (by first | rfl | (simp only [go_sem]; done) | (simp only [closedL, closedT, Bool.and_true]; exact closedL_map _ (fun _ => by first | rfl | (simp only [go_sem]; done)) _)) (F59_ok n a0 a1 _ h1) (by repeat (first | exact leL_refl _ | refine leL_cons (by first | exact leT_refl _ | exact leT_virt | exact leT_junk _ | exact leT_sl | exact leT_sln | exact leT_nil | (refine leT_agg (by repeat (first | exact leL_refl _ | refine leL_cons (by first | exact leT_refl _ | exact leT_sl | exact leT_sln | exact leT_nil) ?_)))) ?_)) ?_
  try simp -implicitDefEqProofs (maxSteps := 4000000) (disch := first | omega | decide | (simp only [go_sem]; omega)) only [go_sem, ↓reduceIte]
  repeat (with_reducible refine And.intro (by first | assumption | omega | (simp; done) | (simp; omega)) ?_)
  refine toEnd hC ?_
  refine endX_seq ?_
  refine runX_ret ?_
  refine endX_q ?_
  obtain rfl := Option.some.inj h
  show RetW _ _ _ _ _
  simp only [RetW]
  (try simp -implicitDefEqProofs (maxSteps := 4000000) (disch := first | omega | decide | (simp only [go_sem]; omega)) only [go_sem, ↓reduceIte])
  (try simp (disch := omega) only [if_pos, Nat.sub_zero])
  exact leT_refl _
end Go.Proofs.YtdjgldjebcoihaaDoorX

set_option linter.unusedVariables false
set_option linter.unusedSimpArgs false
namespace Go.Proofs.YtdjgldjebcoihaaDoorX
open Go Go.RowKit Go.Proofs
set_option maxRecDepth 100000
/-! ### hex.Kind: by hand (an inner function that sees the byte through a place of the caller's own) -/
def kindOf (c : Int) : Int := if 48 ≤ c ∧ c ≤ 57 then 1 else if 97 ≤ c ∧ c ≤ 102 then 2 else if 103 ≤ c ∧ c ≤ 122 then 3 else if 65 ≤ c ∧ c ≤ 90 then 4 else 0
def F58 (n : Nat) (a0 : Int) : Option Int := some (kindOf a0)
set_option maxHeartbeats 2000000 in
theorem kind_inside (a b c : Int) (p : Addr) (w : World) (hc : w.cell? p = some (.int .u8 c)) :
  Calls Tryd.prog 77 #[.int .u8 a, .int .u8 b, .pointer (some p)] w fun e w' => e = .returned (.bool (decide (a ≤ c ∧ c ≤ b))) ∧ w' = w := by
 by_cases h1 : a ≤ c
 ·have h1b : decide (a ≤ c) = true := decide_eq_true h1
  go_enter Tryd.func77, Tryd.ntmps77
  go_wp2
  go_ret
  exact ⟨by simp [h1], rfl⟩
 ·have h1b : decide (a ≤ c) = false := decide_eq_false h1
  go_enter Tryd.func77, Tryd.ntmps77
  go_wp2
  go_ret
  exact ⟨by simp [h1], rfl⟩
set_option maxHeartbeats 4000000 in
theorem kind_calls (a0 : Int) (w : World) :
  Calls Tryd.prog 58 #[.int .u8 a0] w fun e w' => e = .returned (.int .i64 (kindOf a0)) ∧ Below w.heap.size w w' := by
 have hmf : ∀ (fn : Fn) (first cap : Array Value) (w : World), (Instr.makeFunc fn first cap).run Tryd.prog w = .ok (.func fn first cap) w := fun _ _ _ _ => rfl
 go_enter Tryd.func58, Tryd.ntmps58
 go_wp2_with (go_at_call 77; refine (kind_inside _ _ a0 _ _ (by simp)).mono ?_; rintro e w' ⟨rfl, rfl⟩)
 all_goals (go_ret; exact ⟨by unfold kindOf; (repeat (first | rw [if_pos (by omega)] | rw [if_neg (by omega)])); rfl, (Below.refl _ _).alloc (Nat.le_refl _) _⟩)
theorem F58_ok (n : Nat) (a0 : Int) (r : Int) (h : F58 n a0 = some r) : FnC Tryd.prog 58 [.imm (.int .u8 a0)] (.imm (.int .i64 r)) := by
 obtain rfl := Option.some.inj h
 refine ⟨⟨Tryd.f58, Tryd.func58, by kernel_rfl, rfl⟩, fun w ban vs hban hgi hv => ?_⟩
 have e : vs = #[.int .u8 a0] := by
  obtain ⟨l⟩ := vs
  simp only [RepL, Rep] at hv
  obtain ⟨u, us, h1, h2, h3⟩ := hv
  simp_all [Lit.value]
 rw [e]
 refine (kind_calls a0 w).mono ?_
 rintro e w' ⟨rfl, hb⟩
 exact ⟨_, rfl, hb, by simp only [Rep]; exact ⟨trivial, rfl⟩⟩
end Go.Proofs.YtdjgldjebcoihaaDoorX

set_option linter.unusedVariables false
set_option linter.unusedSimpArgs false
namespace Go.Proofs.YtdjgldjebcoihaaDoorX
open Go Go.RowKit Go.Proofs
set_option maxRecDepth 100000
attribute [local go_sem ↓] stepsK_build stepsK_bs appendS
attribute [local go_sem] String.reduceEq String.reduceNe reduceCtorEq Int.reduceEq Nat.reduceAdd Nat.reduceSub Nat.reduceMul Nat.reduceLT Nat.reduceLeDiff Nat.reduceEqDiff Nat.reduceBEq Int.reduceToNat Int.reduceLT Int.reduceLE Int.reduceGT Int.reduceGE Int.reduceAdd Int.reduceSub Int.reduceMul Int.reduceNeg Int.reduceBEq Int.reduceBNe Int.reducePow Int.reduceDiv Int.reduceMod Int.reduceTDiv Int.reduceTMod Int.reduceNatCast
/-! ### header.signs -/
def F61 (n : Nat)  : Option (List (Int)) := some [(33 : Int), (35 : Int), (36 : Int), (37 : Int), (38 : Int), (39 : Int), (42 : Int), (43 : Int), (45 : Int), (46 : Int), (94 : Int), (95 : Int), (96 : Int), (124 : Int), (126 : Int)]
set_option maxHeartbeats 4000000 in
theorem F61_ok : ∀ (n : Nat) (r : List (Int)), F61 n = some r → FnC Tryd.prog 61 [] (.agg (List.map byteT r))
 | n, r, h => by
  unfold F61 at h
  refine FnC.goX mixed Tryd.func61 (by kernel_rfl) rfl ?_
  simp only [Tryd.ntmps61, List.length_cons, List.length_nil, List.replicate, List.cons_append, List.nil_append, Nat.reduceAdd, Nat.reduceSub]
  refine runX_seq ?_
  refine runX_regionC fun C hC => ?_
  try simp -implicitDefEqProofs (maxSteps := 4000000) (disch := first | omega | decide | (simp only [go_sem]; omega)) only [go_sem, ↓reduceIte]
  repeat (with_reducible refine And.intro (by first | assumption | omega | (simp; done) | (simp; omega)) ?_)
  refine toEnd hC ?_
  refine endX_seq ?_
  refine runX_seq ?_
  refine runX_regionC fun C hC => ?_
  simp only [runK_region, runK_draw, liteL, liteL2, dstsL, gL, List.getD_cons_zero, List.getD_cons_succ]
  try simp -implicitDefEqProofs (maxSteps := 4000000) (disch := first | omega | decide | (simp only [go_sem]; omega)) only [go_sem, ↓reduceIte]
  repeat (with_reducible refine And.intro (by first | assumption | omega | (simp; done) | (simp; omega)) ?_)
  refine bldG_of [.imm (.int .u8 (33 : Int)), .imm (.int .u8 (35 : Int)), .imm (.int .u8 (36 : Int)), .imm (.int .u8 (37 : Int)), .imm (.int .u8 (38 : Int)), .imm (.int .u8 (39 : Int)), .imm (.int .u8 (42 : Int)), .imm (.int .u8 (43 : Int)), .imm (.int .u8 (45 : Int)), .imm (.int .u8 (46 : Int)), .imm (.int .u8 (94 : Int)), .imm (.int .u8 (95 : Int)), .imm (.int .u8 (96 : Int)), .imm (.int .u8 (124 : Int)), .imm (.int .u8 (126 : Int))] (by kernel_rfl) ?_
  try simp -implicitDefEqProofs (maxSteps := 4000000) (disch := first | omega | decide | (simp only [go_sem]; omega)) only [go_sem, ↓reduceIte]
  repeat (with_reducible refine And.intro (by first | assumption | omega | (simp; done) | (simp; omega)) ?_)
  refine toEnd hC ?_
  refine endX_seq ?_
  refine runX_ret ?_
  refine endX_q ?_
  obtain rfl := Option.some.inj h
  show RetW _ _ _ _ _
  simp only [RetW]
  (try simp -implicitDefEqProofs (maxSteps := 4000000) (disch := first | omega | decide | (simp only [go_sem]; omega)) only [go_sem, ↓reduceIte])
  (try simp (disch := omega) only [if_pos, Nat.sub_zero])
  exact leT_refl _
end Go.Proofs.YtdjgldjebcoihaaDoorX

set_option linter.unusedVariables false
set_option linter.unusedSimpArgs false
namespace Go.Proofs.YtdjgldjebcoihaaDoorX
open Go Go.RowKit Go.Proofs
set_option maxRecDepth 100000
attribute [local go_sem ↓] stepsK_build stepsK_bs appendS
attribute [local go_sem] String.reduceEq String.reduceNe reduceCtorEq Int.reduceEq Nat.reduceAdd Nat.reduceSub Nat.reduceMul Nat.reduceLT Nat.reduceLeDiff Nat.reduceEqDiff Nat.reduceBEq Int.reduceToNat Int.reduceLT Int.reduceLE Int.reduceGT Int.reduceGE Int.reduceAdd Int.reduceSub Int.reduceMul Int.reduceNeg Int.reduceBEq Int.reduceBNe Int.reducePow Int.reduceDiv Int.reduceMod Int.reduceTDiv Int.reduceTMod Int.reduceNatCast
/-! ### header.Token$1 -/
def F60_S1 (a0 : Int) (v1 : List (Int)) (x2 : Int) : St := ⟨[.imm (.int .u8 a0), .junk, .junk, .junk, .junk, .agg (List.map byteT v1), .imm (.int .i64 x2), .junk, .junk, .junk, .junk, .junk, .junk, .junk, .junk, .junk], []⟩
def F60_L1 : Nat → (Int) → (List (Int)) → (Int) → Option (Bool)
 | 0, _, _, _ => none
 | m1 + 1, a0, v1, x2 => iteB (decide (x2 < (15 : Int))) (grd (0 ≤ x2 ∧ x2 < (15 : Int) ∧ x2.toNat < v1.length) (iteB ((v1.getD x2.toNat default) == a0) (some true) (F60_L1 m1 a0 v1 (IntKind.wrap .i64 (x2 + (1 : Int)))))) ((F58 m1 a0).bind fun v6 => some (v6 != (0 : Int)))
def F60 (n : Nat) (a0 : Int) : Option (Bool) := (F61 n ).bind fun v1 => F60_L1 n a0 v1 (0 : Int)
set_option maxHeartbeats 4000000 in
theorem F60_ok : ∀ (n : Nat) (a0 : Int) (r : Bool), F60 n a0 = some r → FnC Tryd.prog 60 [.imm (.int .u8 a0)] (.imm (.bool r))
 | n, a0, r, h => by
  unfold F60 at h
  refine FnC.goX mixed Tryd.func60 (by kernel_rfl) rfl ?_
  simp only [Tryd.ntmps60, List.length_cons, List.length_nil, List.replicate, List.cons_append, List.nil_append, Nat.reduceAdd, Nat.reduceSub]
  refine runX_seq ?_
  refine runX_regionC fun C hC => ?_
  try simp -implicitDefEqProofs (maxSteps := 4000000) (disch := first | omega | decide | (simp only [go_sem]; omega)) only [go_sem, ↓reduceIte]
  repeat (with_reducible refine And.intro (by first | assumption | omega | (simp; done) | (simp; omega)) ?_)
  refine toEnd hC ?_
  refine endX_seq ?_
  refine runX_seq ?_
  refine runX_seq ?_
  refine runX_regionC fun C hC => ?_
  simp only [runK_region, runK_draw, liteL, liteL2, dstsL, gL, List.getD_cons_zero, List.getD_cons_succ]
  obtain ⟨v1, h1, h⟩ := bnd_some h
  try simp -implicitDefEqProofs (maxSteps := 4000000) (disch := first | omega | decide | (simp only [go_sem]; omega)) only [go_sem, ↓reduceIte]
  repeat (with_reducible refine And.intro (by first | assumption | omega | (simp; done) | (simp; omega)) ?_)
  refine callG_X (by first | rfl | (simp only [go_sem]; done) | (simp only [closedL, closedT, Bool.and_true]; exact closedL_map _ (fun _ => by first | rfl | (simp only [go_sem]; done)) _)) (F61_ok n  _ h1) (by repeat (first | exact leL_refl _ | refine leL_cons (by first | exact leT_refl _ | exact leT_virt | exact leT_junk _ | exact leT_sl | exact leT_sln | exact leT_nil | (refine leT_agg (by repeat (first | exact leL_refl _ | refine leL_cons (by first | exact leT_refl _ | exact leT_sl | exact leT_sln | exact leT_nil) ?_)))) ?_)) ?_
  try simp -implicitDefEqProofs (maxSteps := 4000000) (disch := first | omega | decide | (simp only [go_sem]; omega)) only [go_sem, ↓reduceIte]
  repeat (with_reducible refine And.intro (by first | assumption | omega | (simp; done) | (simp; omega)) ?_)
  refine toEnd hC ?_
  refine endX_seq ?_
  refine runX_block ?_
  refine runX_loop [0, 5, 6] (fun m S => ∃ (x2 : Int), S = F60_S1 a0 v1 x2 ∧ m ≤ n ∧ F60_L1 m a0 v1 x2 = some r) n ⟨F60_S1 a0 v1 (0 : Int), ?_, (0 : Int), rfl, Nat.le_refl _, h⟩ ?_
  ·simp only [F60_S1]
   (try simp -implicitDefEqProofs (maxSteps := 4000000) (disch := first | omega | decide | (simp only [go_sem]; omega)) only [go_sem, ↓reduceIte])
   first | exact leS_refl _ | (refine leS_le ?_ ?_ <;> first | exact leL_refl _ | exact leOs_refl _ | (simp only [List.append_assoc, List.cons_append, List.nil_append]; exact leOs_refl _) | (refine leOs.cons (by first | exact leO.same _ | (refine leO.box (leT_agg (by repeat (first | exact leL_refl _ | refine leL_cons (by first | exact leT_refl _ | exact leT_virt | exact leT_junk _ | exact leT_sl | exact leT_sln | exact leT_nil | (refine leT_agg (by repeat (first | exact leL_refl _ | refine leL_cons (by first | exact leT_refl _ | exact leT_sl | exact leT_sln | exact leT_nil) ?_)))) ?_))) rfl) | (refine leO.box (by first | exact leT_virt | exact leT_sl | exact leT_sln) rfl)) ?_; repeat (first | exact leOs_refl _ | refine leOs.cons (by first | exact leO.same _ | (refine leO.box (leT_agg (by repeat (first | exact leL_refl _ | refine leL_cons (by first | exact leT_refl _ | exact leT_virt | exact leT_junk _ | exact leT_sl | exact leT_sln | exact leT_nil | (refine leT_agg (by repeat (first | exact leL_refl _ | refine leL_cons (by first | exact leT_refl _ | exact leT_sl | exact leT_sln | exact leT_nil) ?_)))) ?_))) rfl) | (refine leO.box (by first | exact leT_virt | exact leT_sl | exact leT_sln) rfl)) ?_)) | (repeat (first | exact leL_refl _ | refine leL_cons (by first | exact leT_refl _ | exact leT_virt | exact leT_junk _ | exact leT_sl | exact leT_sln | exact leT_nil | (refine leT_agg (by repeat (first | exact leL_refl _ | refine leL_cons (by first | exact leT_refl _ | exact leT_sl | exact leT_sln | exact leT_nil) ?_)))) ?_)))
  ·clear h
   rintro m1 S ⟨x2, rfl, hm1, h⟩
   cases m1 with
   | zero => first | cases (show (none : Option _) = some _ from h) | (rw [F60_L1] at h; cases h)
   | succ m1 =>
    rw [F60_L1] at h
    simp only [F60_S1]
    refine runX_seq ?_
    refine runX_regionC fun C hC => ?_
    try simp -implicitDefEqProofs (maxSteps := 4000000) (disch := first | omega | decide | (simp only [go_sem]; omega)) only [go_sem, ↓reduceIte]
    repeat (with_reducible refine And.intro (by first | assumption | omega | (simp; done) | (simp; omega)) ?_)
    refine toEnd hC ?_
    refine endX_seq ?_
    refine runX_seq ?_
    rcases iteB_some h with ⟨c3, h⟩ | ⟨c3, h⟩
    ·refine runX_condT rfl c3 ?_
     refine runX_skip ?_
     refine endX_seq ?_
     refine runX_seq ?_
     refine runX_block ?_
     refine runX_seq ?_
     refine runX_regionC fun C hC => ?_
     obtain ⟨g4, h⟩ := grd_some h
     try simp -implicitDefEqProofs (maxSteps := 4000000) (disch := first | omega | decide | (simp only [go_sem]; omega)) only [go_sem, ↓reduceIte]
     repeat (with_reducible refine And.intro (by first | assumption | omega | (simp; done) | (simp; omega)) ?_)
     refine toEnd hC ?_
     refine endX_seq ?_
     refine runX_seq ?_
     refine runX_regionC fun C hC => ?_
     try simp -implicitDefEqProofs (maxSteps := 4000000) (disch := first | omega | decide | (simp only [go_sem]; omega)) only [go_sem, ↓reduceIte]
     repeat (with_reducible refine And.intro (by first | assumption | omega | (simp; done) | (simp; omega)) ?_)
     refine toEnd hC ?_
     refine endX_seq ?_
     rcases iteB_some h with ⟨c5, h⟩ | ⟨c5, h⟩
     ·refine runX_condT rfl c5 ?_
      refine runX_seq ?_
      refine runX_regionC fun C hC => ?_
      try simp -implicitDefEqProofs (maxSteps := 4000000) (disch := first | omega | decide | (simp only [go_sem]; omega)) only [go_sem, ↓reduceIte]
      repeat (with_reducible refine And.intro (by first | assumption | omega | (simp; done) | (simp; omega)) ?_)
      refine toEnd hC ?_
      refine endX_seq ?_
      refine runX_ret ?_
      refine endX_blkR ?_
      refine endX_seqR ?_
      refine endX_q (roundQ_ret ?_)
      refine endX_blkR ?_
      refine endX_seqR ?_
      refine endX_q ?_
      obtain rfl := Option.some.inj h
      show RetW _ _ _ _ _
      simp only [RetW]
      (try simp -implicitDefEqProofs (maxSteps := 4000000) (disch := first | omega | decide | (simp only [go_sem]; omega)) only [go_sem, ↓reduceIte])
      (try simp (disch := omega) only [if_pos, Nat.sub_zero])
      exact leT_refl _
     ·refine runX_condF rfl c5 ?_
      refine runX_skip ?_
      refine endX_blk ?_
      refine endX_seq ?_
      refine runX_regionC fun C hC => ?_
      try simp -implicitDefEqProofs (maxSteps := 4000000) (disch := first | omega | decide | (simp only [go_sem]; omega)) only [go_sem, ↓reduceIte]
      repeat (with_reducible refine And.intro (by first | assumption | omega | (simp; done) | (simp; omega)) ?_)
      refine toEnd hC ?_
      refine endX_q (roundQ_normal ⟨m1, by omega, F60_S1 a0 v1 (IntKind.wrap .i64 (x2 + (1 : Int))), ?_, (IntKind.wrap .i64 (x2 + (1 : Int))), rfl, by omega, h⟩)
      simp only [F60_S1]
      (try simp -implicitDefEqProofs (maxSteps := 4000000) (disch := first | omega | decide | (simp only [go_sem]; omega)) only [go_sem, ↓reduceIte])
      first | exact leS_refl _ | (refine leS_le ?_ ?_ <;> first | exact leL_refl _ | exact leOs_refl _ | (simp only [List.append_assoc, List.cons_append, List.nil_append]; exact leOs_refl _) | (refine leOs.cons (by first | exact leO.same _ | (refine leO.box (leT_agg (by repeat (first | exact leL_refl _ | refine leL_cons (by first | exact leT_refl _ | exact leT_virt | exact leT_junk _ | exact leT_sl | exact leT_sln | exact leT_nil | (refine leT_agg (by repeat (first | exact leL_refl _ | refine leL_cons (by first | exact leT_refl _ | exact leT_sl | exact leT_sln | exact leT_nil) ?_)))) ?_))) rfl) | (refine leO.box (by first | exact leT_virt | exact leT_sl | exact leT_sln) rfl)) ?_; repeat (first | exact leOs_refl _ | refine leOs.cons (by first | exact leO.same _ | (refine leO.box (leT_agg (by repeat (first | exact leL_refl _ | refine leL_cons (by first | exact leT_refl _ | exact leT_virt | exact leT_junk _ | exact leT_sl | exact leT_sln | exact leT_nil | (refine leT_agg (by repeat (first | exact leL_refl _ | refine leL_cons (by first | exact leT_refl _ | exact leT_sl | exact leT_sln | exact leT_nil) ?_)))) ?_))) rfl) | (refine leO.box (by first | exact leT_virt | exact leT_sl | exact leT_sln) rfl)) ?_)) | (repeat (first | exact leL_refl _ | refine leL_cons (by first | exact leT_refl _ | exact leT_virt | exact leT_junk _ | exact leT_sl | exact leT_sln | exact leT_nil | (refine leT_agg (by repeat (first | exact leL_refl _ | refine leL_cons (by first | exact leT_refl _ | exact leT_sl | exact leT_sln | exact leT_nil) ?_)))) ?_)))
    ·refine runX_condF rfl c3 ?_
     refine runX_exit ?_
     refine endX_seqE ?_
     refine endX_q (roundQ_exit ?_)
     refine endX_blkE ?_
     refine endX_seq ?_
     refine runX_seq ?_
     refine runX_regionC fun C hC => ?_
     obtain ⟨v6, h6, h⟩ := bnd_some h
     try simp -implicitDefEqProofs (maxSteps := 4000000) (disch := first | omega | decide | (simp only [go_sem]; omega)) only [go_sem, ↓reduceIte]
     repeat (with_reducible refine And.intro (by first | assumption | omega | (simp; done) | (simp; omega)) ?_)
     refine callG_X (by first | rfl | (simp only [go_sem]; done) | (simp only [closedL, closedT, Bool.and_true]; exact closedL_map _ (fun _ => by first | rfl | (simp only [go_sem]; done)) _)) (F58_ok m1 a0 _ h6) (by repeat (first | exact leL_refl _ | refine leL_cons (by first | exact leT_refl _ | exact leT_virt | exact leT_junk _ | exact leT_sl | exact leT_sln | exact leT_nil | (refine leT_agg (by repeat (first | exact leL_refl _ | refine leL_cons (by first | exact leT_refl _ | exact leT_sl | exact leT_sln | exact leT_nil) ?_)))) ?_)) ?_
     try simp -implicitDefEqProofs (maxSteps := 4000000) (disch := first | omega | decide | (simp only [go_sem]; omega)) only [go_sem, ↓reduceIte]
     repeat (with_reducible refine And.intro (by first | assumption | omega | (simp; done) | (simp; omega)) ?_)
     refine toEnd hC ?_
     refine endX_seq ?_
     refine runX_ret ?_
     refine endX_q ?_
     obtain rfl := Option.some.inj h
     show RetW _ _ _ _ _
     simp only [RetW]
     (try simp -implicitDefEqProofs (maxSteps := 4000000) (disch := first | omega | decide | (simp only [go_sem]; omega)) only [go_sem, ↓reduceIte])
     (try simp (disch := omega) only [if_pos, Nat.sub_zero])
     exact leT_refl _
end Go.Proofs.YtdjgldjebcoihaaDoorX

set_option linter.unusedVariables false
set_option linter.unusedSimpArgs false
namespace Go.Proofs.YtdjgldjebcoihaaDoorX
open Go Go.RowKit Go.Proofs
set_option maxRecDepth 100000
attribute [local go_sem ↓] stepsK_build stepsK_bs appendS
attribute [local go_sem] String.reduceEq String.reduceNe reduceCtorEq Int.reduceEq Nat.reduceAdd Nat.reduceSub Nat.reduceMul Nat.reduceLT Nat.reduceLeDiff Nat.reduceEqDiff Nat.reduceBEq Int.reduceToNat Int.reduceLT Int.reduceLE Int.reduceGT Int.reduceGE Int.reduceAdd Int.reduceSub Int.reduceMul Int.reduceNeg Int.reduceBEq Int.reduceBNe Int.reducePow Int.reduceDiv Int.reduceMod Int.reduceTDiv Int.reduceTMod Int.reduceNatCast
/-! ### header.Token -/
def F45_S1 (a0 : List UInt8) (x1 : Int) : St := ⟨[.imm (.string (bs a0)), .junk, .junk, .fn 60 [], .junk, .junk, .imm (.int .i64 (a0.length : Int)), .imm (.int .i64 x1), .junk, .junk, .junk, .junk, .junk, .junk, .junk, .junk, .junk, .junk, .junk], []⟩
def F45_L1 : Nat → (List UInt8) → (Int) → Option (Bool)
 | 0, _, _ => none
 | m1 + 1, a0, x1 => iteB (decide (x1 < (a0.length : Int))) (grd (0 ≤ x1 ∧ x1 < (a0.length : Int)) ((F60 m1 ((a0.getD x1.toNat 0).toNat : Int)).bind fun v4 => iteB (!v4) (some false) (F45_L1 m1 a0 (IntKind.wrap .i64 (x1 + (1 : Int)))))) (some (!(a0 == [])))
def F45 (n : Nat) (a0 : List UInt8) : Option (Bool) := F45_L1 n a0 (0 : Int)
set_option maxHeartbeats 4000000 in
theorem F45_ok : ∀ (n : Nat) (a0 : List UInt8) (r : Bool), F45 n a0 = some r → FnC Tryd.prog 45 [.imm (.string (bs a0))] (.imm (.bool r))
 | n, a0, r, h => by
  unfold F45 at h
  refine FnC.goX mixed Tryd.func45 (by kernel_rfl) rfl ?_
  simp only [Tryd.ntmps45, List.length_cons, List.length_nil, List.replicate, List.cons_append, List.nil_append, Nat.reduceAdd, Nat.reduceSub]
  refine runX_seq ?_
  refine runX_regionC fun C hC => ?_
  try simp -implicitDefEqProofs (maxSteps := 4000000) (disch := first | omega | decide | (simp only [go_sem]; omega)) only [go_sem, ↓reduceIte]
  repeat (with_reducible refine And.intro (by first | assumption | omega | (simp; done) | (simp; omega)) ?_)
  refine toEnd hC ?_
  refine endX_seq ?_
  refine runX_seq ?_
  refine runX_regionC fun C hC => ?_
  try simp -implicitDefEqProofs (maxSteps := 4000000) (disch := first | omega | decide | (simp only [go_sem]; omega)) only [go_sem, ↓reduceIte]
  repeat (with_reducible refine And.intro (by first | assumption | omega | (simp; done) | (simp; omega)) ?_)
  refine toEnd hC ?_
  refine endX_seq ?_
  refine runX_seq ?_
  refine runX_seq ?_
  refine runX_regionC fun C hC => ?_
  try simp -implicitDefEqProofs (maxSteps := 4000000) (disch := first | omega | decide | (simp only [go_sem]; omega)) only [go_sem, ↓reduceIte]
  repeat (with_reducible refine And.intro (by first | assumption | omega | (simp; done) | (simp; omega)) ?_)
  refine toEnd hC ?_
  refine endX_seq ?_
  refine runX_block ?_
  refine runX_loop [0, 3, 6, 7] (fun m S => ∃ (x1 : Int), S = F45_S1 a0 x1 ∧ m ≤ n ∧ F45_L1 m a0 x1 = some r) n ⟨F45_S1 a0 (0 : Int), ?_, (0 : Int), rfl, Nat.le_refl _, h⟩ ?_
  ·simp only [F45_S1]
   (try simp -implicitDefEqProofs (maxSteps := 4000000) (disch := first | omega | decide | (simp only [go_sem]; omega)) only [go_sem, ↓reduceIte])
   first | exact leS_refl _ | (refine leS_le ?_ ?_ <;> first | exact leL_refl _ | exact leOs_refl _ | (simp only [List.append_assoc, List.cons_append, List.nil_append]; exact leOs_refl _) | (refine leOs.cons (by first | exact leO.same _ | (refine leO.box (leT_agg (by repeat (first | exact leL_refl _ | refine leL_cons (by first | exact leT_refl _ | exact leT_virt | exact leT_junk _ | exact leT_sl | exact leT_sln | exact leT_nil | (refine leT_agg (by repeat (first | exact leL_refl _ | refine leL_cons (by first | exact leT_refl _ | exact leT_sl | exact leT_sln | exact leT_nil) ?_)))) ?_))) rfl) | (refine leO.box (by first | exact leT_virt | exact leT_sl | exact leT_sln) rfl)) ?_; repeat (first | exact leOs_refl _ | refine leOs.cons (by first | exact leO.same _ | (refine leO.box (leT_agg (by repeat (first | exact leL_refl _ | refine leL_cons (by first | exact leT_refl _ | exact leT_virt | exact leT_junk _ | exact leT_sl | exact leT_sln | exact leT_nil | (refine leT_agg (by repeat (first | exact leL_refl _ | refine leL_cons (by first | exact leT_refl _ | exact leT_sl | exact leT_sln | exact leT_nil) ?_)))) ?_))) rfl) | (refine leO.box (by first | exact leT_virt | exact leT_sl | exact leT_sln) rfl)) ?_)) | (repeat (first | exact leL_refl _ | refine leL_cons (by first | exact leT_refl _ | exact leT_virt | exact leT_junk _ | exact leT_sl | exact leT_sln | exact leT_nil | (refine leT_agg (by repeat (first | exact leL_refl _ | refine leL_cons (by first | exact leT_refl _ | exact leT_sl | exact leT_sln | exact leT_nil) ?_)))) ?_)))
  ·clear h
   rintro m1 S ⟨x1, rfl, hm1, h⟩
   cases m1 with
   | zero => first | cases (show (none : Option _) = some _ from h) | (rw [F45_L1] at h; cases h)
   | succ m1 =>
    rw [F45_L1] at h
    simp only [F45_S1]
    refine runX_seq ?_
    refine runX_regionC fun C hC => ?_
    try simp -implicitDefEqProofs (maxSteps := 4000000) (disch := first | omega | decide | (simp only [go_sem]; omega)) only [go_sem, ↓reduceIte]
    repeat (with_reducible refine And.intro (by first | assumption | omega | (simp; done) | (simp; omega)) ?_)
    refine toEnd hC ?_
    refine endX_seq ?_
    refine runX_seq ?_
    rcases iteB_some h with ⟨c2, h⟩ | ⟨c2, h⟩
    ·refine runX_condT rfl c2 ?_
     refine runX_skip ?_
     refine endX_seq ?_
     refine runX_seq ?_
     refine runX_block ?_
     refine runX_seq ?_
     refine runX_regionC fun C hC => ?_
     try simp -implicitDefEqProofs (maxSteps := 4000000) (disch := first | omega | decide | (simp only [go_sem]; omega)) only [go_sem, ↓reduceIte]
     repeat (with_reducible refine And.intro (by first | assumption | omega | (simp; done) | (simp; omega)) ?_)
     refine toEnd hC ?_
     refine endX_seq ?_
     refine runX_seq ?_
     refine runX_regionC fun C hC => ?_
     obtain ⟨g3, h⟩ := grd_some h
     obtain ⟨v4, h4, h⟩ := bnd_some h
     try simp -implicitDefEqProofs (maxSteps := 4000000) (disch := first | omega | decide | (simp only [go_sem]; omega)) only [go_sem, ↓reduceIte]
     repeat (with_reducible refine And.intro (by first | assumption | omega | (simp; done) | (simp; omega)) ?_)
     refine callG_X (by first | rfl | (simp only [go_sem]; done) | (simp only [closedL, closedT, Bool.and_true]; exact closedL_map _ (fun _ => by first | rfl | (simp only [go_sem]; done)) _)) (F60_ok m1 ((a0.getD x1.toNat 0).toNat : Int) _ h4) (by repeat (first | exact leL_refl _ | refine leL_cons (by first | exact leT_refl _ | exact leT_virt | exact leT_junk _ | exact leT_sl | exact leT_sln | exact leT_nil | (refine leT_agg (by repeat (first | exact leL_refl _ | refine leL_cons (by first | exact leT_refl _ | exact leT_sl | exact leT_sln | exact leT_nil) ?_)))) ?_)) ?_
     try simp -implicitDefEqProofs (maxSteps := 4000000) (disch := first | omega | decide | (simp only [go_sem]; omega)) only [go_sem, ↓reduceIte]
     repeat (with_reducible refine And.intro (by first | assumption | omega | (simp; done) | (simp; omega)) ?_)
     refine toEnd hC ?_
     refine endX_seq ?_
     rcases iteB_some h with ⟨c5, h⟩ | ⟨c5, h⟩
     ·refine runX_condT rfl c5 ?_
      refine runX_seq ?_
      refine runX_regionC fun C hC => ?_
      try simp -implicitDefEqProofs (maxSteps := 4000000) (disch := first | omega | decide | (simp only [go_sem]; omega)) only [go_sem, ↓reduceIte]
      repeat (with_reducible refine And.intro (by first | assumption | omega | (simp; done) | (simp; omega)) ?_)
      refine toEnd hC ?_
      refine endX_seq ?_
      refine runX_ret ?_
      refine endX_blkR ?_
      refine endX_seqR ?_
      refine endX_q (roundQ_ret ?_)
      refine endX_blkR ?_
      refine endX_seqR ?_
      refine endX_q ?_
      obtain rfl := Option.some.inj h
      show RetW _ _ _ _ _
      simp only [RetW]
      (try simp -implicitDefEqProofs (maxSteps := 4000000) (disch := first | omega | decide | (simp only [go_sem]; omega)) only [go_sem, ↓reduceIte])
      (try simp (disch := omega) only [if_pos, Nat.sub_zero])
      exact leT_refl _
     ·refine runX_condF rfl c5 ?_
      refine runX_skip ?_
      refine endX_blk ?_
      refine endX_seq ?_
      refine runX_regionC fun C hC => ?_
      try simp -implicitDefEqProofs (maxSteps := 4000000) (disch := first | omega | decide | (simp only [go_sem]; omega)) only [go_sem, ↓reduceIte]
      repeat (with_reducible refine And.intro (by first | assumption | omega | (simp; done) | (simp; omega)) ?_)
      refine toEnd hC ?_
      refine endX_q (roundQ_normal ⟨m1, by omega, F45_S1 a0 (IntKind.wrap .i64 (x1 + (1 : Int))), ?_, (IntKind.wrap .i64 (x1 + (1 : Int))), rfl, by omega, h⟩)
      simp only [F45_S1]
      (try simp -implicitDefEqProofs (maxSteps := 4000000) (disch := first | omega | decide | (simp only [go_sem]; omega)) only [go_sem, ↓reduceIte])
      first | exact leS_refl _ | (refine leS_le ?_ ?_ <;> first | exact leL_refl _ | exact leOs_refl _ | (simp only [List.append_assoc, List.cons_append, List.nil_append]; exact leOs_refl _) | (refine leOs.cons (by first | exact leO.same _ | (refine leO.box (leT_agg (by repeat (first | exact leL_refl _ | refine leL_cons (by first | exact leT_refl _ | exact leT_virt | exact leT_junk _ | exact leT_sl | exact leT_sln | exact leT_nil | (refine leT_agg (by repeat (first | exact leL_refl _ | refine leL_cons (by first | exact leT_refl _ | exact leT_sl | exact leT_sln | exact leT_nil) ?_)))) ?_))) rfl) | (refine leO.box (by first | exact leT_virt | exact leT_sl | exact leT_sln) rfl)) ?_; repeat (first | exact leOs_refl _ | refine leOs.cons (by first | exact leO.same _ | (refine leO.box (leT_agg (by repeat (first | exact leL_refl _ | refine leL_cons (by first | exact leT_refl _ | exact leT_virt | exact leT_junk _ | exact leT_sl | exact leT_sln | exact leT_nil | (refine leT_agg (by repeat (first | exact leL_refl _ | refine leL_cons (by first | exact leT_refl _ | exact leT_sl | exact leT_sln | exact leT_nil) ?_)))) ?_))) rfl) | (refine leO.box (by first | exact leT_virt | exact leT_sl | exact leT_sln) rfl)) ?_)) | (repeat (first | exact leL_refl _ | refine leL_cons (by first | exact leT_refl _ | exact leT_virt | exact leT_junk _ | exact leT_sl | exact leT_sln | exact leT_nil | (refine leT_agg (by repeat (first | exact leL_refl _ | refine leL_cons (by first | exact leT_refl _ | exact leT_sl | exact leT_sln | exact leT_nil) ?_)))) ?_)))
    ·refine runX_condF rfl c2 ?_
     refine runX_exit ?_
     refine endX_seqE ?_
     refine endX_q (roundQ_exit ?_)
     refine endX_blkE ?_
     refine endX_seq ?_
     refine runX_seq ?_
     refine runX_regionC fun C hC => ?_
     try simp -implicitDefEqProofs (maxSteps := 4000000) (disch := first | omega | decide | (simp only [go_sem]; omega)) only [go_sem, ↓reduceIte]
     repeat (with_reducible refine And.intro (by first | assumption | omega | (simp; done) | (simp; omega)) ?_)
     refine toEnd hC ?_
     refine endX_seq ?_
     refine runX_ret ?_
     refine endX_q ?_
     obtain rfl := Option.some.inj h
     show RetW _ _ _ _ _
     simp only [RetW]
     (try simp -implicitDefEqProofs (maxSteps := 4000000) (disch := first | omega | decide | (simp only [go_sem]; omega)) only [go_sem, ↓reduceIte])
     (try simp (disch := omega) only [if_pos, Nat.sub_zero])
     exact leT_refl _
end Go.Proofs.YtdjgldjebcoihaaDoorX

set_option linter.unusedVariables false
set_option linter.unusedSimpArgs false
namespace Go.Proofs.YtdjgldjebcoihaaDoorX
open Go Go.RowKit Go.Proofs
set_option maxRecDepth 100000
attribute [local go_sem ↓] stepsK_build stepsK_bs appendS
attribute [local go_sem] String.reduceEq String.reduceNe reduceCtorEq Int.reduceEq Nat.reduceAdd Nat.reduceSub Nat.reduceMul Nat.reduceLT Nat.reduceLeDiff Nat.reduceEqDiff Nat.reduceBEq Int.reduceToNat Int.reduceLT Int.reduceLE Int.reduceGT Int.reduceGE Int.reduceAdd Int.reduceSub Int.reduceMul Int.reduceNeg Int.reduceBEq Int.reduceBNe Int.reducePow Int.reduceDiv Int.reduceMod Int.reduceTDiv Int.reduceTMod Int.reduceNatCast
/-! ### header.Value -/
def F46_S1 (a0 : List UInt8) (x1 : Int) : St := ⟨[.imm (.string (bs a0)), .junk, .junk, .junk, .junk, .junk, .imm (.int .i64 (a0.length : Int)), .imm (.int .i64 x1), .junk, .junk, .junk, .junk, .junk, .junk, .junk, .junk, .junk, .junk, .junk, .junk, .junk, .junk, .junk, .junk], []⟩
def F46_L1 : Nat → (List UInt8) → (Int) → Option (Bool)
 | 0, _, _ => none
 | m1 + 1, a0, x1 => iteB (decide (x1 < (a0.length : Int))) (grd (0 ≤ x1 ∧ x1 < (a0.length : Int)) (iteB (((a0.getD x1.toNat 0).toNat : Int) != (9 : Int)) (iteB (decide (((a0.getD x1.toNat 0).toNat : Int) < (32 : Int))) (some false) (iteB (((a0.getD x1.toNat 0).toNat : Int) == (127 : Int)) (some false) (F46_L1 m1 a0 (IntKind.wrap .i64 (x1 + (1 : Int)))))) (F46_L1 m1 a0 (IntKind.wrap .i64 (x1 + (1 : Int)))))) (some true)
def F46 (n : Nat) (a0 : List UInt8) : Option (Bool) := F46_L1 n a0 (0 : Int)
set_option maxHeartbeats 4000000 in
theorem F46_ok : ∀ (n : Nat) (a0 : List UInt8) (r : Bool), F46 n a0 = some r → FnC Tryd.prog 46 [.imm (.string (bs a0))] (.imm (.bool r))
 | n, a0, r, h => by
  unfold F46 at h
  refine FnC.goX mixed Tryd.func46 (by kernel_rfl) rfl ?_
  simp only [Tryd.ntmps46, List.length_cons, List.length_nil, List.replicate, List.cons_append, List.nil_append, Nat.reduceAdd, Nat.reduceSub]
  refine runX_seq ?_
  refine runX_regionC fun C hC => ?_
  try simp -implicitDefEqProofs (maxSteps := 4000000) (disch := first | omega | decide | (simp only [go_sem]; omega)) only [go_sem, ↓reduceIte]
  repeat (with_reducible refine And.intro (by first | assumption | omega | (simp; done) | (simp; omega)) ?_)
  refine toEnd hC ?_
  refine endX_seq ?_
  refine runX_seq ?_
  refine runX_seq ?_
  refine runX_regionC fun C hC => ?_
  try simp -implicitDefEqProofs (maxSteps := 4000000) (disch := first | omega | decide | (simp only [go_sem]; omega)) only [go_sem, ↓reduceIte]
  repeat (with_reducible refine And.intro (by first | assumption | omega | (simp; done) | (simp; omega)) ?_)
  refine toEnd hC ?_
  refine endX_seq ?_
  refine runX_block ?_
  refine runX_loop [0, 6, 7] (fun m S => ∃ (x1 : Int), S = F46_S1 a0 x1 ∧ m ≤ n ∧ F46_L1 m a0 x1 = some r) n ⟨F46_S1 a0 (0 : Int), ?_, (0 : Int), rfl, Nat.le_refl _, h⟩ ?_
  ·simp only [F46_S1]
   (try simp -implicitDefEqProofs (maxSteps := 4000000) (disch := first | omega | decide | (simp only [go_sem]; omega)) only [go_sem, ↓reduceIte])
   first | exact leS_refl _ | (refine leS_le ?_ ?_ <;> first | exact leL_refl _ | exact leOs_refl _ | (simp only [List.append_assoc, List.cons_append, List.nil_append]; exact leOs_refl _) | (refine leOs.cons (by first | exact leO.same _ | (refine leO.box (leT_agg (by repeat (first | exact leL_refl _ | refine leL_cons (by first | exact leT_refl _ | exact leT_virt | exact leT_junk _ | exact leT_sl | exact leT_sln | exact leT_nil | (refine leT_agg (by repeat (first | exact leL_refl _ | refine leL_cons (by first | exact leT_refl _ | exact leT_sl | exact leT_sln | exact leT_nil) ?_)))) ?_))) rfl) | (refine leO.box (by first | exact leT_virt | exact leT_sl | exact leT_sln) rfl)) ?_; repeat (first | exact leOs_refl _ | refine leOs.cons (by first | exact leO.same _ | (refine leO.box (leT_agg (by repeat (first | exact leL_refl _ | refine leL_cons (by first | exact leT_refl _ | exact leT_virt | exact leT_junk _ | exact leT_sl | exact leT_sln | exact leT_nil | (refine leT_agg (by repeat (first | exact leL_refl _ | refine leL_cons (by first | exact leT_refl _ | exact leT_sl | exact leT_sln | exact leT_nil) ?_)))) ?_))) rfl) | (refine leO.box (by first | exact leT_virt | exact leT_sl | exact leT_sln) rfl)) ?_)) | (repeat (first | exact leL_refl _ | refine leL_cons (by first | exact leT_refl _ | exact leT_virt | exact leT_junk _ | exact leT_sl | exact leT_sln | exact leT_nil | (refine leT_agg (by repeat (first | exact leL_refl _ | refine leL_cons (by first | exact leT_refl _ | exact leT_sl | exact leT_sln | exact leT_nil) ?_)))) ?_)))
  ·clear h
   rintro m1 S ⟨x1, rfl, hm1, h⟩
   cases m1 with
   | zero => first | cases (show (none : Option _) = some _ from h) | (rw [F46_L1] at h; cases h)
   | succ m1 =>
    rw [F46_L1] at h
    simp only [F46_S1]
    refine runX_seq ?_
    refine runX_regionC fun C hC => ?_
    try simp -implicitDefEqProofs (maxSteps := 4000000) (disch := first | omega | decide | (simp only [go_sem]; omega)) only [go_sem, ↓reduceIte]
    repeat (with_reducible refine And.intro (by first | assumption | omega | (simp; done) | (simp; omega)) ?_)
    refine toEnd hC ?_
    refine endX_seq ?_
    refine runX_seq ?_
    rcases iteB_some h with ⟨c2, h⟩ | ⟨c2, h⟩
    ·refine runX_condT rfl c2 ?_
     refine runX_skip ?_
     refine endX_seq ?_
     refine runX_seq ?_
     refine runX_block ?_
     refine runX_seq ?_
     refine runX_regionC fun C hC => ?_
     try simp -implicitDefEqProofs (maxSteps := 4000000) (disch := first | omega | decide | (simp only [go_sem]; omega)) only [go_sem, ↓reduceIte]
     repeat (with_reducible refine And.intro (by first | assumption | omega | (simp; done) | (simp; omega)) ?_)
     refine toEnd hC ?_
     refine endX_seq ?_
     refine runX_seq ?_
     refine runX_regionC fun C hC => ?_
     obtain ⟨g3, h⟩ := grd_some h
     try simp -implicitDefEqProofs (maxSteps := 4000000) (disch := first | omega | decide | (simp only [go_sem]; omega)) only [go_sem, ↓reduceIte]
     repeat (with_reducible refine And.intro (by first | assumption | omega | (simp; done) | (simp; omega)) ?_)
     refine toEnd hC ?_
     refine endX_seq ?_
     refine runX_seq ?_
     refine runX_regionC fun C hC => ?_
     try simp -implicitDefEqProofs (maxSteps := 4000000) (disch := first | omega | decide | (simp only [go_sem]; omega)) only [go_sem, ↓reduceIte]
     repeat (with_reducible refine And.intro (by first | assumption | omega | (simp; done) | (simp; omega)) ?_)
     rcases iteB_some h with ⟨c4, h⟩ | ⟨c4, h⟩
     ·refine guardK_T c4 ?_
      try simp -implicitDefEqProofs (maxSteps := 4000000) (disch := first | omega | decide | (simp only [go_sem]; omega)) only [go_sem, ↓reduceIte]
      repeat (with_reducible refine And.intro (by first | assumption | omega | (simp; done) | (simp; omega)) ?_)
      rcases iteB_some h with ⟨c5, h⟩ | ⟨c5, h⟩
      ·refine guardK_F c5 ?_
       try simp -implicitDefEqProofs (maxSteps := 4000000) (disch := first | omega | decide | (simp only [go_sem]; omega)) only [go_sem, ↓reduceIte]
       repeat (with_reducible refine And.intro (by first | assumption | omega | (simp; done) | (simp; omega)) ?_)
       refine toEnd hC ?_
       refine endX_seq ?_
       refine runX_condT rfl rfl ?_
       refine runX_seq ?_
       refine runX_regionC fun C hC => ?_
       try simp -implicitDefEqProofs (maxSteps := 4000000) (disch := first | omega | decide | (simp only [go_sem]; omega)) only [go_sem, ↓reduceIte]
       repeat (with_reducible refine And.intro (by first | assumption | omega | (simp; done) | (simp; omega)) ?_)
       refine toEnd hC ?_
       refine endX_seq ?_
       refine runX_ret ?_
       refine endX_blkR ?_
       refine endX_seqR ?_
       refine endX_q (roundQ_ret ?_)
       refine endX_blkR ?_
       refine endX_seqR ?_
       refine endX_q ?_
       obtain rfl := Option.some.inj h
       show RetW _ _ _ _ _
       simp only [RetW]
       (try simp -implicitDefEqProofs (maxSteps := 4000000) (disch := first | omega | decide | (simp only [go_sem]; omega)) only [go_sem, ↓reduceIte])
       (try simp (disch := omega) only [if_pos, Nat.sub_zero])
       exact leT_refl _
      ·refine guardK_T c5 ?_
       try simp -implicitDefEqProofs (maxSteps := 4000000) (disch := first | omega | decide | (simp only [go_sem]; omega)) only [go_sem, ↓reduceIte]
       repeat (with_reducible refine And.intro (by first | assumption | omega | (simp; done) | (simp; omega)) ?_)
       refine toEnd hC ?_
       refine endX_seq ?_
       rcases iteB_some h with ⟨c6, h⟩ | ⟨c6, h⟩
       ·refine runX_condT rfl c6 ?_
        refine runX_seq ?_
        refine runX_regionC fun C hC => ?_
        try simp -implicitDefEqProofs (maxSteps := 4000000) (disch := first | omega | decide | (simp only [go_sem]; omega)) only [go_sem, ↓reduceIte]
        repeat (with_reducible refine And.intro (by first | assumption | omega | (simp; done) | (simp; omega)) ?_)
        refine toEnd hC ?_
        refine endX_seq ?_
        refine runX_ret ?_
        refine endX_blkR ?_
        refine endX_seqR ?_
        refine endX_q (roundQ_ret ?_)
        refine endX_blkR ?_
        refine endX_seqR ?_
        refine endX_q ?_
        obtain rfl := Option.some.inj h
        show RetW _ _ _ _ _
        simp only [RetW]
        (try simp -implicitDefEqProofs (maxSteps := 4000000) (disch := first | omega | decide | (simp only [go_sem]; omega)) only [go_sem, ↓reduceIte])
        (try simp (disch := omega) only [if_pos, Nat.sub_zero])
        exact leT_refl _
       ·refine runX_condF rfl c6 ?_
        refine runX_skip ?_
        refine endX_blk ?_
        refine endX_seq ?_
        refine runX_regionC fun C hC => ?_
        try simp -implicitDefEqProofs (maxSteps := 4000000) (disch := first | omega | decide | (simp only [go_sem]; omega)) only [go_sem, ↓reduceIte]
        repeat (with_reducible refine And.intro (by first | assumption | omega | (simp; done) | (simp; omega)) ?_)
        refine toEnd hC ?_
        refine endX_q (roundQ_normal ⟨m1, by omega, F46_S1 a0 (IntKind.wrap .i64 (x1 + (1 : Int))), ?_, (IntKind.wrap .i64 (x1 + (1 : Int))), rfl, by omega, h⟩)
        simp only [F46_S1]
        (try simp -implicitDefEqProofs (maxSteps := 4000000) (disch := first | omega | decide | (simp only [go_sem]; omega)) only [go_sem, ↓reduceIte])
        first | exact leS_refl _ | (refine leS_le ?_ ?_ <;> first | exact leL_refl _ | exact leOs_refl _ | (simp only [List.append_assoc, List.cons_append, List.nil_append]; exact leOs_refl _) | (refine leOs.cons (by first | exact leO.same _ | (refine leO.box (leT_agg (by repeat (first | exact leL_refl _ | refine leL_cons (by first | exact leT_refl _ | exact leT_virt | exact leT_junk _ | exact leT_sl | exact leT_sln | exact leT_nil | (refine leT_agg (by repeat (first | exact leL_refl _ | refine leL_cons (by first | exact leT_refl _ | exact leT_sl | exact leT_sln | exact leT_nil) ?_)))) ?_))) rfl) | (refine leO.box (by first | exact leT_virt | exact leT_sl | exact leT_sln) rfl)) ?_; repeat (first | exact leOs_refl _ | refine leOs.cons (by first | exact leO.same _ | (refine leO.box (leT_agg (by repeat (first | exact leL_refl _ | refine leL_cons (by first | exact leT_refl _ | exact leT_virt | exact leT_junk _ | exact leT_sl | exact leT_sln | exact leT_nil | (refine leT_agg (by repeat (first | exact leL_refl _ | refine leL_cons (by first | exact leT_refl _ | exact leT_sl | exact leT_sln | exact leT_nil) ?_)))) ?_))) rfl) | (refine leO.box (by first | exact leT_virt | exact leT_sl | exact leT_sln) rfl)) ?_)) | (repeat (first | exact leL_refl _ | refine leL_cons (by first | exact leT_refl _ | exact leT_virt | exact leT_junk _ | exact leT_sl | exact leT_sln | exact leT_nil | (refine leT_agg (by repeat (first | exact leL_refl _ | refine leL_cons (by first | exact leT_refl _ | exact leT_sl | exact leT_sln | exact leT_nil) ?_)))) ?_)))
     ·refine guardK_F c4 ?_
      try simp -implicitDefEqProofs (maxSteps := 4000000) (disch := first | omega | decide | (simp only [go_sem]; omega)) only [go_sem, ↓reduceIte]
      repeat (with_reducible refine And.intro (by first | assumption | omega | (simp; done) | (simp; omega)) ?_)
      refine toEnd hC ?_
      refine endX_seq ?_
      refine runX_condF rfl rfl ?_
      refine runX_skip ?_
      refine endX_blk ?_
      refine endX_seq ?_
      refine runX_regionC fun C hC => ?_
      try simp -implicitDefEqProofs (maxSteps := 4000000) (disch := first | omega | decide | (simp only [go_sem]; omega)) only [go_sem, ↓reduceIte]
      repeat (with_reducible refine And.intro (by first | assumption | omega | (simp; done) | (simp; omega)) ?_)
      refine toEnd hC ?_
      refine endX_q (roundQ_normal ⟨m1, by omega, F46_S1 a0 (IntKind.wrap .i64 (x1 + (1 : Int))), ?_, (IntKind.wrap .i64 (x1 + (1 : Int))), rfl, by omega, h⟩)
      simp only [F46_S1]
      (try simp -implicitDefEqProofs (maxSteps := 4000000) (disch := first | omega | decide | (simp only [go_sem]; omega)) only [go_sem, ↓reduceIte])
      first | exact leS_refl _ | (refine leS_le ?_ ?_ <;> first | exact leL_refl _ | exact leOs_refl _ | (simp only [List.append_assoc, List.cons_append, List.nil_append]; exact leOs_refl _) | (refine leOs.cons (by first | exact leO.same _ | (refine leO.box (leT_agg (by repeat (first | exact leL_refl _ | refine leL_cons (by first | exact leT_refl _ | exact leT_virt | exact leT_junk _ | exact leT_sl | exact leT_sln | exact leT_nil | (refine leT_agg (by repeat (first | exact leL_refl _ | refine leL_cons (by first | exact leT_refl _ | exact leT_sl | exact leT_sln | exact leT_nil) ?_)))) ?_))) rfl) | (refine leO.box (by first | exact leT_virt | exact leT_sl | exact leT_sln) rfl)) ?_; repeat (first | exact leOs_refl _ | refine leOs.cons (by first | exact leO.same _ | (refine leO.box (leT_agg (by repeat (first | exact leL_refl _ | refine leL_cons (by first | exact leT_refl _ | exact leT_virt | exact leT_junk _ | exact leT_sl | exact leT_sln | exact leT_nil | (refine leT_agg (by repeat (first | exact leL_refl _ | refine leL_cons (by first | exact leT_refl _ | exact leT_sl | exact leT_sln | exact leT_nil) ?_)))) ?_))) rfl) | (refine leO.box (by first | exact leT_virt | exact leT_sl | exact leT_sln) rfl)) ?_)) | (repeat (first | exact leL_refl _ | refine leL_cons (by first | exact leT_refl _ | exact leT_virt | exact leT_junk _ | exact leT_sl | exact leT_sln | exact leT_nil | (refine leT_agg (by repeat (first | exact leL_refl _ | refine leL_cons (by first | exact leT_refl _ | exact leT_sl | exact leT_sln | exact leT_nil) ?_)))) ?_)))
    ·refine runX_condF rfl c2 ?_
     refine runX_exit ?_
     refine endX_seqE ?_
     refine endX_q (roundQ_exit ?_)
     refine endX_blkE ?_
     refine endX_seq ?_
     refine runX_seq ?_
     refine runX_regionC fun C hC => ?_
     try simp -implicitDefEqProofs (maxSteps := 4000000) (disch := first | omega | decide | (simp only [go_sem]; omega)) only [go_sem, ↓reduceIte]
     repeat (with_reducible refine And.intro (by first | assumption | omega | (simp; done) | (simp; omega)) ?_)
     refine toEnd hC ?_
     refine endX_seq ?_
     refine runX_ret ?_
     refine endX_q ?_
     obtain rfl := Option.some.inj h
     show RetW _ _ _ _ _
     simp only [RetW]
     (try simp -implicitDefEqProofs (maxSteps := 4000000) (disch := first | omega | decide | (simp only [go_sem]; omega)) only [go_sem, ↓reduceIte])
     (try simp (disch := omega) only [if_pos, Nat.sub_zero])
     exact leT_refl _
end Go.Proofs.YtdjgldjebcoihaaDoorX

set_option linter.unusedVariables false
set_option linter.unusedSimpArgs false
namespace Go.Proofs.YtdjgldjebcoihaaDoorX
open Go Go.RowKit Go.Proofs
set_option maxRecDepth 100000
/-! ### strings.Trim: by the shelf, of signs below 128 -/
open Go.Shelf
def Tryd.lay160_ren : Go.Shelf.Ren := ⟨fun | 160 => 47 | 232 => 63 | 231 => 62 | 227 => 64 | 234 => 66 | 233 => 65 | 236 => 68 | 235 => 67 | 228 => 79 | 271 => 81 | 151 => 80 | 197 => 48 | 120 => 89 | 152 => 88 | 260 => 69 | 137 => 92 | 119 => 93 | 224 => 39 | 225 => 86 | 217 => 85 | 266 => 90 | n => n, fun | 9 => 9 | 4 => 4 | 3 => 3 | 5 => 5 | 117 => 102 | 116 => 101 | 0 => 0 | 124 => 105 | 21 => 21 | 105 => 85 | 46 => 77 | 119 => 121 | 139 => 124 | 138 => 123 | n => n, fun | 3 => 4 | 4 => 5 | n => n⟩
theorem Tryd.lay160 : Go.Proofs.Lays.n160 Tryd.prog Tryd.lay160_ren := {
 mixed := by kernel_rfl,
 f119 := Tryd.func93.trans (congrArg some (by kernel_rfl)),
 f120 := Tryd.func89.trans (congrArg some (by kernel_rfl)),
 f137 := Tryd.func92.trans (congrArg some (by kernel_rfl)),
 f151 := Tryd.func80.trans (congrArg some (by kernel_rfl)),
 f152 := Tryd.func88.trans (congrArg some (by kernel_rfl)),
 f160 := Tryd.func47.trans (congrArg some (by kernel_rfl)),
 f197 := Tryd.func48.trans (congrArg some (by kernel_rfl)),
 f217 := Tryd.func85.trans (congrArg some (by kernel_rfl)),
 f224 := Tryd.func39.trans (congrArg some (by kernel_rfl)),
 f225 := Tryd.func86.trans (congrArg some (by kernel_rfl)),
 f227 := Tryd.func64.trans (congrArg some (by kernel_rfl)),
 f228 := Tryd.func79.trans (congrArg some (by kernel_rfl)),
 f231 := Tryd.func62.trans (congrArg some (by kernel_rfl)),
 f232 := Tryd.func63.trans (congrArg some (by kernel_rfl)),
 f233 := Tryd.func65.trans (congrArg some (by kernel_rfl)),
 f234 := Tryd.func66.trans (congrArg some (by kernel_rfl)),
 f235 := Tryd.func67.trans (congrArg some (by kernel_rfl)),
 f236 := Tryd.func68.trans (congrArg some (by kernel_rfl)),
 f260 := Tryd.func69.trans (congrArg some (by kernel_rfl)),
 f266 := Tryd.func90.trans (congrArg some (by kernel_rfl)),
 f271 := Tryd.func81.trans (congrArg some (by kernel_rfl)),
 t0 := Tryd.underlying0,
 a0 := Tryd.isAgg0,
 z0 := Tryd.sizeOf0,
 v0 := Tryd.zeroValue0,
 t3 := Tryd.underlying3,
 a3 := Tryd.isAgg3,
 z3 := Tryd.sizeOf3,
 v3 := Tryd.zeroValue3,
 t4 := Tryd.underlying4,
 a4 := Tryd.isAgg4,
 z4 := Tryd.sizeOf4,
 v4 := Tryd.zeroValue4,
 t5 := Tryd.underlying5,
 a5 := Tryd.isAgg5,
 z5 := Tryd.sizeOf5,
 v5 := Tryd.zeroValue5,
 t9 := Tryd.underlying9,
 a9 := Tryd.isAgg9,
 z9 := Tryd.sizeOf9,
 v9 := Tryd.zeroValue9,
 t21 := Tryd.underlying21,
 a21 := Tryd.isAgg21,
 z21 := Tryd.sizeOf21,
 v21 := Tryd.zeroValue21,
 t46 := Tryd.underlying77,
 a46 := Tryd.isAgg77,
 z46 := Tryd.sizeOf77,
 v46 := Tryd.zeroValue77,
 t105 := Tryd.underlying85,
 a105 := Tryd.isAgg85,
 z105 := Tryd.sizeOf85,
 v105 := Tryd.zeroValue85,
 t116 := Tryd.underlying101,
 a116 := Tryd.isAgg101,
 z116 := Tryd.sizeOf101,
 t117 := Tryd.underlying102,
 a117 := Tryd.isAgg102,
 z117 := Tryd.sizeOf102,
 v117 := Tryd.zeroValue102,
 t119 := Tryd.underlying121,
 a119 := Tryd.isAgg121,
 z119 := Tryd.sizeOf121,
 t124 := Tryd.underlying105,
 a124 := Tryd.isAgg105,
 z124 := Tryd.sizeOf105,
 v124 := Tryd.zeroValue105,
 t138 := Tryd.underlying123,
 a138 := Tryd.isAgg123,
 z138 := Tryd.sizeOf123,
 v138 := Tryd.zeroValue123,
 t139 := Tryd.underlying124,
 a139 := Tryd.isAgg124,
 z139 := Tryd.sizeOf124,
 v139 := Tryd.zeroValue124,
 g3 := by kernel_rfl,
 g4 := by kernel_rfl }
def F47 (n : Nat) (a0 : List UInt8) (a1 : List UInt8) : Option (List UInt8) :=
 if a0.length ≤ 9223372036854775807 ∧ a1.length < 4294967281 ∧ (a1.all fun b => decide (b.toNat < 128)) = true then some (Lib.trimS a0 a1) else none
theorem F47_ok (n : Nat) (a0 : List UInt8) (a1 : List UInt8) (r : List UInt8) (h : F47 n a0 a1 = some r) : FnC Tryd.prog 47 [.imm (.string (bs a0)), .imm (.string (bs a1))] (.imm (.string (bs r))) := by
 unfold F47 at h
 split at h
 case isFalse => cases h
 rename_i hh
 obtain ⟨h1, h2, h3⟩ := hh
 obtain rfl := Option.some.inj h
 refine ⟨⟨Tryd.f47, Tryd.func47, by kernel_rfl, rfl⟩, fun w ban vs hban hgi hv => ?_⟩
 have e : vs = #[.string (bs a0), .string (bs a1)] := by
  obtain ⟨l⟩ := vs
  simp only [RepL, Rep] at hv
  obtain ⟨u, us, h1, h2, v, vs', h3, h4, h5⟩ := hv
  simp_all
 rw [e]
 refine (Any.strings_Trim_laid Tryd.lay160 (by kernel_rfl) (bs a0) (bs a1) w (by rw [bs_size]; exact h1) (by rw [bs_size]; exact h2) (ascii_of_all h3)).mono ?_
 rintro e w' ⟨rfl, hb⟩
 exact ⟨_, rfl, hb, by simp only [Rep]; exact ⟨rfl, rfl⟩⟩
end Go.Proofs.YtdjgldjebcoihaaDoorX

set_option linter.unusedVariables false
set_option linter.unusedSimpArgs false
namespace Go.Proofs.YtdjgldjebcoihaaDoorX
open Go Go.RowKit Go.Proofs
set_option maxRecDepth 100000
attribute [local go_sem ↓] stepsK_build stepsK_bs appendS
attribute [local go_sem] String.reduceEq String.reduceNe reduceCtorEq Int.reduceEq Nat.reduceAdd Nat.reduceSub Nat.reduceMul Nat.reduceLT Nat.reduceLeDiff Nat.reduceEqDiff Nat.reduceBEq Int.reduceToNat Int.reduceLT Int.reduceLE Int.reduceGT Int.reduceGE Int.reduceAdd Int.reduceSub Int.reduceMul Int.reduceNeg Int.reduceBEq Int.reduceBNe Int.reducePow Int.reduceDiv Int.reduceMod Int.reduceTDiv Int.reduceTMod Int.reduceNatCast
/-! ### header.Line -/
def F27 (n : Nat) (a0 : List UInt8) : Option (((List UInt8) × (List UInt8)) × (Bool)) := (F44 n a0 ([58] : List UInt8)).bind fun v1 => iteB (!v1.2.2) (some (([], []), false)) ((F45 n v1.1).bind fun v3 => iteB (!v3) (some (([], []), false)) ((F46 n v1.2.1).bind fun v5 => iteB (!v5) (some (([], []), false)) ((F47 n v1.2.1 ([32, 9] : List UInt8)).bind fun v7 => some ((v1.1, v7), true))))
set_option maxHeartbeats 4000000 in
theorem F27_ok : ∀ (n : Nat) (a0 : List UInt8) (r : ((List UInt8) × (List UInt8)) × (Bool)), F27 n a0 = some r → FnC Tryd.prog 27 [.imm (.string (bs a0))] (.tup [.agg [.imm (.string (bs r.1.1)), .imm (.string (bs r.1.2))], .imm (.bool r.2)])
 | n, a0, r, h => by
  unfold F27 at h
  refine FnC.goX mixed Tryd.func27 (by kernel_rfl) rfl ?_
  simp only [Tryd.ntmps27, List.length_cons, List.length_nil, List.replicate, List.cons_append, List.nil_append, Nat.reduceAdd, Nat.reduceSub]
  refine runX_seq ?_
  refine runX_regionC fun C hC => ?_
  try simp -implicitDefEqProofs (maxSteps := 4000000) (disch := first | omega | decide | (simp only [go_sem]; omega)) only [go_sem, ↓reduceIte]
  repeat (with_reducible refine And.intro (by first | assumption | omega | (simp; done) | (simp; omega)) ?_)
  refine toEnd hC ?_
  refine endX_seq ?_
  refine runX_seq ?_
  refine runX_regionC fun C hC => ?_
  obtain ⟨v1, h1, h⟩ := bnd_some h
  try simp -implicitDefEqProofs (maxSteps := 4000000) (disch := first | omega | decide | (simp only [go_sem]; omega)) only [go_sem, ↓reduceIte]
  repeat (with_reducible refine And.intro (by first | assumption | omega | (simp; done) | (simp; omega)) ?_)
  refine callG_X (by first | rfl | (simp only [go_sem]; done) | (simp only [closedL, closedT, Bool.and_true]; exact closedL_map _ (fun _ => by first | rfl | (simp only [go_sem]; done)) _)) (F44_ok n a0 ([58] : List UInt8) _ h1) (by repeat (first | exact leL_refl _ | refine leL_cons (by first | exact leT_refl _ | exact leT_virt | exact leT_junk _ | exact leT_sl | exact leT_sln | exact leT_nil | (refine leT_agg (by repeat (first | exact leL_refl _ | refine leL_cons (by first | exact leT_refl _ | exact leT_sl | exact leT_sln | exact leT_nil) ?_)))) ?_)) ?_
  try simp -implicitDefEqProofs (maxSteps := 4000000) (disch := first | omega | decide | (simp only [go_sem]; omega)) only [go_sem, ↓reduceIte]
  repeat (with_reducible refine And.intro (by first | assumption | omega | (simp; done) | (simp; omega)) ?_)
  refine toEnd hC ?_
  refine endX_seq ?_
  refine runX_seq ?_
  refine runX_seq ?_
  refine runX_regionC fun C hC => ?_
  try simp -implicitDefEqProofs (maxSteps := 4000000) (disch := first | omega | decide | (simp only [go_sem]; omega)) only [go_sem, ↓reduceIte]
  repeat (with_reducible refine And.intro (by first | assumption | omega | (simp; done) | (simp; omega)) ?_)
  rcases iteB_some h with ⟨c2, h⟩ | ⟨c2, h⟩
  ·refine guardK_F c2 ?_
   try simp -implicitDefEqProofs (maxSteps := 4000000) (disch := first | omega | decide | (simp only [go_sem]; omega)) only [go_sem, ↓reduceIte]
   repeat (with_reducible refine And.intro (by first | assumption | omega | (simp; done) | (simp; omega)) ?_)
   refine toEnd hC ?_
   refine endX_seq ?_
   refine runX_condT rfl rfl ?_
   refine runX_seq ?_
   refine runX_regionC fun C hC => ?_
   simp only [runK_region, runK_draw, liteL, liteL2, dstsL, gL, List.getD_cons_zero, List.getD_cons_succ]
   try simp -implicitDefEqProofs (maxSteps := 4000000) (disch := first | omega | decide | (simp only [go_sem]; omega)) only [go_sem, ↓reduceIte]
   repeat (with_reducible refine And.intro (by first | assumption | omega | (simp; done) | (simp; omega)) ?_)
   refine bldG_of [.imm (.string (bs [])), .imm (.string (bs []))] (by kernel_rfl) ?_
   try simp -implicitDefEqProofs (maxSteps := 4000000) (disch := first | omega | decide | (simp only [go_sem]; omega)) only [go_sem, ↓reduceIte]
   repeat (with_reducible refine And.intro (by first | assumption | omega | (simp; done) | (simp; omega)) ?_)
   refine toEnd hC ?_
   refine endX_seq ?_
   refine runX_ret ?_
   refine endX_seqR ?_
   refine endX_q ?_
   obtain rfl := Option.some.inj h
   show RetW _ _ _ _ _
   simp only [RetW]
   (try simp -implicitDefEqProofs (maxSteps := 4000000) (disch := first | omega | decide | (simp only [go_sem]; omega)) only [go_sem, ↓reduceIte])
   (try simp (disch := omega) only [if_pos, Nat.sub_zero])
   exact leT_refl _
  ·refine guardK_T c2 ?_
   obtain ⟨v3, h3, h⟩ := bnd_some h
   try simp -implicitDefEqProofs (maxSteps := 4000000) (disch := first | omega | decide | (simp only [go_sem]; omega)) only [go_sem, ↓reduceIte]
   repeat (with_reducible refine And.intro (by first | assumption | omega | (simp; done) | (simp; omega)) ?_)
   refine callG_X (by first | rfl | (simp only [go_sem]; done) | (simp only [closedL, closedT, Bool.and_true]; exact closedL_map _ (fun _ => by first | rfl | (simp only [go_sem]; done)) _)) (F45_ok n v1.1 _ h3) (by repeat (first | exact leL_refl _ | refine leL_cons (by first | exact leT_refl _ | exact leT_virt | exact leT_junk _ | exact leT_sl | exact leT_sln | exact leT_nil | (refine leT_agg (by repeat (first | exact leL_refl _ | refine leL_cons (by first | exact leT_refl _ | exact leT_sl | exact leT_sln | exact leT_nil) ?_)))) ?_)) ?_
   try simp -implicitDefEqProofs (maxSteps := 4000000) (disch := first | omega | decide | (simp only [go_sem]; omega)) only [go_sem, ↓reduceIte]
   repeat (with_reducible refine And.intro (by first | assumption | omega | (simp; done) | (simp; omega)) ?_)
   rcases iteB_some h with ⟨c4, h⟩ | ⟨c4, h⟩
   ·refine guardK_F c4 ?_
    try simp -implicitDefEqProofs (maxSteps := 4000000) (disch := first | omega | decide | (simp only [go_sem]; omega)) only [go_sem, ↓reduceIte]
    repeat (with_reducible refine And.intro (by first | assumption | omega | (simp; done) | (simp; omega)) ?_)
    refine toEnd hC ?_
    refine endX_seq ?_
    refine runX_condT rfl rfl ?_
    refine runX_seq ?_
    refine runX_regionC fun C hC => ?_
    simp only [runK_region, runK_draw, liteL, liteL2, dstsL, gL, List.getD_cons_zero, List.getD_cons_succ]
    try simp -implicitDefEqProofs (maxSteps := 4000000) (disch := first | omega | decide | (simp only [go_sem]; omega)) only [go_sem, ↓reduceIte]
    repeat (with_reducible refine And.intro (by first | assumption | omega | (simp; done) | (simp; omega)) ?_)
    refine bldG_of [.imm (.string (bs [])), .imm (.string (bs []))] (by kernel_rfl) ?_
    try simp -implicitDefEqProofs (maxSteps := 4000000) (disch := first | omega | decide | (simp only [go_sem]; omega)) only [go_sem, ↓reduceIte]
    repeat (with_reducible refine And.intro (by first | assumption | omega | (simp; done) | (simp; omega)) ?_)
    refine toEnd hC ?_
    refine endX_seq ?_
    refine runX_ret ?_
    refine endX_seqR ?_
    refine endX_q ?_
    obtain rfl := Option.some.inj h
    show RetW _ _ _ _ _
    simp only [RetW]
    (try simp -implicitDefEqProofs (maxSteps := 4000000) (disch := first | omega | decide | (simp only [go_sem]; omega)) only [go_sem, ↓reduceIte])
    (try simp (disch := omega) only [if_pos, Nat.sub_zero])
    exact leT_refl _
   ·refine guardK_T c4 ?_
    obtain ⟨v5, h5, h⟩ := bnd_some h
    try simp -implicitDefEqProofs (maxSteps := 4000000) (disch := first | omega | decide | (simp only [go_sem]; omega)) only [go_sem, ↓reduceIte]
    repeat (with_reducible refine And.intro (by first | assumption | omega | (simp; done) | (simp; omega)) ?_)
    refine callG_X (by first | rfl | (simp only [go_sem]; done) | (simp only [closedL, closedT, Bool.and_true]; exact closedL_map _ (fun _ => by first | rfl | (simp only [go_sem]; done)) _)) (F46_ok n v1.2.1 _ h5) (by repeat (first | exact leL_refl _ | refine leL_cons (by first | exact leT_refl _ | exact leT_virt | exact leT_junk _ | exact leT_sl | exact leT_sln | exact leT_nil | (refine leT_agg (by repeat (first | exact leL_refl _ | refine leL_cons (by first | exact leT_refl _ | exact leT_sl | exact leT_sln | exact leT_nil) ?_)))) ?_)) ?_
    try simp -implicitDefEqProofs (maxSteps := 4000000) (disch := first | omega | decide | (simp only [go_sem]; omega)) only [go_sem, ↓reduceIte]
    repeat (with_reducible refine And.intro (by first | assumption | omega | (simp; done) | (simp; omega)) ?_)
    refine toEnd hC ?_
    refine endX_seq ?_
    rcases iteB_some h with ⟨c6, h⟩ | ⟨c6, h⟩
    ·refine runX_condT rfl c6 ?_
     refine runX_seq ?_
     refine runX_regionC fun C hC => ?_
     simp only [runK_region, runK_draw, liteL, liteL2, dstsL, gL, List.getD_cons_zero, List.getD_cons_succ]
     try simp -implicitDefEqProofs (maxSteps := 4000000) (disch := first | omega | decide | (simp only [go_sem]; omega)) only [go_sem, ↓reduceIte]
     repeat (with_reducible refine And.intro (by first | assumption | omega | (simp; done) | (simp; omega)) ?_)
     refine bldG_of [.imm (.string (bs [])), .imm (.string (bs []))] (by kernel_rfl) ?_
     try simp -implicitDefEqProofs (maxSteps := 4000000) (disch := first | omega | decide | (simp only [go_sem]; omega)) only [go_sem, ↓reduceIte]
     repeat (with_reducible refine And.intro (by first | assumption | omega | (simp; done) | (simp; omega)) ?_)
     refine toEnd hC ?_
     refine endX_seq ?_
     refine runX_ret ?_
     refine endX_seqR ?_
     refine endX_q ?_
     obtain rfl := Option.some.inj h
     show RetW _ _ _ _ _
     simp only [RetW]
     (try simp -implicitDefEqProofs (maxSteps := 4000000) (disch := first | omega | decide | (simp only [go_sem]; omega)) only [go_sem, ↓reduceIte])
     (try simp (disch := omega) only [if_pos, Nat.sub_zero])
     exact leT_refl _
    ·refine runX_condF rfl c6 ?_
     refine runX_skip ?_
     refine endX_seq ?_
     refine runX_seq ?_
     refine runX_regionC fun C hC => ?_
     obtain ⟨v7, h7, h⟩ := bnd_some h
     try simp -implicitDefEqProofs (maxSteps := 4000000) (disch := first | omega | decide | (simp only [go_sem]; omega)) only [go_sem, ↓reduceIte]
     repeat (with_reducible refine And.intro (by first | assumption | omega | (simp; done) | (simp; omega)) ?_)
     refine callG_X (by first | rfl | (simp only [go_sem]; done) | (simp only [closedL, closedT, Bool.and_true]; exact closedL_map _ (fun _ => by first | rfl | (simp only [go_sem]; done)) _)) (F47_ok n v1.2.1 ([32, 9] : List UInt8) _ h7) (by repeat (first | exact leL_refl _ | refine leL_cons (by first | exact leT_refl _ | exact leT_virt | exact leT_junk _ | exact leT_sl | exact leT_sln | exact leT_nil | (refine leT_agg (by repeat (first | exact leL_refl _ | refine leL_cons (by first | exact leT_refl _ | exact leT_sl | exact leT_sln | exact leT_nil) ?_)))) ?_)) ?_
     try simp -implicitDefEqProofs (maxSteps := 4000000) (disch := first | omega | decide | (simp only [go_sem]; omega)) only [go_sem, ↓reduceIte]
     repeat (with_reducible refine And.intro (by first | assumption | omega | (simp; done) | (simp; omega)) ?_)
     refine bldG_of [.imm (.string (bs v1.1)), .imm (.string (bs v7))] (by kernel_rfl) ?_
     try simp -implicitDefEqProofs (maxSteps := 4000000) (disch := first | omega | decide | (simp only [go_sem]; omega)) only [go_sem, ↓reduceIte]
     repeat (with_reducible refine And.intro (by first | assumption | omega | (simp; done) | (simp; omega)) ?_)
     refine toEnd hC ?_
     refine endX_seq ?_
     refine runX_ret ?_
     refine endX_q ?_
     obtain rfl := Option.some.inj h
     show RetW _ _ _ _ _
     simp only [RetW]
     (try simp -implicitDefEqProofs (maxSteps := 4000000) (disch := first | omega | decide | (simp only [go_sem]; omega)) only [go_sem, ↓reduceIte])
     (try simp (disch := omega) only [if_pos, Nat.sub_zero])
     exact leT_refl _
end Go.Proofs.YtdjgldjebcoihaaDoorX

set_option linter.unusedVariables false
set_option linter.unusedSimpArgs false
namespace Go.Proofs.YtdjgldjebcoihaaDoorX
open Go Go.RowKit Go.Proofs
set_option maxRecDepth 100000
/-! ### strings.EqualFold: by the shelf, of signs below 128 -/
open Go.Shelf
def Tryd.lay164_ren : Go.Shelf.Ren := ⟨fun | 164 => 28 | 197 => 48 | 239 => 49 | 260 => 69 | 274 => 70 | 275 => 71 | n => n, fun | 9 => 9 | 4 => 4 | 3 => 3 | 5 => 5 | 0 => 0 | 21 => 21 | 105 => 85 | 156 => 107 | 49 => 106 | 157 => 108 | 46 => 77 | 159 => 110 | 162 => 113 | 160 => 111 | 119 => 121 | 139 => 124 | 138 => 123 | 208 => 128 | 51 => 91 | 206 => 126 | n => n, fun | 11 => 1 | 12 => 2 | 13 => 3 | 3 => 4 | 4 => 5 | n => n⟩
theorem Tryd.lay164 : Go.Proofs.Lays.n164 Tryd.prog Tryd.lay164_ren := {
 mixed := by kernel_rfl,
 f164 := Tryd.func28.trans (congrArg some (by kernel_rfl)),
 f197 := Tryd.func48.trans (congrArg some (by kernel_rfl)),
 f239 := Tryd.func49.trans (congrArg some (by kernel_rfl)),
 f260 := Tryd.func69.trans (congrArg some (by kernel_rfl)),
 f274 := Tryd.func70.trans (congrArg some (by kernel_rfl)),
 f275 := Tryd.func71.trans (congrArg some (by kernel_rfl)),
 t0 := Tryd.underlying0,
 a0 := Tryd.isAgg0,
 z0 := Tryd.sizeOf0,
 v0 := Tryd.zeroValue0,
 t3 := Tryd.underlying3,
 a3 := Tryd.isAgg3,
 z3 := Tryd.sizeOf3,
 v3 := Tryd.zeroValue3,
 t4 := Tryd.underlying4,
 a4 := Tryd.isAgg4,
 z4 := Tryd.sizeOf4,
 v4 := Tryd.zeroValue4,
 t5 := Tryd.underlying5,
 a5 := Tryd.isAgg5,
 z5 := Tryd.sizeOf5,
 v5 := Tryd.zeroValue5,
 t9 := Tryd.underlying9,
 a9 := Tryd.isAgg9,
 z9 := Tryd.sizeOf9,
 v9 := Tryd.zeroValue9,
 t21 := Tryd.underlying21,
 a21 := Tryd.isAgg21,
 z21 := Tryd.sizeOf21,
 v21 := Tryd.zeroValue21,
 t46 := Tryd.underlying77,
 a46 := Tryd.isAgg77,
 z46 := Tryd.sizeOf77,
 v46 := Tryd.zeroValue77,
 t49 := Tryd.underlying106,
 a49 := Tryd.isAgg106,
 z49 := Tryd.sizeOf106,
 v49 := Tryd.zeroValue106,
 t51 := Tryd.underlying91,
 a51 := Tryd.isAgg91,
 z51 := Tryd.sizeOf91,
 v51 := Tryd.zeroValue91,
 t105 := Tryd.underlying85,
 a105 := Tryd.isAgg85,
 z105 := Tryd.sizeOf85,
 v105 := Tryd.zeroValue85,
 t119 := Tryd.underlying121,
 a119 := Tryd.isAgg121,
 z119 := Tryd.sizeOf121,
 t138 := Tryd.underlying123,
 a138 := Tryd.isAgg123,
 z138 := Tryd.sizeOf123,
 v138 := Tryd.zeroValue123,
 t139 := Tryd.underlying124,
 a139 := Tryd.isAgg124,
 z139 := Tryd.sizeOf124,
 v139 := Tryd.zeroValue124,
 t156 := Tryd.underlying107,
 a156 := Tryd.isAgg107,
 z156 := Tryd.sizeOf107,
 t157 := Tryd.underlying108,
 a157 := Tryd.isAgg108,
 z157 := Tryd.sizeOf108,
 v157 := Tryd.zeroValue108,
 t159 := Tryd.underlying110,
 a159 := Tryd.isAgg110,
 z159 := Tryd.sizeOf110,
 v159 := Tryd.zeroValue110,
 t160 := Tryd.underlying111,
 a160 := Tryd.isAgg111,
 z160 := Tryd.sizeOf111,
 v160 := Tryd.zeroValue111,
 t162 := Tryd.underlying113,
 a162 := Tryd.isAgg113,
 z162 := Tryd.sizeOf113,
 v162 := Tryd.zeroValue113,
 t206 := Tryd.underlying126,
 a206 := Tryd.isAgg126,
 z206 := Tryd.sizeOf126,
 v206 := Tryd.zeroValue126,
 t208 := Tryd.underlying128,
 a208 := Tryd.isAgg128,
 z208 := Tryd.sizeOf128,
 v208 := Tryd.zeroValue128,
 g3 := by kernel_rfl,
 g4 := by kernel_rfl,
 g11 := by kernel_rfl,
 g12 := by kernel_rfl,
 g13 := by kernel_rfl }
theorem fold_ascii {s : List UInt8} (h : (s.all fun b => decide (b.toNat < 128)) = true) : ∀ (j : Nat) b, (bs s).data.toList[j]? = some b → b.toNat < 128 := by
 intro j b hj
 have hm : b ∈ s := List.mem_of_getElem? (l := s) (i := j) hj
 have := List.all_eq_true.1 h b hm
 exact of_decide_eq_true this
def F28 (n : Nat) (a0 : List UInt8) (a1 : List UInt8) : Option Bool :=
 if a0.length < 4294967281 ∧ (a0.all fun b => decide (b.toNat < 128)) = true ∧ (a1.all fun b => decide (b.toNat < 128)) = true then some (Lib.equalFold a0 a1) else none
theorem F28_ok (n : Nat) (a0 : List UInt8) (a1 : List UInt8) (r : Bool) (h : F28 n a0 a1 = some r) : FnC Tryd.prog 28 [.imm (.string (bs a0)), .imm (.string (bs a1))] (.imm (.bool r)) := by
 unfold F28 at h
 split at h
 case isFalse => cases h
 rename_i hh
 obtain ⟨h1, h2, h3⟩ := hh
 obtain rfl := Option.some.inj h
 refine ⟨⟨Tryd.f28, Tryd.func28, by kernel_rfl, rfl⟩, fun w ban vs hban hgi hv => ?_⟩
 have e : vs = #[.string (bs a0), .string (bs a1)] := by
  obtain ⟨l⟩ := vs
  simp only [RepL, Rep] at hv
  obtain ⟨u, us, h1, h2, v, vs', h3, h4, h5⟩ := hv
  simp_all
 rw [e]
 have hf : Tryd.lay164_ren.f 164 = 28 := by kernel_rfl
 have hc := Any.strings_EqualFold Tryd.lay164 (bs a0) (bs a1) w (by rw [bs_size]; exact h1) (fold_ascii h2) (fold_ascii h3)
 rw [hf] at hc
 refine hc.mono ?_
 rintro e w' ⟨rfl, rfl⟩
 exact ⟨_, rfl, Below.refl _ _, by simp only [Rep]; exact ⟨rfl, rfl⟩⟩
end Go.Proofs.YtdjgldjebcoihaaDoorX

set_option linter.unusedVariables false
set_option linter.unusedSimpArgs false
namespace Go.Proofs.YtdjgldjebcoihaaDoorX
open Go Go.RowKit Go.Proofs
set_option maxRecDepth 100000
attribute [local go_sem ↓] stepsK_build stepsK_bs appendS
attribute [local go_sem] String.reduceEq String.reduceNe reduceCtorEq Int.reduceEq Nat.reduceAdd Nat.reduceSub Nat.reduceMul Nat.reduceLT Nat.reduceLeDiff Nat.reduceEqDiff Nat.reduceBEq Int.reduceToNat Int.reduceLT Int.reduceLE Int.reduceGT Int.reduceGE Int.reduceAdd Int.reduceSub Int.reduceMul Int.reduceNeg Int.reduceBEq Int.reduceBNe Int.reducePow Int.reduceDiv Int.reduceMod Int.reduceTDiv Int.reduceTMod Int.reduceNatCast
/-! ### reply.right$1 -/
def F26 (n : Nat) (a0 : (List UInt8) × (List UInt8)) : Option (Bool) := grd (a0.1.length + 1 ≤ 9223372036854775807) (grd ((a0.1.length + 1) + a0.2.length ≤ 9223372036854775807) ((F27 n ((a0.1 ++ ([58] : List UInt8)) ++ a0.2)).bind fun v3 => iteB (!v3.2) (some true) (iteB (!((v3.1.1 == a0.1) && (v3.1.2 == a0.2))) (some true) ((F28 n a0.1 ([67, 111, 110, 116, 101, 110, 116, 45, 76, 101, 110, 103, 116, 104] : List UInt8)).bind fun v6 => some v6))))
set_option maxHeartbeats 4000000 in
theorem F26_ok : ∀ (n : Nat) (a0 : (List UInt8) × (List UInt8)) (r : Bool), F26 n a0 = some r → FnC Tryd.prog 26 [.agg [.imm (.string (bs a0.1)), .imm (.string (bs a0.2))]] (.imm (.bool r))
 | n, a0, r, h => by
  unfold F26 at h
  refine FnC.goX mixed Tryd.func26 (by kernel_rfl) rfl ?_
  simp only [Tryd.ntmps26, List.length_cons, List.length_nil, List.replicate, List.cons_append, List.nil_append, Nat.reduceAdd, Nat.reduceSub]
  refine runX_seq ?_
  refine runX_regionC fun C hC => ?_
  try simp -implicitDefEqProofs (maxSteps := 4000000) (disch := first | omega | decide | (simp only [go_sem]; omega)) only [go_sem, ↓reduceIte]
  repeat (with_reducible refine And.intro (by first | assumption | omega | (simp; done) | (simp; omega)) ?_)
  refine toEnd hC ?_
  refine endX_seq ?_
  refine runX_seq ?_
  refine runX_regionC fun C hC => ?_
  obtain ⟨g1, h⟩ := grd_some h
  obtain ⟨g2, h⟩ := grd_some h
  obtain ⟨v3, h3, h⟩ := bnd_some h
  try simp -implicitDefEqProofs (maxSteps := 4000000) (disch := first | omega | decide | (simp only [go_sem]; omega)) only [go_sem, ↓reduceIte]
  repeat (with_reducible refine And.intro (by first | assumption | omega | (simp; done) | (simp; omega)) ?_)
  refine callG_X (by first | rfl | (simp only [go_sem]; done) | (simp only [closedL, closedT, Bool.and_true]; exact closedL_map _ (fun _ => by first | rfl | (simp only [go_sem]; done)) _)) (F27_ok n ((a0.1 ++ ([58] : List UInt8)) ++ a0.2) _ h3) (by repeat (first | exact leL_refl _ | refine leL_cons (by first | exact leT_refl _ | exact leT_virt | exact leT_junk _ | exact leT_sl | exact leT_sln | exact leT_nil | (refine leT_agg (by repeat (first | exact leL_refl _ | refine leL_cons (by first | exact leT_refl _ | exact leT_sl | exact leT_sln | exact leT_nil) ?_)))) ?_)) ?_
  try simp -implicitDefEqProofs (maxSteps := 4000000) (disch := first | omega | decide | (simp only [go_sem]; omega)) only [go_sem, ↓reduceIte]
  repeat (with_reducible refine And.intro (by first | assumption | omega | (simp; done) | (simp; omega)) ?_)
  refine toEnd hC ?_
  refine endX_seq ?_
  refine runX_seq ?_
  refine runX_regionC fun C hC => ?_
  try simp -implicitDefEqProofs (maxSteps := 4000000) (disch := first | omega | decide | (simp only [go_sem]; omega)) only [go_sem, ↓reduceIte]
  repeat (with_reducible refine And.intro (by first | assumption | omega | (simp; done) | (simp; omega)) ?_)
  rcases iteB_some h with ⟨c4, h⟩ | ⟨c4, h⟩
  ·refine guardK_F c4 ?_
   try simp -implicitDefEqProofs (maxSteps := 4000000) (disch := first | omega | decide | (simp only [go_sem]; omega)) only [go_sem, ↓reduceIte]
   repeat (with_reducible refine And.intro (by first | assumption | omega | (simp; done) | (simp; omega)) ?_)
   refine toEnd hC ?_
   refine endX_seq ?_
   refine runX_ret ?_
   refine endX_q ?_
   obtain rfl := Option.some.inj h
   show RetW _ _ _ _ _
   simp only [RetW]
   (try simp -implicitDefEqProofs (maxSteps := 4000000) (disch := first | omega | decide | (simp only [go_sem]; omega)) only [go_sem, ↓reduceIte])
   (try simp (disch := omega) only [if_pos, Nat.sub_zero])
   exact leT_refl _
  ·refine guardK_T c4 ?_
   try simp -implicitDefEqProofs (maxSteps := 4000000) (disch := first | omega | decide | (simp only [go_sem]; omega)) only [go_sem, ↓reduceIte]
   repeat (with_reducible refine And.intro (by first | assumption | omega | (simp; done) | (simp; omega)) ?_)
   rcases iteB_some h with ⟨c5, h⟩ | ⟨c5, h⟩
   ·refine guardK_F c5 ?_
    try simp -implicitDefEqProofs (maxSteps := 4000000) (disch := first | omega | decide | (simp only [go_sem]; omega)) only [go_sem, ↓reduceIte]
    repeat (with_reducible refine And.intro (by first | assumption | omega | (simp; done) | (simp; omega)) ?_)
    refine toEnd hC ?_
    refine endX_seq ?_
    refine runX_ret ?_
    refine endX_q ?_
    obtain rfl := Option.some.inj h
    show RetW _ _ _ _ _
    simp only [RetW]
    (try simp -implicitDefEqProofs (maxSteps := 4000000) (disch := first | omega | decide | (simp only [go_sem]; omega)) only [go_sem, ↓reduceIte])
    (try simp (disch := omega) only [if_pos, Nat.sub_zero])
    exact leT_refl _
   ·refine guardK_T c5 ?_
    obtain ⟨v6, h6, h⟩ := bnd_some h
    try simp -implicitDefEqProofs (maxSteps := 4000000) (disch := first | omega | decide | (simp only [go_sem]; omega)) only [go_sem, ↓reduceIte]
    repeat (with_reducible refine And.intro (by first | assumption | omega | (simp; done) | (simp; omega)) ?_)
    refine callG_X (by first | rfl | (simp only [go_sem]; done) | (simp only [closedL, closedT, Bool.and_true]; exact closedL_map _ (fun _ => by first | rfl | (simp only [go_sem]; done)) _)) (F28_ok n a0.1 ([67, 111, 110, 116, 101, 110, 116, 45, 76, 101, 110, 103, 116, 104] : List UInt8) _ h6) (by repeat (first | exact leL_refl _ | refine leL_cons (by first | exact leT_refl _ | exact leT_virt | exact leT_junk _ | exact leT_sl | exact leT_sln | exact leT_nil | (refine leT_agg (by repeat (first | exact leL_refl _ | refine leL_cons (by first | exact leT_refl _ | exact leT_sl | exact leT_sln | exact leT_nil) ?_)))) ?_)) ?_
    try simp -implicitDefEqProofs (maxSteps := 4000000) (disch := first | omega | decide | (simp only [go_sem]; omega)) only [go_sem, ↓reduceIte]
    repeat (with_reducible refine And.intro (by first | assumption | omega | (simp; done) | (simp; omega)) ?_)
    refine toEnd hC ?_
    refine endX_seq ?_
    refine runX_ret ?_
    refine endX_q ?_
    obtain rfl := Option.some.inj h
    show RetW _ _ _ _ _
    simp only [RetW]
    (try simp -implicitDefEqProofs (maxSteps := 4000000) (disch := first | omega | decide | (simp only [go_sem]; omega)) only [go_sem, ↓reduceIte])
    (try simp (disch := omega) only [if_pos, Nat.sub_zero])
    exact leT_refl _
end Go.Proofs.YtdjgldjebcoihaaDoorX

set_option linter.unusedVariables false
set_option linter.unusedSimpArgs false
namespace Go.Proofs.YtdjgldjebcoihaaDoorX
open Go Go.RowKit Go.Proofs
set_option maxRecDepth 100000
attribute [local go_sem ↓] stepsK_build stepsK_bs appendS
attribute [local go_sem] String.reduceEq String.reduceNe reduceCtorEq Int.reduceEq Nat.reduceAdd Nat.reduceSub Nat.reduceMul Nat.reduceLT Nat.reduceLeDiff Nat.reduceEqDiff Nat.reduceBEq Int.reduceToNat Int.reduceLT Int.reduceLE Int.reduceGT Int.reduceGE Int.reduceAdd Int.reduceSub Int.reduceMul Int.reduceNeg Int.reduceBEq Int.reduceBNe Int.reducePow Int.reduceDiv Int.reduceMod Int.reduceTDiv Int.reduceTMod Int.reduceNatCast
/-! ### slices.IndexFunc[[]header.Field,header.Field]@reply.right$1 -/
def F27000050_S1 (a0 : List ((List UInt8) × (List UInt8))) (x1 : Int) : St := ⟨[.sl 2 false (List.map eT41 a0), .fn 26 [], .junk, .junk, .junk, .junk, .junk, .imm (.int .i64 (a0.length : Int)), .imm (.int .i64 x1), .junk, .junk, .junk, .junk, .junk, .junk, .junk, .junk, .junk, .junk], []⟩
def F27000050_L1 : Nat → (List ((List UInt8) × (List UInt8))) → (Int) → Option (Int)
 | 0, _, _ => none
 | m1 + 1, a0, x1 => iteB (decide (x1 < (a0.length : Int))) (grd (0 ≤ x1 ∧ x1 < (a0.length : Int)) ((F26 m1 ((a0.getD x1.toNat default).1, (a0.getD x1.toNat default).2)).bind fun v4 => iteB v4 (some x1) (F27000050_L1 m1 a0 (IntKind.wrap .i64 (x1 + (1 : Int)))))) (some (-1 : Int))
def F27000050 (n : Nat) (a0 : List ((List UInt8) × (List UInt8))) : Option (Int) := F27000050_L1 n a0 (0 : Int)
set_option maxHeartbeats 4000000 in
theorem F27000050_ok : ∀ (n : Nat) (a0 : List ((List UInt8) × (List UInt8))) (r : Int), F27000050 n a0 = some r → FnC Tryd.prog 50 [.sl 2 false (List.map eT41 a0), .fn 26 []] (.imm (.int .i64 r))
 | n, a0, r, h => by
  unfold F27000050 at h
  refine FnC.goX mixed Tryd.func50 (by kernel_rfl) rfl ?_
  simp only [Tryd.ntmps50, List.length_cons, List.length_nil, List.replicate, List.cons_append, List.nil_append, Nat.reduceAdd, Nat.reduceSub]
  refine runX_seq ?_
  refine runX_regionC fun C hC => ?_
  try simp -implicitDefEqProofs (maxSteps := 4000000) (disch := first | omega | decide | (simp only [go_sem]; omega)) only [go_sem, ↓reduceIte]
  repeat (with_reducible refine And.intro (by first | assumption | omega | (simp; done) | (simp; omega)) ?_)
  refine toEnd hC ?_
  refine endX_seq ?_
  refine runX_seq ?_
  refine runX_seq ?_
  refine runX_regionC fun C hC => ?_
  try simp -implicitDefEqProofs (maxSteps := 4000000) (disch := first | omega | decide | (simp only [go_sem]; omega)) only [go_sem, ↓reduceIte]
  repeat (with_reducible refine And.intro (by first | assumption | omega | (simp; done) | (simp; omega)) ?_)
  refine toEnd hC ?_
  refine endX_seq ?_
  refine runX_block ?_
  refine runX_loop [0, 1, 7, 8] (fun m S => ∃ (x1 : Int), S = F27000050_S1 a0 x1 ∧ m ≤ n ∧ F27000050_L1 m a0 x1 = some r) n ⟨F27000050_S1 a0 (0 : Int), ?_, (0 : Int), rfl, Nat.le_refl _, h⟩ ?_
  ·simp only [F27000050_S1]
   (try simp -implicitDefEqProofs (maxSteps := 4000000) (disch := first | omega | decide | (simp only [go_sem]; omega)) only [go_sem, ↓reduceIte])
   first | exact leS_refl _ | (refine leS_le ?_ ?_ <;> first | exact leL_refl _ | exact leOs_refl _ | (simp only [List.append_assoc, List.cons_append, List.nil_append]; exact leOs_refl _) | (refine leOs.cons (by first | exact leO.same _ | (refine leO.box (leT_agg (by repeat (first | exact leL_refl _ | refine leL_cons (by first | exact leT_refl _ | exact leT_virt | exact leT_junk _ | exact leT_sl | exact leT_sln | exact leT_nil | (refine leT_agg (by repeat (first | exact leL_refl _ | refine leL_cons (by first | exact leT_refl _ | exact leT_sl | exact leT_sln | exact leT_nil) ?_)))) ?_))) rfl) | (refine leO.box (by first | exact leT_virt | exact leT_sl | exact leT_sln) rfl)) ?_; repeat (first | exact leOs_refl _ | refine leOs.cons (by first | exact leO.same _ | (refine leO.box (leT_agg (by repeat (first | exact leL_refl _ | refine leL_cons (by first | exact leT_refl _ | exact leT_virt | exact leT_junk _ | exact leT_sl | exact leT_sln | exact leT_nil | (refine leT_agg (by repeat (first | exact leL_refl _ | refine leL_cons (by first | exact leT_refl _ | exact leT_sl | exact leT_sln | exact leT_nil) ?_)))) ?_))) rfl) | (refine leO.box (by first | exact leT_virt | exact leT_sl | exact leT_sln) rfl)) ?_)) | (repeat (first | exact leL_refl _ | refine leL_cons (by first | exact leT_refl _ | exact leT_virt | exact leT_junk _ | exact leT_sl | exact leT_sln | exact leT_nil | (refine leT_agg (by repeat (first | exact leL_refl _ | refine leL_cons (by first | exact leT_refl _ | exact leT_sl | exact leT_sln | exact leT_nil) ?_)))) ?_)))
  ·clear h
   rintro m1 S ⟨x1, rfl, hm1, h⟩
   cases m1 with
   | zero => first | cases (show (none : Option _) = some _ from h) | (rw [F27000050_L1] at h; cases h)
   | succ m1 =>
    rw [F27000050_L1] at h
    simp only [F27000050_S1]
    refine runX_seq ?_
    refine runX_regionC fun C hC => ?_
    try simp -implicitDefEqProofs (maxSteps := 4000000) (disch := first | omega | decide | (simp only [go_sem]; omega)) only [go_sem, ↓reduceIte]
    repeat (with_reducible refine And.intro (by first | assumption | omega | (simp; done) | (simp; omega)) ?_)
    refine toEnd hC ?_
    refine endX_seq ?_
    refine runX_seq ?_
    rcases iteB_some h with ⟨c2, h⟩ | ⟨c2, h⟩
    ·refine runX_condT rfl c2 ?_
     refine runX_skip ?_
     refine endX_seq ?_
     refine runX_seq ?_
     refine runX_block ?_
     refine runX_seq ?_
     refine runX_regionC fun C hC => ?_
     try simp -implicitDefEqProofs (maxSteps := 4000000) (disch := first | omega | decide | (simp only [go_sem]; omega)) only [go_sem, ↓reduceIte]
     repeat (with_reducible refine And.intro (by first | assumption | omega | (simp; done) | (simp; omega)) ?_)
     refine toEnd hC ?_
     refine endX_seq ?_
     refine runX_seq ?_
     refine runX_regionC fun C hC => ?_
     obtain ⟨g3, h⟩ := grd_some h
     obtain ⟨v4, h4, h⟩ := bnd_some h
     try simp -implicitDefEqProofs (maxSteps := 4000000) (disch := first | omega | decide | (simp only [go_sem]; omega)) only [go_sem, ↓reduceIte]
     repeat (with_reducible refine And.intro (by first | assumption | omega | (simp; done) | (simp; omega)) ?_)
     refine callG_X (by first | rfl | (simp only [go_sem]; done) | (simp only [closedL, closedT, Bool.and_true]; exact closedL_map _ (fun _ => by first | rfl | (simp only [go_sem]; done)) _)) (F26_ok m1 ((a0.getD x1.toNat default).1, (a0.getD x1.toNat default).2) _ h4) (by repeat (first | exact leL_refl _ | refine leL_cons (by first | exact leT_refl _ | exact leT_virt | exact leT_junk _ | exact leT_sl | exact leT_sln | exact leT_nil | (refine leT_agg (by repeat (first | exact leL_refl _ | refine leL_cons (by first | exact leT_refl _ | exact leT_sl | exact leT_sln | exact leT_nil) ?_)))) ?_)) ?_
     try simp -implicitDefEqProofs (maxSteps := 4000000) (disch := first | omega | decide | (simp only [go_sem]; omega)) only [go_sem, ↓reduceIte]
     repeat (with_reducible refine And.intro (by first | assumption | omega | (simp; done) | (simp; omega)) ?_)
     refine toEnd hC ?_
     refine endX_seq ?_
     rcases iteB_some h with ⟨c5, h⟩ | ⟨c5, h⟩
     ·refine runX_condT rfl c5 ?_
      refine runX_seq ?_
      refine runX_regionC fun C hC => ?_
      try simp -implicitDefEqProofs (maxSteps := 4000000) (disch := first | omega | decide | (simp only [go_sem]; omega)) only [go_sem, ↓reduceIte]
      repeat (with_reducible refine And.intro (by first | assumption | omega | (simp; done) | (simp; omega)) ?_)
      refine toEnd hC ?_
      refine endX_seq ?_
      refine runX_ret ?_
      refine endX_blkR ?_
      refine endX_seqR ?_
      refine endX_q (roundQ_ret ?_)
      refine endX_blkR ?_
      refine endX_seqR ?_
      refine endX_q ?_
      obtain rfl := Option.some.inj h
      show RetW _ _ _ _ _
      simp only [RetW]
      (try simp -implicitDefEqProofs (maxSteps := 4000000) (disch := first | omega | decide | (simp only [go_sem]; omega)) only [go_sem, ↓reduceIte])
      (try simp (disch := omega) only [if_pos, Nat.sub_zero])
      exact leT_refl _
     ·refine runX_condF rfl c5 ?_
      refine runX_skip ?_
      refine endX_blk ?_
      refine endX_seq ?_
      refine runX_regionC fun C hC => ?_
      try simp -implicitDefEqProofs (maxSteps := 4000000) (disch := first | omega | decide | (simp only [go_sem]; omega)) only [go_sem, ↓reduceIte]
      repeat (with_reducible refine And.intro (by first | assumption | omega | (simp; done) | (simp; omega)) ?_)
      refine toEnd hC ?_
      refine endX_q (roundQ_normal ⟨m1, by omega, F27000050_S1 a0 (IntKind.wrap .i64 (x1 + (1 : Int))), ?_, (IntKind.wrap .i64 (x1 + (1 : Int))), rfl, by omega, h⟩)
      simp only [F27000050_S1]
      (try simp -implicitDefEqProofs (maxSteps := 4000000) (disch := first | omega | decide | (simp only [go_sem]; omega)) only [go_sem, ↓reduceIte])
      first | exact leS_refl _ | (refine leS_le ?_ ?_ <;> first | exact leL_refl _ | exact leOs_refl _ | (simp only [List.append_assoc, List.cons_append, List.nil_append]; exact leOs_refl _) | (refine leOs.cons (by first | exact leO.same _ | (refine leO.box (leT_agg (by repeat (first | exact leL_refl _ | refine leL_cons (by first | exact leT_refl _ | exact leT_virt | exact leT_junk _ | exact leT_sl | exact leT_sln | exact leT_nil | (refine leT_agg (by repeat (first | exact leL_refl _ | refine leL_cons (by first | exact leT_refl _ | exact leT_sl | exact leT_sln | exact leT_nil) ?_)))) ?_))) rfl) | (refine leO.box (by first | exact leT_virt | exact leT_sl | exact leT_sln) rfl)) ?_; repeat (first | exact leOs_refl _ | refine leOs.cons (by first | exact leO.same _ | (refine leO.box (leT_agg (by repeat (first | exact leL_refl _ | refine leL_cons (by first | exact leT_refl _ | exact leT_virt | exact leT_junk _ | exact leT_sl | exact leT_sln | exact leT_nil | (refine leT_agg (by repeat (first | exact leL_refl _ | refine leL_cons (by first | exact leT_refl _ | exact leT_sl | exact leT_sln | exact leT_nil) ?_)))) ?_))) rfl) | (refine leO.box (by first | exact leT_virt | exact leT_sl | exact leT_sln) rfl)) ?_)) | (repeat (first | exact leL_refl _ | refine leL_cons (by first | exact leT_refl _ | exact leT_virt | exact leT_junk _ | exact leT_sl | exact leT_sln | exact leT_nil | (refine leT_agg (by repeat (first | exact leL_refl _ | refine leL_cons (by first | exact leT_refl _ | exact leT_sl | exact leT_sln | exact leT_nil) ?_)))) ?_)))
    ·refine runX_condF rfl c2 ?_
     refine runX_exit ?_
     refine endX_seqE ?_
     refine endX_q (roundQ_exit ?_)
     refine endX_blkE ?_
     refine endX_seq ?_
     refine runX_seq ?_
     refine runX_regionC fun C hC => ?_
     try simp -implicitDefEqProofs (maxSteps := 4000000) (disch := first | omega | decide | (simp only [go_sem]; omega)) only [go_sem, ↓reduceIte]
     repeat (with_reducible refine And.intro (by first | assumption | omega | (simp; done) | (simp; omega)) ?_)
     refine toEnd hC ?_
     refine endX_seq ?_
     refine runX_ret ?_
     refine endX_q ?_
     obtain rfl := Option.some.inj h
     show RetW _ _ _ _ _
     simp only [RetW]
     (try simp -implicitDefEqProofs (maxSteps := 4000000) (disch := first | omega | decide | (simp only [go_sem]; omega)) only [go_sem, ↓reduceIte])
     (try simp (disch := omega) only [if_pos, Nat.sub_zero])
     exact leT_refl _
end Go.Proofs.YtdjgldjebcoihaaDoorX

set_option linter.unusedVariables false
set_option linter.unusedSimpArgs false
namespace Go.Proofs.YtdjgldjebcoihaaDoorX
open Go Go.RowKit Go.Proofs
set_option maxRecDepth 100000
attribute [local go_sem ↓] stepsK_build stepsK_bs appendS
attribute [local go_sem] String.reduceEq String.reduceNe reduceCtorEq Int.reduceEq Nat.reduceAdd Nat.reduceSub Nat.reduceMul Nat.reduceLT Nat.reduceLeDiff Nat.reduceEqDiff Nat.reduceBEq Int.reduceToNat Int.reduceLT Int.reduceLE Int.reduceGT Int.reduceGE Int.reduceAdd Int.reduceSub Int.reduceMul Int.reduceNeg Int.reduceBEq Int.reduceBNe Int.reducePow Int.reduceDiv Int.reduceMod Int.reduceTDiv Int.reduceTMod Int.reduceNatCast
/-! ### slices.ContainsFunc[[]header.Field,header.Field]@reply.right$1 -/
def F27000029 (n : Nat) (a0 : List ((List UInt8) × (List UInt8))) : Option (Bool) := (F27000050 n a0).bind fun v1 => some (decide ((0 : Int) ≤ v1))
set_option maxHeartbeats 4000000 in
theorem F27000029_ok : ∀ (n : Nat) (a0 : List ((List UInt8) × (List UInt8))) (r : Bool), F27000029 n a0 = some r → FnC Tryd.prog 29 [.sl 2 false (List.map eT41 a0), .fn 26 []] (.imm (.bool r))
 | n, a0, r, h => by
  unfold F27000029 at h
  refine FnC.goX mixed Tryd.func29 (by kernel_rfl) rfl ?_
  simp only [Tryd.ntmps29, List.length_cons, List.length_nil, List.replicate, List.cons_append, List.nil_append, Nat.reduceAdd, Nat.reduceSub]
  refine runX_seq ?_
  refine runX_regionC fun C hC => ?_
  try simp -implicitDefEqProofs (maxSteps := 4000000) (disch := first | omega | decide | (simp only [go_sem]; omega)) only [go_sem, ↓reduceIte]
  repeat (with_reducible refine And.intro (by first | assumption | omega | (simp; done) | (simp; omega)) ?_)
  refine toEnd hC ?_
  refine endX_seq ?_
  refine runX_seq ?_
  refine runX_regionC fun C hC => ?_
  obtain ⟨v1, h1, h⟩ := bnd_some h
  try simp -implicitDefEqProofs (maxSteps := 4000000) (disch := first | omega | decide | (simp only [go_sem]; omega)) only [go_sem, ↓reduceIte]
  repeat (with_reducible refine And.intro (by first | assumption | omega | (simp; done) | (simp; omega)) ?_)
  refine callG_X (by first | rfl | (simp only [go_sem]; done) | (simp only [closedL, closedT, Bool.and_true]; exact closedL_map _ (fun _ => by first | rfl | (simp only [go_sem]; done)) _)) (F27000050_ok n a0 _ h1) (by repeat (first | exact leL_refl _ | refine leL_cons (by first | exact leT_refl _ | exact leT_virt | exact leT_junk _ | exact leT_sl | exact leT_sln | exact leT_nil | (refine leT_agg (by repeat (first | exact leL_refl _ | refine leL_cons (by first | exact leT_refl _ | exact leT_sl | exact leT_sln | exact leT_nil) ?_)))) ?_)) ?_
  try simp -implicitDefEqProofs (maxSteps := 4000000) (disch := first | omega | decide | (simp only [go_sem]; omega)) only [go_sem, ↓reduceIte]
  repeat (with_reducible refine And.intro (by first | assumption | omega | (simp; done) | (simp; omega)) ?_)
  refine toEnd hC ?_
  refine endX_seq ?_
  refine runX_ret ?_
  refine endX_q ?_
  obtain rfl := Option.some.inj h
  show RetW _ _ _ _ _
  simp only [RetW]
  (try simp -implicitDefEqProofs (maxSteps := 4000000) (disch := first | omega | decide | (simp only [go_sem]; omega)) only [go_sem, ↓reduceIte])
  (try simp (disch := omega) only [if_pos, Nat.sub_zero])
  exact leT_refl _
end Go.Proofs.YtdjgldjebcoihaaDoorX

set_option linter.unusedVariables false
set_option linter.unusedSimpArgs false
namespace Go.Proofs.YtdjgldjebcoihaaDoorX
open Go Go.RowKit Go.Proofs
set_option maxRecDepth 100000
attribute [local go_sem ↓] stepsK_build stepsK_bs appendS
attribute [local go_sem] String.reduceEq String.reduceNe reduceCtorEq Int.reduceEq Nat.reduceAdd Nat.reduceSub Nat.reduceMul Nat.reduceLT Nat.reduceLeDiff Nat.reduceEqDiff Nat.reduceBEq Int.reduceToNat Int.reduceLT Int.reduceLE Int.reduceGT Int.reduceGE Int.reduceAdd Int.reduceSub Int.reduceMul Int.reduceNeg Int.reduceBEq Int.reduceBNe Int.reducePow Int.reduceDiv Int.reduceMod Int.reduceTDiv Int.reduceTMod Int.reduceNatCast
/-! ### reply.right -/
def F13 (n : Nat) (a0 : (Int) × (List ((List UInt8) × (List UInt8))) × (List (Int))) : Option (Bool) := (F9 n a0.1).bind fun v1 => iteB (!(v1 == [])) ((F27000029 n a0.2.1).bind fun v3 => some (!v3)) (some false)
set_option maxHeartbeats 4000000 in
theorem F13_ok : ∀ (n : Nat) (a0 : (Int) × (List ((List UInt8) × (List UInt8))) × (List (Int))) (r : Bool), F13 n a0 = some r → FnC Tryd.prog 13 [.agg [.imm (.int .i64 a0.1), .sl 2 false (List.map eT41 a0.2.1), .sl 1 false (List.map byteT a0.2.2)]] (.imm (.bool r))
 | n, a0, r, h => by
  unfold F13 at h
  refine FnC.goX mixed Tryd.func13 (by kernel_rfl) rfl ?_
  simp only [Tryd.ntmps13, List.length_cons, List.length_nil, List.replicate, List.cons_append, List.nil_append, Nat.reduceAdd, Nat.reduceSub]
  refine runX_seq ?_
  refine runX_regionC fun C hC => ?_
  try simp -implicitDefEqProofs (maxSteps := 4000000) (disch := first | omega | decide | (simp only [go_sem]; omega)) only [go_sem, ↓reduceIte]
  repeat (with_reducible refine And.intro (by first | assumption | omega | (simp; done) | (simp; omega)) ?_)
  refine toEnd hC ?_
  refine endX_seq ?_
  refine runX_seq ?_
  refine runX_regionC fun C hC => ?_
  try simp -implicitDefEqProofs (maxSteps := 4000000) (disch := first | omega | decide | (simp only [go_sem]; omega)) only [go_sem, ↓reduceIte]
  repeat (with_reducible refine And.intro (by first | assumption | omega | (simp; done) | (simp; omega)) ?_)
  refine toEnd hC ?_
  refine endX_seq ?_
  refine runX_seq ?_
  refine runX_regionC fun C hC => ?_
  obtain ⟨v1, h1, h⟩ := bnd_some h
  try simp -implicitDefEqProofs (maxSteps := 4000000) (disch := first | omega | decide | (simp only [go_sem]; omega)) only [go_sem, ↓reduceIte]
  repeat (with_reducible refine And.intro (by first | assumption | omega | (simp; done) | (simp; omega)) ?_)
  refine callG_X (by first | rfl | (simp only [go_sem]; done) | (simp only [closedL, closedT, Bool.and_true]; exact closedL_map _ (fun _ => by first | rfl | (simp only [go_sem]; done)) _)) (F9_ok n a0.1 _ h1) (by repeat (first | exact leL_refl _ | refine leL_cons (by first | exact leT_refl _ | exact leT_virt | exact leT_junk _ | exact leT_sl | exact leT_sln | exact leT_nil | (refine leT_agg (by repeat (first | exact leL_refl _ | refine leL_cons (by first | exact leT_refl _ | exact leT_sl | exact leT_sln | exact leT_nil) ?_)))) ?_)) ?_
  try simp -implicitDefEqProofs (maxSteps := 4000000) (disch := first | omega | decide | (simp only [go_sem]; omega)) only [go_sem, ↓reduceIte]
  repeat (with_reducible refine And.intro (by first | assumption | omega | (simp; done) | (simp; omega)) ?_)
  rcases iteB_some h with ⟨c2, h⟩ | ⟨c2, h⟩
  ·refine guardK_T c2 ?_
   obtain ⟨v3, h3, h⟩ := bnd_some h
   try simp -implicitDefEqProofs (maxSteps := 4000000) (disch := first | omega | decide | (simp only [go_sem]; omega)) only [go_sem, ↓reduceIte]
   repeat (with_reducible refine And.intro (by first | assumption | omega | (simp; done) | (simp; omega)) ?_)
   refine callG_X (by first | rfl | (simp only [go_sem]; done) | (simp only [closedL, closedT, Bool.and_true]; exact closedL_map _ (fun _ => by first | rfl | (simp only [go_sem]; done)) _)) (F27000029_ok n a0.2.1 _ h3) (by repeat (first | exact leL_refl _ | refine leL_cons (by first | exact leT_refl _ | exact leT_virt | exact leT_junk _ | exact leT_sl | exact leT_sln | exact leT_nil | (refine leT_agg (by repeat (first | exact leL_refl _ | refine leL_cons (by first | exact leT_refl _ | exact leT_sl | exact leT_sln | exact leT_nil) ?_)))) ?_)) ?_
   try simp -implicitDefEqProofs (maxSteps := 4000000) (disch := first | omega | decide | (simp only [go_sem]; omega)) only [go_sem, ↓reduceIte]
   repeat (with_reducible refine And.intro (by first | assumption | omega | (simp; done) | (simp; omega)) ?_)
   refine toEnd hC ?_
   refine endX_seq ?_
   refine runX_ret ?_
   refine endX_q ?_
   obtain rfl := Option.some.inj h
   show RetW _ _ _ _ _
   simp only [RetW]
   (try simp -implicitDefEqProofs (maxSteps := 4000000) (disch := first | omega | decide | (simp only [go_sem]; omega)) only [go_sem, ↓reduceIte])
   (try simp (disch := omega) only [if_pos, Nat.sub_zero])
   exact leT_refl _
  ·refine guardK_F c2 ?_
   try simp -implicitDefEqProofs (maxSteps := 4000000) (disch := first | omega | decide | (simp only [go_sem]; omega)) only [go_sem, ↓reduceIte]
   repeat (with_reducible refine And.intro (by first | assumption | omega | (simp; done) | (simp; omega)) ?_)
   refine toEnd hC ?_
   refine endX_seq ?_
   refine runX_ret ?_
   refine endX_q ?_
   obtain rfl := Option.some.inj h
   show RetW _ _ _ _ _
   simp only [RetW]
   (try simp -implicitDefEqProofs (maxSteps := 4000000) (disch := first | omega | decide | (simp only [go_sem]; omega)) only [go_sem, ↓reduceIte])
   (try simp (disch := omega) only [if_pos, Nat.sub_zero])
   exact leT_refl _
end Go.Proofs.YtdjgldjebcoihaaDoorX

set_option linter.unusedVariables false
set_option linter.unusedSimpArgs false
namespace Go.Proofs.YtdjgldjebcoihaaDoorX
open Go Go.RowKit Go.Proofs
set_option maxRecDepth 100000
/-! ### slices.Clone: a row of its own, of the same elements -/
-- FRESH header.Field
def F14 (n : Nat) (a0 : List (List UInt8 × List UInt8)) : Option (List (List UInt8 × List UInt8)) := if a0.length ≤ 1000000000 then some a0 else none
section
open Go.Lib
set_option maxHeartbeats 2000000 in
set_option maxRecDepth 100000 in
theorem cln14_row (a : Addr) (n c : Nat) (news : List Value) (w : World) (hl : news.length = n * 2) (hn : n ≤ 1000000000) (hc : ∀ j u, news[j]? = some u → w.cell? (a.add j) = some u) (h1 : ∀ u ∈ news, u.oneCell' = true) :
  Calls Tryd.prog 14 #[.slice (some a) n c] w fun e w' => ∃ v', e = .returned v' ∧ w'.ownsRow w.heap.size 42 2 v' n news ∧ Below w.heap.size w w' := by
 have q22 : ∀ (w : World) (a : Option Addr) (n c n' c' : Nat), (binOp .eql 22 (.slice a n c) (.slice none n' c')).run Tryd.prog w = .ok (.bool a.isNone) w := fun w a n c n' c' => Lib.run_eql_slice_nil w _ _ a n c n' c' Tryd.underlying22
 have u22 : ∀ w, Sem.run Tryd.prog (underlying 22) w = .ok (TypeDesc.slice 42) w := fun w => run_underlying Tryd.underlying22
 have z22 := Tryd.sizeOf42
 have A : Aside (∀ j u, news[j]? = some u → w.cell? (a.add j) = some u) := hc
 clear hc
 have hi : Tryd.prog.info? 42 = some ((Tryd.prog.info? 42).getD default) := by kernel_rfl
 have hz0 : ((Tryd.prog.info? 42).getD default).zero = some (.agg #[.string .empty, .string .empty]) := by kernel_rfl
 have hz1 : ((Tryd.prog.info? 42).getD default).size = 2 := by kernel_rfl
 have hz2 : ((Tryd.prog.info? 42).getD default).bytes = 32 := by kernel_rfl
 generalize ((Tryd.prog.info? 42).getD default) = i0 at hi hz0 hz1 hz2
 go_enter Tryd.func14, Tryd.ntmps14
 go_wp2_with (at_builtin; refine wpList_append_own _ rfl _ _ 22 rfl w.heap.size 42 i0 (.agg #[.string .empty, .string .empty]) 2 32 Tryd.underlying22 hi hz0 hz1 hz2 rfl (by decide) _ _ _ rfl (World.ownsRow_made w #[] 0 (Nat.le_refl _) (Nat.zero_le _) (by simp)) a n c news rfl ?qc1 ?qc2 ?qc3 ?qc4 ?qc5 ?qc6 ?_)
 case qc1 => exact hl
 case qc2 =>
  intro j u hj
  exact Lib.cell?_alloc_some _ (A.out j u hj)
 case qc3 => exact h1
 case qc4 => rw [Nat.zero_add]; unfold maxLen; omega
 case qc5 => rw [Nat.zero_add]; omega
 case qc6 => simp
 intro v' w1 hown hgrow hnil
 go_wp2
 go_ret
 exact ⟨v', rfl, by simpa using hown, ((Below.refl _ w).alloc (Nat.le_refl _) _).grown hgrow (by simp) (by intro k hk; simp [Value.ownBlock] at hk; omega)⟩
set_option maxHeartbeats 1000000 in
theorem cln14_nil (n c : Nat) (w : World) :
  Calls Tryd.prog 14 #[.slice none n c] w fun e w' => e = .returned (.slice none 0 0) ∧ w' = w := by
 have q22 : ∀ (w : World) (a : Option Addr) (n c n' c' : Nat), (binOp .eql 22 (.slice a n c) (.slice none n' c')).run Tryd.prog w = .ok (.bool a.isNone) w := fun w a n c n' c' => Lib.run_eql_slice_nil w _ _ a n c n' c' Tryd.underlying22
 go_enter Tryd.func14, Tryd.ntmps14
 go_wp2
 go_ret
 exact ⟨rfl, rfl⟩
end
theorem F14_ok (n : Nat) (a0 : List (List UInt8 × List UInt8)) (r : List (List UInt8 × List UInt8)) (h : F14 n a0 = some r) : FnR Tryd.prog 14 [some (.buf 42 2 [] 0)] [.sl 2 false (List.map eT41 a0)] (.rsl 0 2 0 r.length) [some (.buf 42 2 (List.map eT41 r) 0)] := by
 unfold F14 at h
 split at h
 case isFalse => cases h
 rename_i hh
 obtain rfl := Option.some.inj h
 have hlen : (List.map eT41 a0).length = a0.length := List.length_map _
 rw [← hlen]
 refine FnR.fresh ⟨Tryd.f14, Tryd.func14, by kernel_rfl, rfl⟩ rfl fun E vs hv => ?_
 rw [← hlen] at hh
 clear hlen
 generalize List.map eT41 a0 = l at hv hh
 obtain ⟨q⟩ := vs
 simp only [RepL, Rep] at hv
 obtain ⟨v, vs', e1, ⟨a, cap, c, rfl, h2, _, h4, h5⟩, rfl⟩ := hv
 have e1 : q = [_] := e1
 subst e1
 cases a with
 | none =>
  have hc : c = [] := by
   cases c with
   | nil => rfl
   | cons x c => obtain ⟨b, o, e, _⟩ := h5 0 x rfl; cases e
  have hl : l = [] := by
   have := h4.length
   rw [hc] at this
   cases l with
   | nil => rfl
   | cons x l => simp at this
  subst hc hl
  refine (cln14_nil _ _ E.w).mono ?_
  rintro e w' ⟨rfl, rfl⟩
  exact ⟨_, [], rfl, World.ownsRow_nil _ _ _ _, Below.refl _ _, h4⟩
 | some a =>
  refine (cln14_row a l.length cap c E.w h4.length (by omega) (fun j u hj => ?_) (fun u hu => ?_)).mono ?_
  ·obtain ⟨b, o, e, h6, _⟩ := h5 j u hj
   cases e
   rw [Addr.add_lit]; exact h6
  ·have := h4.leafs u hu
   cases u <;> first | rfl | cases this
  ·rintro e w' ⟨v', rfl, ho, hb⟩
   exact ⟨v', c, rfl, ho, hb, h4⟩
end Go.Proofs.YtdjgldjebcoihaaDoorX

set_option linter.unusedVariables false
set_option linter.unusedSimpArgs false
namespace Go.Proofs.YtdjgldjebcoihaaDoorX
open Go Go.RowKit Go.Proofs
set_option maxRecDepth 100000
attribute [local go_sem ↓] stepsK_build stepsK_bs appendS
attribute [local go_sem] String.reduceEq String.reduceNe reduceCtorEq Int.reduceEq Nat.reduceAdd Nat.reduceSub Nat.reduceMul Nat.reduceLT Nat.reduceLeDiff Nat.reduceEqDiff Nat.reduceBEq Int.reduceToNat Int.reduceLT Int.reduceLE Int.reduceGT Int.reduceGE Int.reduceAdd Int.reduceSub Int.reduceMul Int.reduceNeg Int.reduceBEq Int.reduceBNe Int.reducePow Int.reduceDiv Int.reduceMod Int.reduceTDiv Int.reduceTMod Int.reduceNatCast
/-! ### reply.empty -/
def F15 (n : Nat) (a0 : Int) : Option (Bool) := iteB (a0 == (204 : Int)) (some true) (some (a0 == (304 : Int)))
set_option maxHeartbeats 4000000 in
theorem F15_ok : ∀ (n : Nat) (a0 : Int) (r : Bool), F15 n a0 = some r → FnC Tryd.prog 15 [.imm (.int .i64 a0)] (.imm (.bool r))
 | n, a0, r, h => by
  unfold F15 at h
  refine FnC.goX mixed Tryd.func15 (by kernel_rfl) rfl ?_
  simp only [Tryd.ntmps15, List.length_cons, List.length_nil, List.replicate, List.cons_append, List.nil_append, Nat.reduceAdd, Nat.reduceSub]
  refine runX_seq ?_
  refine runX_regionC fun C hC => ?_
  try simp -implicitDefEqProofs (maxSteps := 4000000) (disch := first | omega | decide | (simp only [go_sem]; omega)) only [go_sem, ↓reduceIte]
  repeat (with_reducible refine And.intro (by first | assumption | omega | (simp; done) | (simp; omega)) ?_)
  refine toEnd hC ?_
  refine endX_seq ?_
  refine runX_seq ?_
  refine runX_regionC fun C hC => ?_
  try simp -implicitDefEqProofs (maxSteps := 4000000) (disch := first | omega | decide | (simp only [go_sem]; omega)) only [go_sem, ↓reduceIte]
  repeat (with_reducible refine And.intro (by first | assumption | omega | (simp; done) | (simp; omega)) ?_)
  rcases iteB_some h with ⟨c1, h⟩ | ⟨c1, h⟩
  ·refine guardK_F c1 ?_
   try simp -implicitDefEqProofs (maxSteps := 4000000) (disch := first | omega | decide | (simp only [go_sem]; omega)) only [go_sem, ↓reduceIte]
   repeat (with_reducible refine And.intro (by first | assumption | omega | (simp; done) | (simp; omega)) ?_)
   refine toEnd hC ?_
   refine endX_seq ?_
   refine runX_ret ?_
   refine endX_q ?_
   obtain rfl := Option.some.inj h
   show RetW _ _ _ _ _
   simp only [RetW]
   (try simp -implicitDefEqProofs (maxSteps := 4000000) (disch := first | omega | decide | (simp only [go_sem]; omega)) only [go_sem, ↓reduceIte])
   (try simp (disch := omega) only [if_pos, Nat.sub_zero])
   exact leT_refl _
  ·refine guardK_T c1 ?_
   try simp -implicitDefEqProofs (maxSteps := 4000000) (disch := first | omega | decide | (simp only [go_sem]; omega)) only [go_sem, ↓reduceIte]
   repeat (with_reducible refine And.intro (by first | assumption | omega | (simp; done) | (simp; omega)) ?_)
   refine toEnd hC ?_
   refine endX_seq ?_
   refine runX_ret ?_
   refine endX_q ?_
   obtain rfl := Option.some.inj h
   show RetW _ _ _ _ _
   simp only [RetW]
   (try simp -implicitDefEqProofs (maxSteps := 4000000) (disch := first | omega | decide | (simp only [go_sem]; omega)) only [go_sem, ↓reduceIte])
   (try simp (disch := omega) only [if_pos, Nat.sub_zero])
   exact leT_refl _
end Go.Proofs.YtdjgldjebcoihaaDoorX

set_option linter.unusedVariables false
set_option linter.unusedSimpArgs false
namespace Go.Proofs.YtdjgldjebcoihaaDoorX
open Go Go.RowKit Go.Proofs
set_option maxRecDepth 100000
attribute [local go_sem ↓] stepsK_build stepsK_bs appendS
attribute [local go_sem] String.reduceEq String.reduceNe reduceCtorEq Int.reduceEq Nat.reduceAdd Nat.reduceSub Nat.reduceMul Nat.reduceLT Nat.reduceLeDiff Nat.reduceEqDiff Nat.reduceBEq Int.reduceToNat Int.reduceLT Int.reduceLE Int.reduceGT Int.reduceGE Int.reduceAdd Int.reduceSub Int.reduceMul Int.reduceNeg Int.reduceBEq Int.reduceBNe Int.reducePow Int.reduceDiv Int.reduceMod Int.reduceTDiv Int.reduceTMod Int.reduceNatCast
/-! ### hex.Decimal -/
def F16_S4 (x11 : Int) (x12 : Int) (x13 : List (Int)) : St := ⟨[.junk, .junk, .junk, .junk, .rsl 0 1 0 x13.length, .imm (.int .i64 x11), .imm (.int .i64 x12), .junk, .junk, .junk, .junk, .junk, .junk, .junk, .junk, .junk, .junk, .junk, .junk, .junk, .junk, .junk, .junk, .junk, .junk, .junk, .junk, .junk, .junk, .junk, .junk, .junk, .junk, .junk, .junk, .junk, .junk, .junk, .junk, .junk, .junk, .junk, .junk, .junk, .junk, .junk, .junk, .junk, .junk, .junk, .junk, .junk, .junk, .junk], [some (.buf 5 1 (List.map byteT x13) 0)]⟩
def F16_S3 (x10 : List (Int)) : St := ⟨[.junk, .junk, .junk, .junk, .rsl 0 1 0 x10.length, .junk, .junk, .junk, .junk, .junk, .junk, .junk, .junk, .junk, .junk, .junk, .junk, .junk, .junk, .junk, .junk, .junk, .junk, .junk, .junk, .junk, .junk, .junk, .junk, .junk, .junk, .junk, .junk, .junk, .junk, .junk, .junk, .junk, .junk, .junk, .junk, .junk, .junk, .junk, .junk, .junk, .junk, .junk, .junk, .junk, .junk, .junk, .junk, .junk], [some (.buf 5 1 (List.map byteT x10) 0)]⟩
def F16_S2 (a0 : Int) (x3 : Int) (x4 : List (Int)) : St := ⟨[.imm (.int .i64 a0), .junk, .junk, .imm (.int .u64 x3), .rsl 0 1 0 x4.length, .junk, .junk, .junk, .junk, .junk, .junk, .junk, .junk, .junk, .junk, .junk, .junk, .junk, .junk, .junk, .junk, .junk, .junk, .junk, .junk, .junk, .junk, .junk, .junk, .junk, .junk, .junk, .junk, .junk, .junk, .junk, .junk, .junk, .junk, .junk, .junk, .junk, .junk, .junk, .junk, .junk, .junk, .junk, .junk, .junk, .junk, .junk, .junk, .junk], [some (.buf 5 1 (List.map byteT x4) 0)]⟩
def F16_S1 (a0 : Int) (x2 : Int) : St := ⟨[.imm (.int .i64 a0), .junk, .junk, .imm (.int .u64 x2), .junk, .junk, .junk, .junk, .junk, .junk, .junk, .junk, .junk, .junk, .junk, .junk, .junk, .junk, .junk, .junk, .junk, .junk, .junk, .junk, .junk, .junk, .junk, .junk, .junk, .junk, .junk, .junk, .junk, .junk, .junk, .junk, .junk, .junk, .junk, .junk, .junk, .junk, .junk, .junk, .junk, .junk, .junk, .junk, .junk, .junk, .junk, .junk, .junk, .junk], []⟩
mutual
def F16_L4 : Nat → (Int) → (Int) → (List (Int)) → Option (List UInt8)
 | 0, _, _, _ => none
 | m4 + 1, x11, x12, x13 => iteB (decide (x11 < x12)) (grd (0 ≤ x12 ∧ x12 < (x13.length : Int)) (grd (x12.toNat < x13.length) (grd (0 ≤ x11 ∧ x11 < (x13.length : Int)) (grd (x11.toNat < x13.length) (grd (0 ≤ x11 ∧ x11 < (x13.length : Int)) (grd (x11.toNat < x13.length) (grd (0 ≤ x12 ∧ x12 < (x13.length : Int)) (grd (x12.toNat < x13.length) (F16_L4 m4 (IntKind.wrap .i64 (x11 + (1 : Int))) (IntKind.wrap .i64 (x12 - (1 : Int))) (List.set (List.set x13 x11.toNat (x13.getD x12.toNat default)) x12.toNat (x13.getD x11.toNat default))))))))))) (some (x13.map toB))
def F16_J3 (m2 : Nat) (x10 : List (Int)) : Option (List UInt8) := F16_L4 m2 (0 : Int) (IntKind.wrap .i64 ((x10.length : Int) - (1 : Int))) x10
def F16_L2 : Nat → (Int) → (Int) → (List (Int)) → Option (List UInt8)
 | 0, _, _, _ => none
 | m2 + 1, a0, x3, x4 => grd (0 ≤ (x3.tmod (10 : Int)) ∧ (x3.tmod (10 : Int)) < (16 : Int)) (grd ((x4.length + 1) ≤ 549755813888) (iteB ((IntKind.wrap .u64 (x3.tdiv (10 : Int))) == (0 : Int)) (iteB (decide (a0 < (0 : Int))) (grd ((x4.length + 2) ≤ 549755813888) (F16_J3 m2 ((x4 ++ ([((([48, 49, 50, 51, 52, 53, 54, 55, 56, 57, 97, 98, 99, 100, 101, 102] : List UInt8).getD (x3.tmod (10 : Int)).toNat 0).toNat : Int)])) ++ [(45 : Int)]))) (F16_J3 m2 (x4 ++ ([((([48, 49, 50, 51, 52, 53, 54, 55, 56, 57, 97, 98, 99, 100, 101, 102] : List UInt8).getD (x3.tmod (10 : Int)).toNat 0).toNat : Int)])))) (F16_L2 m2 a0 (IntKind.wrap .u64 (x3.tdiv (10 : Int))) (x4 ++ ([((([48, 49, 50, 51, 52, 53, 54, 55, 56, 57, 97, 98, 99, 100, 101, 102] : List UInt8).getD (x3.tmod (10 : Int)).toNat 0).toNat : Int)])))))
def F16_J1 (n : Nat) (a0 : Int) (x2 : Int) : Option (List UInt8) := F16_L2 n a0 x2 []
end
def F16 (n : Nat) (a0 : Int) : Option (List UInt8) := iteB (decide (a0 < (0 : Int))) (F16_J1 n a0 (IntKind.wrap .u64 ((0 : Int) - (IntKind.wrap .u64 (a0))))) (F16_J1 n a0 (IntKind.wrap .u64 (a0)))
set_option maxHeartbeats 4000000 in
theorem F16_ok : ∀ (n : Nat) (a0 : Int) (r : List UInt8), F16 n a0 = some r → FnC Tryd.prog 16 [.imm (.int .i64 a0)] (.imm (.string (bs r)))
 | n, a0, r, h => by
  unfold F16 at h
  refine FnC.goX mixed Tryd.func16 (by kernel_rfl) rfl ?_
  simp only [Tryd.ntmps16, List.length_cons, List.length_nil, List.replicate, List.cons_append, List.nil_append, Nat.reduceAdd, Nat.reduceSub]
  refine runX_seq ?_
  refine runX_regionC fun C hC => ?_
  try simp -implicitDefEqProofs (maxSteps := 4000000) (disch := first | omega | decide | (simp only [go_sem]; omega)) only [go_sem, ↓reduceIte]
  repeat (with_reducible refine And.intro (by first | assumption | omega | (simp; done) | (simp; omega)) ?_)
  refine toEnd hC ?_
  refine endX_seq ?_
  refine runX_seq ?_
  refine runX_regionC fun C hC => ?_
  try simp -implicitDefEqProofs (maxSteps := 4000000) (disch := first | omega | decide | (simp only [go_sem]; omega)) only [go_sem, ↓reduceIte]
  repeat (with_reducible refine And.intro (by first | assumption | omega | (simp; done) | (simp; omega)) ?_)
  refine toEnd hC ?_
  refine endX_seq ?_
  refine runX_meet [0, 3] (fun S => ∃ (x2 : Int), S = F16_S1 a0 x2 ∧ F16_J1 n a0 x2 = some r) ?_ ?_
  ·refine runX_seq ?_
   refine runX_regionC fun C hC => ?_
   try simp -implicitDefEqProofs (maxSteps := 4000000) (disch := first | omega | decide | (simp only [go_sem]; omega)) only [go_sem, ↓reduceIte]
   repeat (with_reducible refine And.intro (by first | assumption | omega | (simp; done) | (simp; omega)) ?_)
   refine toEnd hC ?_
   refine endX_seq ?_
   rcases iteB_some h with ⟨c1, h⟩ | ⟨c1, h⟩
   ·refine runX_condT rfl c1 ?_
    refine runX_regionC fun C hC => ?_
    try simp -implicitDefEqProofs (maxSteps := 4000000) (disch := first | omega | decide | (simp only [go_sem]; omega)) only [go_sem, ↓reduceIte]
    repeat (with_reducible refine And.intro (by first | assumption | omega | (simp; done) | (simp; omega)) ?_)
    refine toEnd hC ?_
    refine endX_q (meetQ_normal ⟨F16_S1 a0 (IntKind.wrap .u64 ((0 : Int) - (IntKind.wrap .u64 (a0)))), ?_, (IntKind.wrap .u64 ((0 : Int) - (IntKind.wrap .u64 (a0)))), rfl, h⟩)
    simp only [F16_S1]
    (try simp -implicitDefEqProofs (maxSteps := 4000000) (disch := first | omega | decide | (simp only [go_sem]; omega)) only [go_sem, ↓reduceIte])
    first | exact leS_refl _ | (refine leS_le ?_ ?_ <;> first | exact leL_refl _ | exact leOs_refl _ | (simp only [List.append_assoc, List.cons_append, List.nil_append]; exact leOs_refl _) | (refine leOs.cons (by first | exact leO.same _ | (refine leO.box (leT_agg (by repeat (first | exact leL_refl _ | refine leL_cons (by first | exact leT_refl _ | exact leT_virt | exact leT_junk _ | exact leT_sl | exact leT_sln | exact leT_nil | (refine leT_agg (by repeat (first | exact leL_refl _ | refine leL_cons (by first | exact leT_refl _ | exact leT_sl | exact leT_sln | exact leT_nil) ?_)))) ?_))) rfl) | (refine leO.box (by first | exact leT_virt | exact leT_sl | exact leT_sln) rfl)) ?_; repeat (first | exact leOs_refl _ | refine leOs.cons (by first | exact leO.same _ | (refine leO.box (leT_agg (by repeat (first | exact leL_refl _ | refine leL_cons (by first | exact leT_refl _ | exact leT_virt | exact leT_junk _ | exact leT_sl | exact leT_sln | exact leT_nil | (refine leT_agg (by repeat (first | exact leL_refl _ | refine leL_cons (by first | exact leT_refl _ | exact leT_sl | exact leT_sln | exact leT_nil) ?_)))) ?_))) rfl) | (refine leO.box (by first | exact leT_virt | exact leT_sl | exact leT_sln) rfl)) ?_)) | (repeat (first | exact leL_refl _ | refine leL_cons (by first | exact leT_refl _ | exact leT_virt | exact leT_junk _ | exact leT_sl | exact leT_sln | exact leT_nil | (refine leT_agg (by repeat (first | exact leL_refl _ | refine leL_cons (by first | exact leT_refl _ | exact leT_sl | exact leT_sln | exact leT_nil) ?_)))) ?_)))
   ·refine runX_condF rfl c1 ?_
    refine runX_skip ?_
    refine endX_q (meetQ_normal ⟨F16_S1 a0 (IntKind.wrap .u64 (a0)), ?_, (IntKind.wrap .u64 (a0)), rfl, h⟩)
    simp only [F16_S1]
    (try simp -implicitDefEqProofs (maxSteps := 4000000) (disch := first | omega | decide | (simp only [go_sem]; omega)) only [go_sem, ↓reduceIte])
    first | exact leS_refl _ | (refine leS_le ?_ ?_ <;> first | exact leL_refl _ | exact leOs_refl _ | (simp only [List.append_assoc, List.cons_append, List.nil_append]; exact leOs_refl _) | (refine leOs.cons (by first | exact leO.same _ | (refine leO.box (leT_agg (by repeat (first | exact leL_refl _ | refine leL_cons (by first | exact leT_refl _ | exact leT_virt | exact leT_junk _ | exact leT_sl | exact leT_sln | exact leT_nil | (refine leT_agg (by repeat (first | exact leL_refl _ | refine leL_cons (by first | exact leT_refl _ | exact leT_sl | exact leT_sln | exact leT_nil) ?_)))) ?_))) rfl) | (refine leO.box (by first | exact leT_virt | exact leT_sl | exact leT_sln) rfl)) ?_; repeat (first | exact leOs_refl _ | refine leOs.cons (by first | exact leO.same _ | (refine leO.box (leT_agg (by repeat (first | exact leL_refl _ | refine leL_cons (by first | exact leT_refl _ | exact leT_virt | exact leT_junk _ | exact leT_sl | exact leT_sln | exact leT_nil | (refine leT_agg (by repeat (first | exact leL_refl _ | refine leL_cons (by first | exact leT_refl _ | exact leT_sl | exact leT_sln | exact leT_nil) ?_)))) ?_))) rfl) | (refine leO.box (by first | exact leT_virt | exact leT_sl | exact leT_sln) rfl)) ?_)) | (repeat (first | exact leL_refl _ | refine leL_cons (by first | exact leT_refl _ | exact leT_virt | exact leT_junk _ | exact leT_sl | exact leT_sln | exact leT_nil | (refine leT_agg (by repeat (first | exact leL_refl _ | refine leL_cons (by first | exact leT_refl _ | exact leT_sl | exact leT_sln | exact leT_nil) ?_)))) ?_)))
  ·clear h
   rintro S ⟨x2, rfl, h⟩
   rw [F16_J1] at h
   simp only [F16_S1]
   refine runX_seq ?_
   refine runX_regionC fun C hC => ?_
   try simp -implicitDefEqProofs (maxSteps := 4000000) (disch := first | omega | decide | (simp only [go_sem]; omega)) only [go_sem, ↓reduceIte]
   repeat (with_reducible refine And.intro (by first | assumption | omega | (simp; done) | (simp; omega)) ?_)
   refine toEnd hC ?_
   refine endX_seq ?_
   refine runX_seq ?_
   refine runX_block ?_
   refine runX_loop [0, 3, 4] (fun m S => ∃ (x3 : Int) (x4 : List (Int)), S = F16_S2 a0 x3 x4 ∧ m ≤ n ∧ F16_L2 m a0 x3 x4 = some r) n ⟨F16_S2 a0 x2 [], ?_, x2, [], rfl, Nat.le_refl _, h⟩ ?_
   ·(try simp -implicitDefEqProofs (maxSteps := 4000000) (disch := first | omega | decide | (simp only [go_sem]; omega)) only [go_sem, ↓reduceIte])
    simp only [F16_S2]
    refine leS_trans (leS_pad _ _ 1) ?_
    simp only [List.replicate, List.cons_append, List.nil_append]
    refine leS_virt 0 5 1 rfl ?_ ?_ rfl
    ·repeat (first | exact leL_refl _ | refine leL_cons (by first | exact leT_refl _ | exact leT_virt | exact leT_junk _ | exact leT_sl | exact leT_sln | exact leT_nil | (refine leT_agg (by repeat (first | exact leL_refl _ | refine leL_cons (by first | exact leT_refl _ | exact leT_sl | exact leT_sln | exact leT_nil) ?_)))) ?_)
    ·repeat (first | exact leOs_refl _ | refine leOs.cons (by first | exact leO.same _ | (refine leO.box (leT_agg (by repeat (first | exact leL_refl _ | refine leL_cons (by first | exact leT_refl _ | exact leT_virt | exact leT_junk _ | exact leT_sl | exact leT_sln | exact leT_nil | (refine leT_agg (by repeat (first | exact leL_refl _ | refine leL_cons (by first | exact leT_refl _ | exact leT_sl | exact leT_sln | exact leT_nil) ?_)))) ?_))) rfl) | (refine leO.box (by first | exact leT_virt | exact leT_sl | exact leT_sln) rfl)) ?_)
   ·clear h
    rintro m2 S ⟨x3, x4, rfl, hm2, h⟩
    cases m2 with
    | zero => first | cases (show (none : Option _) = some _ from h) | (rw [F16_L2] at h; cases h)
    | succ m2 =>
     rw [F16_L2] at h
     simp only [F16_S2]
     refine runX_block ?_
     refine runX_seq ?_
     refine runX_regionC fun C hC => ?_
     obtain ⟨g5, h⟩ := grd_some h
     try simp -implicitDefEqProofs (maxSteps := 4000000) (disch := first | omega | decide | (simp only [go_sem]; omega)) only [go_sem, ↓reduceIte]
     repeat (with_reducible refine And.intro (by first | assumption | omega | (simp; done) | (simp; omega)) ?_)
     refine bs_go <| buildX_val ?_
     obtain ⟨g6, h⟩ := grd_some h
     try simp -implicitDefEqProofs (maxSteps := 4000000) (disch := first | omega | decide | (simp only [go_sem]; omega)) only [go_sem, ↓reduceIte]
     repeat (with_reducible refine And.intro (by first | assumption | omega | (simp; done) | (simp; omega)) ?_)
     refine toEnd hC ?_
     refine endX_seq ?_
     refine runX_seq ?_
     refine runX_regionC fun C hC => ?_
     try simp -implicitDefEqProofs (maxSteps := 4000000) (disch := first | omega | decide | (simp only [go_sem]; omega)) only [go_sem, ↓reduceIte]
     repeat (with_reducible refine And.intro (by first | assumption | omega | (simp; done) | (simp; omega)) ?_)
     refine toEnd hC ?_
     refine endX_seq ?_
     refine runX_seq ?_
     refine runX_regionC fun C hC => ?_
     try simp -implicitDefEqProofs (maxSteps := 4000000) (disch := first | omega | decide | (simp only [go_sem]; omega)) only [go_sem, ↓reduceIte]
     repeat (with_reducible refine And.intro (by first | assumption | omega | (simp; done) | (simp; omega)) ?_)
     refine toEnd hC ?_
     refine endX_seq ?_
     rcases iteB_some h with ⟨c7, h⟩ | ⟨c7, h⟩
     ·refine runX_condT rfl c7 ?_
      refine runX_exit ?_
      refine endX_blkO (by decide) ?_
      refine endX_q (roundQ_exit ?_)
      refine endX_blkE ?_
      refine endX_seq ?_
      refine runX_meet [4] (fun S => ∃ (x10 : List (Int)), S = F16_S3 x10 ∧ F16_J3 m2 x10 = some r) ?_ ?_
      ·refine runX_seq ?_
       refine runX_regionC fun C hC => ?_
       try simp -implicitDefEqProofs (maxSteps := 4000000) (disch := first | omega | decide | (simp only [go_sem]; omega)) only [go_sem, ↓reduceIte]
       repeat (with_reducible refine And.intro (by first | assumption | omega | (simp; done) | (simp; omega)) ?_)
       refine toEnd hC ?_
       refine endX_seq ?_
       rcases iteB_some h with ⟨c8, h⟩ | ⟨c8, h⟩
       ·refine runX_condT rfl c8 ?_
        refine runX_regionC fun C hC => ?_
        try simp -implicitDefEqProofs (maxSteps := 4000000) (disch := first | omega | decide | (simp only [go_sem]; omega)) only [go_sem, ↓reduceIte]
        repeat (with_reducible refine And.intro (by first | assumption | omega | (simp; done) | (simp; omega)) ?_)
        refine bs_go <| buildX_val ?_
        obtain ⟨g9, h⟩ := grd_some h
        try simp -implicitDefEqProofs (maxSteps := 4000000) (disch := first | omega | decide | (simp only [go_sem]; omega)) only [go_sem, ↓reduceIte]
        repeat (with_reducible refine And.intro (by first | assumption | omega | (simp; done) | (simp; omega)) ?_)
        refine toEnd hC ?_
        refine endX_q (meetQ_normal ⟨F16_S3 ((x4 ++ ([((([48, 49, 50, 51, 52, 53, 54, 55, 56, 57, 97, 98, 99, 100, 101, 102] : List UInt8).getD (x3.tmod (10 : Int)).toNat 0).toNat : Int)])) ++ [(45 : Int)]), ?_, ((x4 ++ ([((([48, 49, 50, 51, 52, 53, 54, 55, 56, 57, 97, 98, 99, 100, 101, 102] : List UInt8).getD (x3.tmod (10 : Int)).toNat 0).toNat : Int)])) ++ [(45 : Int)]), rfl, h⟩)
        simp only [F16_S3]
        (try simp -implicitDefEqProofs (maxSteps := 4000000) (disch := first | omega | decide | (simp only [go_sem]; omega)) only [go_sem, ↓reduceIte])
        first | exact leS_refl _ | (refine leS_le ?_ ?_ <;> first | exact leL_refl _ | exact leOs_refl _ | (simp only [List.append_assoc, List.cons_append, List.nil_append]; exact leOs_refl _) | (refine leOs.cons (by first | exact leO.same _ | (refine leO.box (leT_agg (by repeat (first | exact leL_refl _ | refine leL_cons (by first | exact leT_refl _ | exact leT_virt | exact leT_junk _ | exact leT_sl | exact leT_sln | exact leT_nil | (refine leT_agg (by repeat (first | exact leL_refl _ | refine leL_cons (by first | exact leT_refl _ | exact leT_sl | exact leT_sln | exact leT_nil) ?_)))) ?_))) rfl) | (refine leO.box (by first | exact leT_virt | exact leT_sl | exact leT_sln) rfl)) ?_; repeat (first | exact leOs_refl _ | refine leOs.cons (by first | exact leO.same _ | (refine leO.box (leT_agg (by repeat (first | exact leL_refl _ | refine leL_cons (by first | exact leT_refl _ | exact leT_virt | exact leT_junk _ | exact leT_sl | exact leT_sln | exact leT_nil | (refine leT_agg (by repeat (first | exact leL_refl _ | refine leL_cons (by first | exact leT_refl _ | exact leT_sl | exact leT_sln | exact leT_nil) ?_)))) ?_))) rfl) | (refine leO.box (by first | exact leT_virt | exact leT_sl | exact leT_sln) rfl)) ?_)) | (repeat (first | exact leL_refl _ | refine leL_cons (by first | exact leT_refl _ | exact leT_virt | exact leT_junk _ | exact leT_sl | exact leT_sln | exact leT_nil | (refine leT_agg (by repeat (first | exact leL_refl _ | refine leL_cons (by first | exact leT_refl _ | exact leT_sl | exact leT_sln | exact leT_nil) ?_)))) ?_)))
       ·refine runX_condF rfl c8 ?_
        refine runX_skip ?_
        refine endX_q (meetQ_normal ⟨F16_S3 (x4 ++ ([((([48, 49, 50, 51, 52, 53, 54, 55, 56, 57, 97, 98, 99, 100, 101, 102] : List UInt8).getD (x3.tmod (10 : Int)).toNat 0).toNat : Int)])), ?_, (x4 ++ ([((([48, 49, 50, 51, 52, 53, 54, 55, 56, 57, 97, 98, 99, 100, 101, 102] : List UInt8).getD (x3.tmod (10 : Int)).toNat 0).toNat : Int)])), rfl, h⟩)
        simp only [F16_S3]
        (try simp -implicitDefEqProofs (maxSteps := 4000000) (disch := first | omega | decide | (simp only [go_sem]; omega)) only [go_sem, ↓reduceIte])
        first | exact leS_refl _ | (refine leS_le ?_ ?_ <;> first | exact leL_refl _ | exact leOs_refl _ | (simp only [List.append_assoc, List.cons_append, List.nil_append]; exact leOs_refl _) | (refine leOs.cons (by first | exact leO.same _ | (refine leO.box (leT_agg (by repeat (first | exact leL_refl _ | refine leL_cons (by first | exact leT_refl _ | exact leT_virt | exact leT_junk _ | exact leT_sl | exact leT_sln | exact leT_nil | (refine leT_agg (by repeat (first | exact leL_refl _ | refine leL_cons (by first | exact leT_refl _ | exact leT_sl | exact leT_sln | exact leT_nil) ?_)))) ?_))) rfl) | (refine leO.box (by first | exact leT_virt | exact leT_sl | exact leT_sln) rfl)) ?_; repeat (first | exact leOs_refl _ | refine leOs.cons (by first | exact leO.same _ | (refine leO.box (leT_agg (by repeat (first | exact leL_refl _ | refine leL_cons (by first | exact leT_refl _ | exact leT_virt | exact leT_junk _ | exact leT_sl | exact leT_sln | exact leT_nil | (refine leT_agg (by repeat (first | exact leL_refl _ | refine leL_cons (by first | exact leT_refl _ | exact leT_sl | exact leT_sln | exact leT_nil) ?_)))) ?_))) rfl) | (refine leO.box (by first | exact leT_virt | exact leT_sl | exact leT_sln) rfl)) ?_)) | (repeat (first | exact leL_refl _ | refine leL_cons (by first | exact leT_refl _ | exact leT_virt | exact leT_junk _ | exact leT_sl | exact leT_sln | exact leT_nil | (refine leT_agg (by repeat (first | exact leL_refl _ | refine leL_cons (by first | exact leT_refl _ | exact leT_sl | exact leT_sln | exact leT_nil) ?_)))) ?_)))
      ·clear h
       rintro S ⟨x10, rfl, h⟩
       rw [F16_J3] at h
       simp only [F16_S3]
       refine runX_seq ?_
       refine runX_seq ?_
       refine runX_regionC fun C hC => ?_
       try simp -implicitDefEqProofs (maxSteps := 4000000) (disch := first | omega | decide | (simp only [go_sem]; omega)) only [go_sem, ↓reduceIte]
       repeat (with_reducible refine And.intro (by first | assumption | omega | (simp; done) | (simp; omega)) ?_)
       refine toEnd hC ?_
       refine endX_seq ?_
       refine runX_block ?_
       refine runX_loop [4, 5, 6] (fun m S => ∃ (x11 : Int) (x12 : Int) (x13 : List (Int)), S = F16_S4 x11 x12 x13 ∧ m ≤ m2 ∧ F16_L4 m x11 x12 x13 = some r) m2 ⟨F16_S4 (0 : Int) (IntKind.wrap .i64 ((x10.length : Int) - (1 : Int))) x10, ?_, (0 : Int), (IntKind.wrap .i64 ((x10.length : Int) - (1 : Int))), x10, rfl, Nat.le_refl _, h⟩ ?_
       ·simp only [F16_S4]
        (try simp -implicitDefEqProofs (maxSteps := 4000000) (disch := first | omega | decide | (simp only [go_sem]; omega)) only [go_sem, ↓reduceIte])
        first | exact leS_refl _ | (refine leS_le ?_ ?_ <;> first | exact leL_refl _ | exact leOs_refl _ | (simp only [List.append_assoc, List.cons_append, List.nil_append]; exact leOs_refl _) | (refine leOs.cons (by first | exact leO.same _ | (refine leO.box (leT_agg (by repeat (first | exact leL_refl _ | refine leL_cons (by first | exact leT_refl _ | exact leT_virt | exact leT_junk _ | exact leT_sl | exact leT_sln | exact leT_nil | (refine leT_agg (by repeat (first | exact leL_refl _ | refine leL_cons (by first | exact leT_refl _ | exact leT_sl | exact leT_sln | exact leT_nil) ?_)))) ?_))) rfl) | (refine leO.box (by first | exact leT_virt | exact leT_sl | exact leT_sln) rfl)) ?_; repeat (first | exact leOs_refl _ | refine leOs.cons (by first | exact leO.same _ | (refine leO.box (leT_agg (by repeat (first | exact leL_refl _ | refine leL_cons (by first | exact leT_refl _ | exact leT_virt | exact leT_junk _ | exact leT_sl | exact leT_sln | exact leT_nil | (refine leT_agg (by repeat (first | exact leL_refl _ | refine leL_cons (by first | exact leT_refl _ | exact leT_sl | exact leT_sln | exact leT_nil) ?_)))) ?_))) rfl) | (refine leO.box (by first | exact leT_virt | exact leT_sl | exact leT_sln) rfl)) ?_)) | (repeat (first | exact leL_refl _ | refine leL_cons (by first | exact leT_refl _ | exact leT_virt | exact leT_junk _ | exact leT_sl | exact leT_sln | exact leT_nil | (refine leT_agg (by repeat (first | exact leL_refl _ | refine leL_cons (by first | exact leT_refl _ | exact leT_sl | exact leT_sln | exact leT_nil) ?_)))) ?_)))
       ·clear h
        rintro m4 S ⟨x11, x12, x13, rfl, hm4, h⟩
        cases m4 with
        | zero => first | cases (show (none : Option _) = some _ from h) | (rw [F16_L4] at h; cases h)
        | succ m4 =>
         rw [F16_L4] at h
         simp only [F16_S4]
         refine runX_seq ?_
         refine runX_seq ?_
         refine runX_regionC fun C hC => ?_
         try simp -implicitDefEqProofs (maxSteps := 4000000) (disch := first | omega | decide | (simp only [go_sem]; omega)) only [go_sem, ↓reduceIte]
         repeat (with_reducible refine And.intro (by first | assumption | omega | (simp; done) | (simp; omega)) ?_)
         refine toEnd hC ?_
         refine endX_seq ?_
         rcases iteB_some h with ⟨c14, h⟩ | ⟨c14, h⟩
         ·refine runX_condT rfl c14 ?_
          refine runX_skip ?_
          refine endX_seq ?_
          refine runX_seq ?_
          refine runX_block ?_
          refine runX_draw2C mixed [2, 3] (by kernel_rfl) fun C hC => ?_
          obtain ⟨g15, h⟩ := grd_some h
          obtain ⟨g16, h⟩ := grd_some h
          obtain ⟨g17, h⟩ := grd_some h
          obtain ⟨g18, h⟩ := grd_some h
          obtain ⟨g19, h⟩ := grd_some h
          obtain ⟨g20, h⟩ := grd_some h
          obtain ⟨g21, h⟩ := grd_some h
          obtain ⟨g22, h⟩ := grd_some h
          try simp -implicitDefEqProofs (maxSteps := 4000000) (disch := first | omega | decide | (simp only [go_sem]; omega)) only [go_sem, ↓reduceIte]
          repeat (with_reducible refine And.intro (by first | assumption | omega | (simp; done) | (simp; omega)) ?_)
          refine toEnd hC ?_
          refine endX_blk ?_
          refine endX_seq ?_
          refine runX_regionC fun C hC => ?_
          try simp -implicitDefEqProofs (maxSteps := 4000000) (disch := first | omega | decide | (simp only [go_sem]; omega)) only [go_sem, ↓reduceIte]
          repeat (with_reducible refine And.intro (by first | assumption | omega | (simp; done) | (simp; omega)) ?_)
          refine toEnd hC ?_
          refine endX_q (roundQ_normal ⟨m4, by omega, F16_S4 (IntKind.wrap .i64 (x11 + (1 : Int))) (IntKind.wrap .i64 (x12 - (1 : Int))) (List.set (List.set x13 x11.toNat (x13.getD x12.toNat default)) x12.toNat (x13.getD x11.toNat default)), ?_, (IntKind.wrap .i64 (x11 + (1 : Int))), (IntKind.wrap .i64 (x12 - (1 : Int))), (List.set (List.set x13 x11.toNat (x13.getD x12.toNat default)) x12.toNat (x13.getD x11.toNat default)), rfl, by omega, h⟩)
          simp only [F16_S4]
          (try simp -implicitDefEqProofs (maxSteps := 4000000) (disch := first | omega | decide | (simp only [go_sem]; omega)) only [go_sem, ↓reduceIte])
          first | exact leS_refl _ | (refine leS_le ?_ ?_ <;> first | exact leL_refl _ | exact leOs_refl _ | (simp only [List.append_assoc, List.cons_append, List.nil_append]; exact leOs_refl _) | (refine leOs.cons (by first | exact leO.same _ | (refine leO.box (leT_agg (by repeat (first | exact leL_refl _ | refine leL_cons (by first | exact leT_refl _ | exact leT_virt | exact leT_junk _ | exact leT_sl | exact leT_sln | exact leT_nil | (refine leT_agg (by repeat (first | exact leL_refl _ | refine leL_cons (by first | exact leT_refl _ | exact leT_sl | exact leT_sln | exact leT_nil) ?_)))) ?_))) rfl) | (refine leO.box (by first | exact leT_virt | exact leT_sl | exact leT_sln) rfl)) ?_; repeat (first | exact leOs_refl _ | refine leOs.cons (by first | exact leO.same _ | (refine leO.box (leT_agg (by repeat (first | exact leL_refl _ | refine leL_cons (by first | exact leT_refl _ | exact leT_virt | exact leT_junk _ | exact leT_sl | exact leT_sln | exact leT_nil | (refine leT_agg (by repeat (first | exact leL_refl _ | refine leL_cons (by first | exact leT_refl _ | exact leT_sl | exact leT_sln | exact leT_nil) ?_)))) ?_))) rfl) | (refine leO.box (by first | exact leT_virt | exact leT_sl | exact leT_sln) rfl)) ?_)) | (repeat (first | exact leL_refl _ | refine leL_cons (by first | exact leT_refl _ | exact leT_virt | exact leT_junk _ | exact leT_sl | exact leT_sln | exact leT_nil | (refine leT_agg (by repeat (first | exact leL_refl _ | refine leL_cons (by first | exact leT_refl _ | exact leT_sl | exact leT_sln | exact leT_nil) ?_)))) ?_)))
         ·refine runX_condF rfl c14 ?_
          refine runX_exit ?_
          refine endX_seqE ?_
          refine endX_q (roundQ_exit ?_)
          refine endX_blkE ?_
          refine endX_seq ?_
          refine runX_seq ?_
          refine runX_regionC fun C hC => ?_
          try simp -implicitDefEqProofs (maxSteps := 4000000) (disch := first | omega | decide | (simp only [go_sem]; omega)) only [go_sem, ↓reduceIte]
          repeat (with_reducible refine And.intro (by first | assumption | omega | (simp; done) | (simp; omega)) ?_)
          refine toEnd hC ?_
          refine endX_seq ?_
          refine runX_ret ?_
          refine endX_q ?_
          obtain rfl := Option.some.inj h
          show RetW _ _ _ _ _
          simp only [RetW]
          (try simp -implicitDefEqProofs (maxSteps := 4000000) (disch := first | omega | decide | (simp only [go_sem]; omega)) only [go_sem, ↓reduceIte])
          (try simp (disch := omega) only [if_pos, Nat.sub_zero])
          exact leT_refl _
     ·refine runX_condF rfl c7 ?_
      refine runX_skip ?_
      refine endX_blk ?_
      refine endX_q (roundQ_normal ⟨m2, by omega, F16_S2 a0 (IntKind.wrap .u64 (x3.tdiv (10 : Int))) (x4 ++ ([((([48, 49, 50, 51, 52, 53, 54, 55, 56, 57, 97, 98, 99, 100, 101, 102] : List UInt8).getD (x3.tmod (10 : Int)).toNat 0).toNat : Int)])), ?_, (IntKind.wrap .u64 (x3.tdiv (10 : Int))), (x4 ++ ([((([48, 49, 50, 51, 52, 53, 54, 55, 56, 57, 97, 98, 99, 100, 101, 102] : List UInt8).getD (x3.tmod (10 : Int)).toNat 0).toNat : Int)])), rfl, by omega, h⟩)
      simp only [F16_S2]
      (try simp -implicitDefEqProofs (maxSteps := 4000000) (disch := first | omega | decide | (simp only [go_sem]; omega)) only [go_sem, ↓reduceIte])
      first | exact leS_refl _ | (refine leS_le ?_ ?_ <;> first | exact leL_refl _ | exact leOs_refl _ | (simp only [List.append_assoc, List.cons_append, List.nil_append]; exact leOs_refl _) | (refine leOs.cons (by first | exact leO.same _ | (refine leO.box (leT_agg (by repeat (first | exact leL_refl _ | refine leL_cons (by first | exact leT_refl _ | exact leT_virt | exact leT_junk _ | exact leT_sl | exact leT_sln | exact leT_nil | (refine leT_agg (by repeat (first | exact leL_refl _ | refine leL_cons (by first | exact leT_refl _ | exact leT_sl | exact leT_sln | exact leT_nil) ?_)))) ?_))) rfl) | (refine leO.box (by first | exact leT_virt | exact leT_sl | exact leT_sln) rfl)) ?_; repeat (first | exact leOs_refl _ | refine leOs.cons (by first | exact leO.same _ | (refine leO.box (leT_agg (by repeat (first | exact leL_refl _ | refine leL_cons (by first | exact leT_refl _ | exact leT_virt | exact leT_junk _ | exact leT_sl | exact leT_sln | exact leT_nil | (refine leT_agg (by repeat (first | exact leL_refl _ | refine leL_cons (by first | exact leT_refl _ | exact leT_sl | exact leT_sln | exact leT_nil) ?_)))) ?_))) rfl) | (refine leO.box (by first | exact leT_virt | exact leT_sl | exact leT_sln) rfl)) ?_)) | (repeat (first | exact leL_refl _ | refine leL_cons (by first | exact leT_refl _ | exact leT_virt | exact leT_junk _ | exact leT_sl | exact leT_sln | exact leT_nil | (refine leT_agg (by repeat (first | exact leL_refl _ | refine leL_cons (by first | exact leT_refl _ | exact leT_sl | exact leT_sln | exact leT_nil) ?_)))) ?_)))
end Go.Proofs.YtdjgldjebcoihaaDoorX

set_option linter.unusedVariables false
set_option linter.unusedSimpArgs false
namespace Go.Proofs.YtdjgldjebcoihaaDoorX
open Go Go.RowKit Go.Proofs
set_option maxRecDepth 100000
/-! ### strings.Builder's copyCheck: by hand (an address is stored in its own variable) -/
-- OWN 0 1 uint8
def F51 (n : Nat) (a0 : Bool × List Int) : Option (Bool × List Int) := some (true, a0.2)
theorem bld_store {w w' : World} {b : Nat} {v0 v1 u : Value} {fr : Nat × Nat} (h : w.heap[b]? = some (.cells #[v0, v1] 67 fr)) (hf : w.frozen? ⟨b, 0, none⟩ = false) (hu : leaf u = true)
  (hr : (Instr.storeAt 65 (.pointer (some ⟨b, 0, none⟩)) u).run Tryd.prog w = .ok () w') : w' = w.setCell ⟨b, 0, none⟩ u := by
 have hc : w.cell? ⟨b, 0, none⟩ = some v0 := by simp [World.cell?, h]
 have e : (Instr.storeAt 65 (.pointer (some ⟨b, 0, none⟩)) u).run Tryd.prog w = .ok () (w.setCell ⟨b, 0, none⟩ u) := by
  unfold Instr.storeAt
  rw [run_bind (show (Instr.sureAddr (.pointer (some (⟨b, 0, none⟩ : Addr)))).run Tryd.prog w = .ok (⟨b, 0, none⟩ : Addr) w from rfl)]
  obtain ⟨inf, hinf, hs⟩ : ∃ j, Tryd.prog.info? 65 = some j ∧ j.size = 1 := Option.map_eq_some_iff.1 (show (Tryd.prog.info? 65).map (·.size) = some 1 by kernel_rfl)
  have hcs : u.cells = #[u] := by cases u <;> first | rfl | cases hu
  unfold storeVar
  rw [run_bind (run_sizeOf hinf), hs, hcs]
  simp only [List.size_toArray, List.length_cons, List.length_nil, Nat.zero_add, ne_eq, not_true_eq_false, if_false]
  show (storeCells ⟨b, 0, none⟩ [u] 0).run Tryd.prog w = _
  rw [storeCells, show (⟨b, 0, none⟩ : Addr).add 0 = ⟨b, 0, none⟩ from rfl, run_bind (run_store hc hf hu)]
  rfl
 rw [e] at hr
 injection hr with _ h2
 exact h2.symm
set_option maxHeartbeats 1000000 in
set_option maxRecDepth 100000 in
theorem bld_used (w : World) (b : Nat) (v1 : Value) (fr : Nat × Nat) (h : w.heap[b]? = some (.cells #[.pointer (some ⟨b, 0, none⟩), v1] 67 fr)) :
  Calls Tryd.prog 51 #[.pointer (some ⟨b, 0, none⟩)] w fun e w' => e = .returned (.tuple #[]) ∧ w' = w := by
 have c0 : w.cell? ⟨b, 0, none⟩ = some (.pointer (some ⟨b, 0, none⟩)) := by simp [World.cell?, h]
 have hp : Tryd.prog.underlying 65 = some (.pointer 67) := by kernel_rfl
 obtain ⟨j, hj⟩ : ∃ j, Tryd.prog.info? 67 = some j := Option.isSome_iff_exists.1 (by kernel_rfl)
 go_enter Tryd.func51, Tryd.ntmps51
 go_wp2
 rw [Lib.run_neq_ptr_same w _ hp hj]
 go_wp2
 go_end0
 exact ⟨rfl, rfl⟩
set_option maxHeartbeats 1000000 in
set_option maxRecDepth 100000 in
theorem bld_fresh (w : World) (b : Nat) (v1 : Value) (fr : Nat × Nat) (h : w.heap[b]? = some (.cells #[.pointer none, v1] 67 fr)) (hfz : w.frozen? ⟨b, 0, none⟩ = false) :
  Calls Tryd.prog 51 #[.pointer (some ⟨b, 0, none⟩)] w fun e w' => e = .returned (.tuple #[]) ∧ w' = w.setCell ⟨b, 0, none⟩ (.pointer (some ⟨b, 0, none⟩)) := by
 have h0 : w.cell? ⟨b, 0, none⟩ = some (.pointer none) := by simp [World.cell?, h]
 have hsh : w.shape? b = some (67, 2) := by simp [World.shape?, h]
 have hp : Tryd.prog.underlying 65 = some (.pointer 67) := by kernel_rfl
 have hup : Tryd.prog.underlying 115 = some .unsafePointer := by kernel_rfl
 obtain ⟨j, hj, hjs⟩ : ∃ j, Tryd.prog.info? 67 = some j ∧ j.size = 2 := Option.map_eq_some_iff.1 (show (Tryd.prog.info? 67).map (·.size) = some 2 by kernel_rfl)
 go_enter Tryd.func51, Tryd.ntmps51
 go_wp2
 rw [Lib.run_to_unsafe w ⟨b, 0, none⟩ hp hup hj (by rw [hjs]; decide) hsh (Nat.zero_lt_succ 1)]
 simp only [Result.andThen]
 rw [Oper.upon_value]
 go_wp2
 rw [run_callFunc_extern Tryd.func72 (by kernel_rfl) (by kernel_rfl) (by kernel_rfl) (e := Extern.AbiNoEscape.same) (by kernel_rfl)]
 rw [Lib.run_noEscape]
 simp only [Result.andThen]
 rw [Oper.upon_value]
 go_wp2
 rw [Lib.run_from_unsafe w ⟨b, 0, none⟩ hup hp hj hsh (by kernel_rfl)]
 simp only [Result.andThen]
 rw [Oper.upon_value]
 go_wp2
 go_end0
 exact ⟨rfl, rfl⟩
def bldO (b : Bool) (l : List Int) : List (Option Own) := [some (.box (4294967296 + 67) (.agg [adT b 0, .rsl 1 1 0 l.length]) false), some (.buf 5 1 (List.map byteT l) 0)]
theorem bldO_at {w : World} {μ : Nat → Option Nat} {ban : Ban} {b : Bool} {l : List Int} (hO : Objs ⟨w, μ, bldO b l, ban⟩) : ∃ (g : Nat) (fr : Nat × Nat) (v1 : Value), μ 0 = some g ∧ w.heap[g]? = some (.cells #[if b = true then .pointer (some ⟨g, 0, none⟩) else .pointer none, v1] 67 fr) ∧ Unf fr 2 ∧ Rep ⟨w, μ, bldO b l, ban⟩ false (.rsl 1 1 0 l.length) v1 := by
 obtain ⟨g, fr, u, h1, h2, h3, h4, h5⟩ := hO.at_ 0 _ rfl
 simp only [Rep] at h4
 obtain ⟨cs, rfl, h4⟩ := h4
 simp only [RepL] at h4
 obtain ⟨v0, vs, e1, q1, v1, vs', e2, q2, e3⟩ := h4
 subst e3; subst e2
 have ec : cs = #[v0, v1] := by rw [← Array.toArray_toList (xs := cs), e1]
 subst ec
 have h1 : μ 0 = some g := h1
 have e0 : v0 = if b = true then .pointer (some ⟨g, 0, none⟩) else .pointer none := by
  cases b with
  | true =>
   have q1 : Rep _ false (.ref 0 7777 0 0) v0 := q1
   simp only [Rep] at q1
   obtain ⟨_, _, g', k1, rfl⟩ := q1
   obtain rfl : g' = g := Option.some.inj (k1.symm.trans h1)
   simp
  | false =>
   have q1 : Rep _ false (.imm (.pointer none)) v0 := q1
   simp only [Rep] at q1
   simp [q1.1]
 subst e0
 exact ⟨g, fr, v1, h1, h2, h3, by simp only [Rep] at q2 ⊢; exact q2⟩
theorem F51_ok (n : Nat) (a0 : Bool × List Int) (r : Bool × List Int) (h : F51 n a0 = some r) : FnR Tryd.prog 51 [some (.box (4294967296 + 67) (.agg [adT a0.1 0, .rsl 1 1 0 a0.2.length]) false), some (.buf 5 1 (List.map byteT a0.2) 0)] [.ref 0 0 0 0] (.tup []) [some (.box (4294967296 + 67) (.agg [adT r.1 0, .rsl 1 1 0 r.2.length]) false), some (.buf 5 1 (List.map byteT r.2) 0)] := by
 obtain rfl := Option.some.inj h
 obtain ⟨b, l⟩ := a0
 refine ⟨⟨Tryd.f51, Tryd.func51, by kernel_rfl, rfl⟩, by simp [rowsOk, refsC, refsCL, adT_refsC, tagM], by simp [sameO], by simp [refsC, refsCL], fun B μ vs hO hOwn hv => ?_⟩
 obtain ⟨g, fr, v1, h1, h2, h3, h4⟩ := bldO_at (b := b) (l := l) hO
 have evs : vs = #[.pointer (some ⟨g, 0, none⟩)] := by
  simp only [RepL, Rep] at hv
  obtain ⟨v, vs', e1, ⟨_, _, g', k1, rfl⟩, rfl⟩ := hv
  have k1 : μ 0 = some g' := k1
  rw [h1] at k1; cases k1
  rw [← Array.toArray_toList (xs := vs), e1]
 have hS : Sat B ⟨[.ref 0 0 0 0], bldO b l⟩ { tmps := vs, defers := [] } B.w μ := ⟨hv, rfl, hO, fun o x k q1 q2 q3 => by
  have q1 : (bldO b l)[o]? = some (some x) := q1
  obtain ⟨lk, hl⟩ : ∃ l, x.lock = some l := by cases x <;> first | exact ⟨_, rfl⟩ | exact absurd rfl q2
  exact .inr ⟨0, lk, (hOwn.1 k 0).2 ⟨rfl, o, (List.getElem?_eq_some_iff.1 q1).1, q3⟩, hl, Nat.zero_le _⟩, ⟨rfl, rfl, rfl, Nat.le_refl _, fun _ _ _ => rfl, fun _ _ _ _ _ => rfl, fun k lk _ c t fr h => ⟨c, fr, h, rfl⟩⟩⟩
 have hfz : B.w.frozen? ⟨g, 0, none⟩ = false := by
  have := h3.out (j := 0) (by omega)
  simp only [World.frozen?, h2]
  simpa using this
 rw [evs]
 cases b with
 | true =>
  refine (bld_used B.w g v1 fr (by simpa using h2)).mono ?_
  rintro e w' ⟨rfl, rfl⟩
  exact ⟨_, μ, rfl, hS.objs, by simp only [Rep, RepL]; exact ⟨#[], rfl, rfl⟩, hS.kept, fun o x k q1 q2 q3 => .inr ((hOwn.1 k 0).2 ⟨rfl, o, (List.getElem?_eq_some_iff.1 q1).1, q3⟩)⟩
 | false =>
  have h2' : B.w.heap[g]? = some (.cells #[.pointer none, v1] 67 fr) := by simpa using h2
  refine (bld_fresh B.w g v1 fr h2' hfz).mono ?_
  rintro e w' ⟨rfl, rfl⟩
  obtain ⟨r, eff, w', hK, hrun, hpost⟩ := store_sound (P := Tryd.prog) (k := 2) (t := 65) (x := .ref 0 0 0 0) (v := .ref 0 7777 0 0) (look := lookS ⟨[.ref 0 0 0 0], bldO false l⟩) (p := .pointer (some ⟨g, 0, none⟩)) (u := .pointer (some ⟨g, 0, none⟩)) (K := fun r eff => eff = .put 0 (.box (4294967296 + 67) (.agg [.ref 0 7777 0 0, .rsl 1 1 0 l.length]) false)) hS
   (by simp [storeW, bldO, lookS, adT, go_sem]) (by simp only [Rep]; exact ⟨trivial, ⟨_, rfl⟩, g, h1, by simp⟩) (by simp only [Rep]; exact ⟨trivial, ⟨_, rfl⟩, g, h1, by simp⟩) (fun i x hx => lookS_some hx)
  subst hK
  have ew := bld_store h2' hfz rfl hrun
  subst ew
  obtain ⟨μ', hS', _⟩ := hpost
  refine ⟨_, μ', rfl, hS'.objs, by simp only [Rep, RepL]; exact ⟨#[], rfl, rfl⟩, hS'.kept, fun o x k q1 q2 q3 => ?_⟩
  rcases hS'.fresh o x k q1 q2 q3 with h | ⟨lk, lk', q4, _⟩
  ·exact .inl h
  ·have := ((hOwn.1 k lk).1 q4).1
   subst this
   exact .inr q4
end Go.Proofs.YtdjgldjebcoihaaDoorX

set_option linter.unusedVariables false
set_option linter.unusedSimpArgs false
namespace Go.Proofs.YtdjgldjebcoihaaDoorX
open Go Go.RowKit Go.Proofs
set_option maxRecDepth 100000
attribute [local go_sem ↓] stepsK_build stepsK_bs appendS
attribute [local go_sem] String.reduceEq String.reduceNe reduceCtorEq Int.reduceEq Nat.reduceAdd Nat.reduceSub Nat.reduceMul Nat.reduceLT Nat.reduceLeDiff Nat.reduceEqDiff Nat.reduceBEq Int.reduceToNat Int.reduceLT Int.reduceLE Int.reduceGT Int.reduceGE Int.reduceAdd Int.reduceSub Int.reduceMul Int.reduceNeg Int.reduceBEq Int.reduceBNe Int.reducePow Int.reduceDiv Int.reduceMod Int.reduceTDiv Int.reduceTMod Int.reduceNatCast
/-! ### (*strings.Builder).WriteString -/
def F30 (n : Nat) (a0 : (Bool) × (List (Int))) (a1 : List UInt8) : Option ((Int) × (Unit) × ((Bool) × (List (Int)))) := (F51 n (a0.1, a0.2)).bind fun v1 => grd ((v1.2.length + a1.length) ≤ 549755813888) (some ((a1.length : Int), (), (v1.1, (v1.2 ++ (a1.map ofB)))))
set_option maxHeartbeats 4000000 in
theorem F30_ok : ∀ (n : Nat) (a0 : (Bool) × (List (Int))) (a1 : List UInt8) (r : (Int) × (Unit) × ((Bool) × (List (Int)))), F30 n a0 a1 = some r → FnR Tryd.prog 30 [some (.box 4294967363 (.agg [adT a0.1 0, .rsl 1 1 0 a0.2.length]) false), some (.buf 5 1 (List.map byteT a0.2) 0)] [.ref 0 0 0 0, .imm (.string (bs a1))] (.tup [.imm (.int .i64 r.1), .imm .nilIface]) [some (.box 4294967363 (.agg [adT r.2.2.1 0, .rsl 1 1 0 r.2.2.2.length]) false), some (.buf 5 1 (List.map byteT r.2.2.2) 0)]
 | n, a0, a1, r, h => by
  unfold F30 at h
  refine FnR.goX mixed [4, 5] Tryd.func30 (by kernel_rfl) rfl (by simp [rowsOk, refsC, refsCL, adT_refsC, tagM]) (by simp [sameO]) (by simp [refsC, refsCL]) ?_
  simp only [Tryd.ntmps30, List.length_cons, List.length_nil, List.replicate, List.cons_append, List.nil_append, Nat.reduceAdd, Nat.reduceSub]
  refine runX_seq ?_
  refine runX_regionC fun C hC => ?_
  try simp -implicitDefEqProofs (maxSteps := 4000000) (disch := first | omega | decide | (simp only [go_sem]; omega)) only [go_sem, ↓reduceIte]
  repeat (with_reducible refine And.intro (by first | assumption | omega | (simp; done) | (simp; omega)) ?_)
  refine toEnd hC ?_
  refine endX_seq ?_
  refine runX_seq ?_
  refine runX_regionC fun C hC => ?_
  obtain ⟨v1, h1, h⟩ := bnd_some h
  try simp -implicitDefEqProofs (maxSteps := 4000000) (disch := first | omega | decide | (simp only [go_sem]; omega)) only [go_sem, ↓reduceIte]
  repeat (with_reducible refine And.intro (by first | assumption | omega | (simp; done) | (simp; omega)) ?_)
  refine callR_X [0, 1] (F51_ok n (a0.1, a0.2) _ h1) (by decide) (by (try simp -implicitDefEqProofs (maxSteps := 4000000) (disch := first | omega | decide | (simp only [go_sem]; omega)) only [go_sem, ↓reduceIte]); repeat (first | exact trivial | refine And.intro ?_ ?_ | exact fun _ => trivial | exact fun _ _ => trivial | exact fun _ _ h => h | rfl | decide)) (by (try simp -implicitDefEqProofs (maxSteps := 4000000) (disch := first | omega | decide | (simp only [go_sem]; omega)) only [go_sem, ↓reduceIte]); repeat (first | exact leL_refl _ | refine leL_cons (by first | exact leT_refl _ | exact leT_virt | exact leT_junk _ | exact leT_sl | exact leT_sln | exact leT_nil | (refine leT_agg (by repeat (first | exact leL_refl _ | refine leL_cons (by first | exact leT_refl _ | exact leT_sl | exact leT_sln | exact leT_nil) ?_)))) ?_)) ?_
  try simp -implicitDefEqProofs (maxSteps := 4000000) (disch := first | omega | decide | (simp only [go_sem]; omega)) only [go_sem, ↓reduceIte]
  repeat (with_reducible refine And.intro (by first | assumption | omega | (simp; done) | (simp; omega)) ?_)
  refine toEnd hC ?_
  refine endX_seq ?_
  refine runX_seq ?_
  refine runX_regionC fun C hC => ?_
  obtain ⟨g2, h⟩ := grd_some h
  try simp -implicitDefEqProofs (maxSteps := 4000000) (disch := first | omega | decide | (simp only [go_sem]; omega)) only [go_sem, ↓reduceIte]
  repeat (with_reducible refine And.intro (by first | assumption | omega | (simp; done) | (simp; omega)) ?_)
  refine toEnd hC ?_
  refine endX_seq ?_
  refine runX_seq ?_
  refine runX_regionC fun C hC => ?_
  try simp -implicitDefEqProofs (maxSteps := 4000000) (disch := first | omega | decide | (simp only [go_sem]; omega)) only [go_sem, ↓reduceIte]
  repeat (with_reducible refine And.intro (by first | assumption | omega | (simp; done) | (simp; omega)) ?_)
  refine toEnd hC ?_
  refine endX_seq ?_
  refine runX_ret ?_
  refine endX_q ?_
  obtain rfl := Option.some.inj h
  show RetR _ _ _ _ _ _ _ _
  simp only [RetR]
  (try simp -implicitDefEqProofs (maxSteps := 4000000) (disch := first | omega | decide | (simp only [go_sem]; omega)) only [go_sem, ↓reduceIte])
  exact ⟨leOs_refl _, leT_refl _⟩
end Go.Proofs.YtdjgldjebcoihaaDoorX

set_option linter.unusedVariables false
set_option linter.unusedSimpArgs false
namespace Go.Proofs.YtdjgldjebcoihaaDoorX
open Go Go.RowKit Go.Proofs
set_option maxRecDepth 100000
/-! ### strings.Builder's String: by hand (the text shares the bytes: the row is given up) -/
-- OWN 0 1 uint8
-- DEAD 0
def F31 (n : Nat) (a0 : Bool × List Int) : Option (List UInt8 × (Bool × List Int)) := if a0.2.length ≤ 549755813888 ∧ (a0.2.all fun x => decide (0 ≤ x) && decide (x < 256)) = true then some (a0.2.map toB, a0) else none
-- F51
set_option maxHeartbeats 2000000 in
set_option maxRecDepth 100000 in
theorem bst_row (b g cap sz : Nat) (p : Value) (l : List UInt8) (h0 : l ≠ []) (hl : l.length ≤ 549755813888) (w : World) (fr fr' : Nat × Nat) (cur : Array Value) (hbk : w.heap[b]? = some (.cells #[p, .slice (some ⟨g, 0, none⟩) l.length cap] 67 fr)) (hg : w.heap[g]? = some (.cells cur 5 fr')) (hc : cap ≠ 0) (hsz : l.length ≤ cur.size)
  (hcell : ∀ j x, l[j]? = some x → w.cell? ((⟨g, 0, none⟩ : Addr).add j) = some (.int .u8 x.toNat)) :
  Calls Tryd.prog 31 #[.pointer (some ⟨b, 0, none⟩)] w fun e w' => e = .returned (.string ⟨l.toArray⟩) ∧ w' = w.drew.freeze ⟨g, 0, none⟩ l.length := by
 have c1 : w.drew.cell? ⟨b, 1, none⟩ = some (.slice (some ⟨g, 0, none⟩) l.length cap) := by
  have : w.drew.heap[b]? = some (.cells #[p, .slice (some ⟨g, 0, none⟩) l.length cap] 67 fr) := hbk
  simp [World.cell?, this]
 have hSD : (Builtin.unsafeSliceData_ #[23] 89 #[.slice (some ⟨g, 0, none⟩) l.length cap]).run Tryd.prog w.drew = .ok (.pointer (some ⟨g, 0, none⟩)) w.drew :=
  Lib.run_unsafeSliceData_row _ _ _ _ _ _ hc
 have hUS : (Builtin.unsafeString_ #[89, 3] 9 #[.pointer (some ⟨g, 0, none⟩), .int .i64 l.length]).run Tryd.prog w.drew = .ok (.string ⟨l.toArray⟩) (w.drew.freeze ⟨g, 0, none⟩ l.length) := by
  refine Lib.run_unsafeString_row w.drew 89 3 9 5 (by kernel_rfl) (by kernel_rfl) g cur.size (by have hg' : w.drew.heap[g]? = some (.cells cur 5 fr') := hg; simp [World.shape?, hg']) l h0 hsz (by omega) ?_
  intro j x hx
  exact hcell j x hx
 go_enter Tryd.func31, Tryd.ntmps31
 go_wp2
 go_region
 all_goals (go_wp2; go_ret; exact ⟨rfl, rfl⟩)
set_option maxHeartbeats 2000000 in
set_option maxRecDepth 100000 in
theorem bst_nil (b : Nat) (p : Value) (w : World) (fr : Nat × Nat) (hbk : w.heap[b]? = some (.cells #[p, .slice none 0 0] 67 fr)) :
  Calls Tryd.prog 31 #[.pointer (some ⟨b, 0, none⟩)] w fun e w' => e = .returned (.string ⟨#[]⟩) ∧ Below w.heap.size w w' := by
 have hUS : ∀ (W : World) (q : Option Addr), (Builtin.unsafeString_ #[89, 3] 9 #[.pointer q, .int .i64 0]).run Tryd.prog W = .ok (.string .empty) W := fun W q => Lib.run_unsafeString_none W _ _ _ q
 have c1 : w.drew.cell? ⟨b, 1, none⟩ = some (.slice none 0 0) := by
  have : w.drew.heap[b]? = some (.cells #[p, .slice none 0 0] 67 fr) := hbk
  simp [World.cell?, this]
 have hSD : (Builtin.unsafeSliceData_ #[23] 89 #[.slice none 0 0]).run Tryd.prog w.drew = .ok (.pointer none) w.drew := rfl
 go_enter Tryd.func31, Tryd.ntmps31
 go_wp2
 go_region
 all_goals (go_wp2; go_ret; exact ⟨rfl, Below.drew (Below.refl _ w)⟩)
set_option maxHeartbeats 2000000 in
set_option maxRecDepth 100000 in
theorem bst_noroom (b : Nat) (a : Addr) (p : Value) (w : World) (fr fr' : Nat × Nat) (cur : Array Value) (t : TypeId) (hbk : w.heap[b]? = some (.cells #[p, .slice (some a) 0 0] 67 fr)) (hg : w.heap[a.block]? = some (.cells cur t fr')) :
  Calls Tryd.prog 31 #[.pointer (some ⟨b, 0, none⟩)] w fun e w' => e = .returned (.string ⟨#[]⟩) ∧ Below w.heap.size w w' := by
 have hUS : ∀ (W : World) (q : Option Addr), (Builtin.unsafeString_ #[89, 3] 9 #[.pointer q, .int .i64 0]).run Tryd.prog W = .ok (.string .empty) W := fun W q => Lib.run_unsafeString_none W _ _ _ q
 have hlt : b < w.heap.size := (Array.getElem?_eq_some_iff.1 hbk).1
 have c1 : w.drew.cell? ⟨b, 1, none⟩ = some (.slice (some a) 0 0) := by
  have : w.drew.heap[b]? = some (.cells #[p, .slice (some a) 0 0] 67 fr) := hbk
  simp [World.cell?, this]
 have hSD : (Builtin.unsafeSliceData_ #[23] 89 #[.slice (some a) 0 0]).run Tryd.prog w.drew = .ok (.pointer (some ⟨w.drew.heap.size, 0, none⟩)) (w.drew.alloc (.view a 5)) :=
  Lib.run_unsafeSliceData_zero w.drew _ _ 5 (by kernel_rfl) a 0 (t, cur.size) (by have hg' : w.drew.heap[a.block]? = some (.cells cur t fr') := hg; simp [World.shape?, hg'])
 have c2 : (w.drew.alloc (.view a 5)).cell? ⟨b, 1, none⟩ = some (.slice (some a) 0 0) := by
  have : (w.drew.alloc (.view a 5)).heap[b]? = _ := (Lib.alloc_old w.drew _ b hlt).trans hbk
  simp [World.cell?, this]
 have c3 : (w.alloc (.view a 5)).drew.cell? ⟨b, 1, none⟩ = some (.slice (some a) 0 0) := c2
 have c0 : w.cell? ⟨b, 1, none⟩ = some (.slice (some a) 0 0) := c1
 go_enter Tryd.func31, Tryd.ntmps31
 go_wp2
 go_region
 all_goals (go_wp2; go_ret; exact ⟨rfl, (Below.drew (Below.refl _ w)).alloc (Nat.le_refl _) _⟩)
set_option maxHeartbeats 2000000 in
set_option maxRecDepth 100000 in
theorem bst_room (b cap : Nat) (a : Addr) (p : Value) (w : World) (fr : Nat × Nat) (hc0 : cap ≠ 0) (hbk : w.heap[b]? = some (.cells #[p, .slice (some a) 0 cap] 67 fr)) :
  Calls Tryd.prog 31 #[.pointer (some ⟨b, 0, none⟩)] w fun e w' => e = .returned (.string ⟨#[]⟩) ∧ Below w.heap.size w w' := by
 have hUS : ∀ (W : World) (q : Option Addr), (Builtin.unsafeString_ #[89, 3] 9 #[.pointer q, .int .i64 0]).run Tryd.prog W = .ok (.string .empty) W := fun W q => Lib.run_unsafeString_none W _ _ _ q
 have c1 : w.drew.cell? ⟨b, 1, none⟩ = some (.slice (some a) 0 cap) := by
  have : w.drew.heap[b]? = some (.cells #[p, .slice (some a) 0 cap] 67 fr) := hbk
  simp [World.cell?, this]
 have hSD : (Builtin.unsafeSliceData_ #[23] 89 #[.slice (some a) 0 cap]).run Tryd.prog w.drew = .ok (.pointer (some a)) w.drew :=
  Lib.run_unsafeSliceData_row _ _ _ _ _ _ hc0
 clear hc0
 go_enter Tryd.func31, Tryd.ntmps31
 go_wp2
 go_region
 all_goals (go_wp2; go_ret; exact ⟨rfl, Below.drew (Below.refl _ w)⟩)
def bldD (b : Bool) : List (Option Own) := [some (.box (4294967296 + 67) (.agg [adT b 0, .junk]) false), some .dead]
theorem bst_objs {w w' : World} {μ : Nat → Option Nat} {ban : Ban} {b : Bool} {l : List Int} {g : Nat} {fr : Nat × Nat} {v1 : Value} (hO : Objs ⟨w, μ, bldO b l, ban⟩) (h1 : μ 0 = some g)
  (h2 : w'.heap[g]? = some (.cells #[if b = true then .pointer (some ⟨g, 0, none⟩) else .pointer none, v1] 67 fr)) (h3 : Unf fr 2) : Objs ⟨w', μ, bldD b, ban⟩ := by
 obtain ⟨g', _, _, k1, _, _, _, _, hp⟩ := hO.at_ 0 _ rfl
 have k1 : μ 0 = some g' := k1
 obtain rfl : g' = g := Option.some.inj (k1.symm.trans h1)
 refine ⟨fun o x hx => ?_, fun o o' x x' q hx hx' hd hd' _ _ => ?_⟩
 ·match o, hx with
  | 0, hx =>
   have hx : some (some (Own.box (4294967296 + 67) (.agg [adT b 0, .junk]) false)) = some (some x) := hx
   injection hx with hx; injection hx with hx; subst hx
   refine ⟨g', fr, .agg #[if b = true then .pointer (some ⟨g', 0, none⟩) else .pointer none, v1], h1, h2, h3, ?_, rfl, hp⟩
   simp only [Rep]
   refine ⟨_, rfl, ?_⟩
   simp only [RepL]
   refine ⟨_, _, rfl, ?_, _, _, rfl, by simp only [Rep], rfl⟩
   cases b with
   | true =>
    show Rep _ false (.ref 0 7777 0 0) _
    simp only [Rep]
    exact ⟨trivial, ⟨_, rfl⟩, g', h1, by simp⟩
   | false =>
    show Rep _ false (.imm (.pointer none)) _
    simp [Rep, flat]
  | 1, hx =>
   have hx : some (some Own.dead) = some (some x) := hx
   injection hx with hx; injection hx with hx; subst hx
   trivial
  | o + 2, hx => exact absurd (show (none : Option (Option Own)) = some (some x) from hx) (by simp)
 ·match o, o', hx, hx' with
  | 0, 0, _, _ => rfl
  | 1, _, hx, _ =>
   have hx : some (some Own.dead) = some (some x) := hx
   injection hx with hx; injection hx with hx; exact absurd hx.symm hd
  | _, 1, _, hx =>
   have hx : some (some Own.dead) = some (some x') := hx
   injection hx with hx; injection hx with hx; exact absurd hx.symm hd'
  | o + 2, _, hx, _ => exact absurd (show (none : Option (Option Own)) = some (some x) from hx) (by simp)
  | 0, o + 2, _, hx => exact absurd (show (none : Option (Option Own)) = some (some x') from hx) (by simp)
theorem bst_bytes (l : List Int) (h : (l.all fun x => decide (0 ≤ x) && decide (x < 256)) = true) (j : Nat) (x : UInt8) (hx : (l.map toB)[j]? = some x) : l[j]? = some (x.toNat : Int) := by
 rw [List.getElem?_map] at hx
 cases hl : l[j]? with
 | none => rw [hl] at hx; cases hx
 | some y =>
  rw [hl] at hx
  have hx : toB y = x := Option.some.inj hx
  obtain ⟨hj, e⟩ := List.getElem?_eq_some_iff.1 hl
  have hy := List.all_eq_true.1 h y (e ▸ List.getElem_mem hj)
  simp only [Bool.and_eq_true, decide_eq_true_eq] at hy
  subst hx
  simp only [toB, Option.some.injEq]
  rw [UInt8.toNat_ofNat', Nat.mod_eq_of_lt (by omega)]
  omega
theorem bst_inj : ∀ l ns : List Int, List.map byteT l = List.map byteT ns → l = ns
 | [], [], _ => rfl
 | [], _ :: _, h => by simp at h
 | _ :: _, [], h => by simp at h
 | x :: l, y :: ns, h => by
  simp only [List.map_cons, List.cons.injEq] at h
  obtain ⟨h1, h2⟩ := h
  have h1 : T.imm (.int .u8 x) = T.imm (.int .u8 y) := h1
  injection h1 with h1; injection h1 with _ h1
  rw [h1, bst_inj l ns h2]
theorem bst_kept {B : Base} {q n : Nat} (h : B.own q 0) (hz : ∀ k lk, B.own k lk → lk = 0) : Kept B (B.w.drew.freeze ⟨q, 0, none⟩ n) := by
 unfold World.freeze
 split
 ·exact Kept.below ⟨rfl, rfl, rfl, Nat.le_refl _, fun _ _ _ => rfl, fun _ _ _ _ _ => rfl, fun k lk _ c t fr h => ⟨c, fr, h, rfl⟩⟩ (Below.drew (Below.refl _ _))
 ·refine ⟨rfl, rfl, rfl, ?_, fun k hk h1 => ?_, fun k lk h1 j hj => ?_, fun k lk h1 c t fr hb => ?_⟩
  ·show _ ≤ (B.w.heap.modify _ _).size
   rw [Array.size_modify]; exact Nat.le_refl _
  ·show (B.w.heap.modify _ _)[k]? = _
   rw [Array.getElem?_modify, if_neg (show ¬ q = k from fun e => h1 0 (e ▸ h))]
  ·rw [hz k lk h1] at hj; omega
  ·show ∃ c' fr', (B.w.heap.modify _ _)[k]? = _ ∧ _
   rw [Array.getElem?_modify]
   split
   ·rw [hb]; exact ⟨c, _, rfl, rfl⟩
   ·exact ⟨c, fr, hb, rfl⟩
theorem F31_ok (n : Nat) (a0 : Bool × List Int) (r : List UInt8 × (Bool × List Int)) (h : F31 n a0 = some r) : FnR Tryd.prog 31 [some (.box (4294967296 + 67) (.agg [adT a0.1 0, .rsl 1 1 0 a0.2.length]) false), some (.buf 5 1 (List.map byteT a0.2) 0)] [.ref 0 0 0 0] (.imm (.string (bs r.1))) [some (.box (4294967296 + 67) (.agg [adT r.2.1 0, .junk]) false), some .dead] := by
 unfold F31 at h
 split at h
 case isFalse => cases h
 rename_i hl
 obtain ⟨hl, hb⟩ := hl
 obtain rfl := Option.some.inj h
 obtain ⟨b, l⟩ := a0
 dsimp only at hl hb ⊢
 refine ⟨⟨Tryd.f31, Tryd.func31, by kernel_rfl, rfl⟩, by simp [rowsOk, refsC, refsCL, adT_refsC, tagM], by simp [sameO], by simp [refsC, refsCL], fun B μ vs hO hOwn hv => ?_⟩
 obtain ⟨g, fr, v1, h1, h2, h3, h4⟩ := bldO_at (b := b) (l := l) hO
 have evs : vs = #[.pointer (some ⟨g, 0, none⟩)] := by
  simp only [RepL, Rep] at hv
  obtain ⟨v, vs', e1, ⟨_, _, g', k1, rfl⟩, rfl⟩ := hv
  have k1 : μ 0 = some g' := k1
  rw [h1] at k1; cases k1
  rw [← Array.toArray_toList (xs := vs), e1]
 have hk0 : Kept B B.w := ⟨rfl, rfl, rfl, Nat.le_refl _, fun _ _ _ => rfl, fun _ _ _ _ _ => rfl, fun k lk _ c t fr h => ⟨c, fr, h, rfl⟩⟩
 have hlt : g < B.w.heap.size := (Array.getElem?_eq_some_iff.1 h2).1
 have hown : ∀ (o : Nat) (x : Own) (q : Nat), (bldD b)[o]? = some (some x) → x ≠ .dead → μ o = some q → B.w.heap.size ≤ q ∨ B.own q 0 := fun o x q q1 q2 q3 =>
  .inr ((hOwn.1 q 0).2 ⟨rfl, o, (List.getElem?_eq_some_iff.1 q1).1, q3⟩)
 have hout : ∀ (e : Ending) (w' : World), l = [] → e = .returned (.string ⟨#[]⟩) ∧ Below B.w.heap.size B.w w' → ∃ u μ', e = .returned u ∧ Objs ⟨w', μ', bldD b, B.ban⟩ ∧ Rep ⟨w', μ', bldD b, B.ban⟩ false (.imm (.string (bs (l.map toB)))) u ∧ Kept B w' ∧
   (∀ (o : Nat) (x : Own) (q : Nat), (bldD b)[o]? = some (some x) → x ≠ .dead → μ' o = some q → B.w.heap.size ≤ q ∨ B.own q 0) := by
  rintro e w' rfl ⟨rfl, hw⟩
  exact ⟨_, μ, rfl, bst_objs hO h1 ((hw.block g hlt).trans h2) h3, by simp only [Rep]; exact ⟨rfl, rfl⟩, hk0.below hw, hown⟩
 rw [evs]
 simp only [Rep] at h4
 obtain ⟨_, _, h4⟩ := h4
 rcases h4 with ⟨_, hl0, _, ⟨a, ha⟩, rfl⟩ | ⟨q, p, cap, c, t, fr', m1, rfl, m2, m3, m4, m5⟩
 ·have e : l = [] := List.eq_nil_of_length_eq_zero hl0
  cases a with
  | none => exact (bst_nil g _ B.w fr h2).mono fun e' w' h' => hout e' w' e h'
  | some a =>
   obtain ⟨c, t, fr', hc⟩ := ha a rfl
   exact (bst_noroom g a _ B.w fr fr' c t h2 hc).mono fun e' w' h' => hout e' w' e h'
 ·by_cases e : l = []
  ·subst e
   by_cases hc : cap = 0
   ·subst hc
    exact (bst_noroom g ⟨q, p, none⟩ _ B.w fr fr' c t h2 m4).mono fun e' w' h' => hout e' w' rfl h'
   ·exact (bst_room g cap ⟨q, p, none⟩ _ B.w fr hc h2).mono fun e' w' h' => hout e' w' rfl h'
  ·have hll : l.length ≠ 0 := fun h => e (List.eq_nil_of_length_eq_zero h)
   have hc : cap ≠ 0 := by omega
   have hp : p = 0 := by rcases m3 with h | h; exact absurd h hc; omega
   subst hp
   obtain ⟨_, hbuf⟩ := hO.at_ 1 _ rfl
   rcases hbuf with ⟨_, h0⟩ | ⟨q', c', fr2, c1, c2, n1, n2, n3, n4, n5⟩
   ·exact absurd (List.map_eq_nil_iff.1 h0) e
   have n1 : μ 1 = some q' := n1
   obtain rfl : q' = q := Option.some.inj (n1.symm.trans m1)
   have n2 : B.w.heap[q']? = some (.cells c' 5 fr2) := n2
   obtain ⟨ns, e1, e2⟩ := bytes_rep n5 (fun x hx => by obtain ⟨y, _, rfl⟩ := List.mem_map.1 hx; rfl)
   obtain rfl := bst_inj _ _ e2
   have hsz : (l.map toB).length ≤ c'.size := by
    rw [← Array.length_toList, n4, e1]; simp
   have hcell : ∀ j x, (l.map toB)[j]? = some x → B.w.cell? ((⟨q', 0, none⟩ : Addr).add j) = some (.int .u8 x.toNat) := by
    intro j x hx
    have hj := bst_bytes l hb j x hx
    have hjl : j < c1.length := by rw [e1, List.length_map]; exact (List.getElem?_eq_some_iff.1 hj).1
    have : c'[j]? = some (.int .u8 x.toNat) := by
     rw [← Array.getElem?_toList, n4, List.getElem?_append_left hjl, e1, List.getElem?_map, hj]; rfl
    have ea : ((⟨q', 0, none⟩ : Addr).add j) = ⟨q', j, none⟩ := by
     unfold Addr.add
     split
     ·subst_vars; rfl
     ·simp
    rw [ea]
    simp only [World.cell?, n2]
    exact this
   have hne : g ≠ q' := fun e' => by
    have := hO.inj 0 1 _ _ g rfl rfl (by simp) (by simp) h1 (e' ▸ n1)
    omega
   have h2' : B.w.heap[g]? = some (.cells #[if b = true then .pointer (some ⟨g, 0, none⟩) else .pointer none, .slice (some ⟨q', 0, none⟩) (l.map toB).length cap] 67 fr) := by rw [List.length_map]; exact h2
   refine (bst_row g q' cap c'.size _ (l.map toB) (by simpa using e) (by rw [List.length_map]; exact hl) B.w fr fr2 c' h2' n2 hc hsz hcell).mono ?_
   rintro e' w' ⟨rfl, rfl⟩
   have hw : (B.w.drew.freeze ⟨q', 0, none⟩ (l.map toB).length).heap[g]? = B.w.heap[g]? := by
    unfold World.freeze
    split
    ·rfl
    ·show (B.w.heap.modify _ _)[g]? = _
     rw [Array.getElem?_modify, if_neg (fun h => hne h.symm)]
   exact ⟨_, μ, rfl, bst_objs hO h1 (hw.trans h2) h3, by simp only [Rep]; exact ⟨rfl, rfl⟩, bst_kept ((hOwn.1 q' 0).2 ⟨rfl, 1, by simp, n1⟩) (fun k lk h => ((hOwn.1 k lk).1 h).1), hown⟩
end Go.Proofs.YtdjgldjebcoihaaDoorX

set_option linter.unusedVariables false
set_option linter.unusedSimpArgs false
namespace Go.Proofs.YtdjgldjebcoihaaDoorX
open Go Go.RowKit Go.Proofs
set_option maxRecDepth 100000
attribute [local go_sem ↓] stepsK_build stepsK_bs appendS
attribute [local go_sem] String.reduceEq String.reduceNe reduceCtorEq Int.reduceEq Nat.reduceAdd Nat.reduceSub Nat.reduceMul Nat.reduceLT Nat.reduceLeDiff Nat.reduceEqDiff Nat.reduceBEq Int.reduceToNat Int.reduceLT Int.reduceLE Int.reduceGT Int.reduceGE Int.reduceAdd Int.reduceSub Int.reduceMul Int.reduceNeg Int.reduceBEq Int.reduceBNe Int.reducePow Int.reduceDiv Int.reduceMod Int.reduceTDiv Int.reduceTMod Int.reduceNatCast
/-! ### header.Put -/
def F17_S1 (a0 : List ((List UInt8) × (List UInt8))) (x1 : Int) (x2 : Bool) (x3 : List (Int)) : St := ⟨[.junk, .junk, .junk, .ref 0 0 0 0, .junk, .junk, .sl 2 false (List.map eT41 a0), .imm (.int .i64 (a0.length : Int)), .imm (.int .i64 x1), .junk, .junk, .junk, .junk, .junk, .junk, .junk, .junk, .junk, .junk, .junk, .junk, .junk], [some (.box 67 (.agg [adT x2 0, .rsl 1 1 0 x3.length]) false), some (.buf 5 1 (List.map byteT x3) 0)]⟩
def F17_L1 : Nat → (List ((List UInt8) × (List UInt8))) → (Int) → (Bool) → (List (Int)) → Option (List UInt8)
 | 0, _, _, _, _ => none
 | m1 + 1, a0, x1, x2, x3 => iteB (decide (x1 < (a0.length : Int))) (grd (0 ≤ x1 ∧ x1 < (a0.length : Int)) (grd (((a0.getD x1.toNat default).1).length + 2 ≤ 9223372036854775807) (grd ((((a0.getD x1.toNat default).1).length + 2) + ((a0.getD x1.toNat default).2).length ≤ 9223372036854775807) (grd ((((a0.getD x1.toNat default).1).length + ((a0.getD x1.toNat default).2).length + 2) + 2 ≤ 9223372036854775807) ((F30 m1 (x2, x3) (((((a0.getD x1.toNat default).1) ++ ([58, 32] : List UInt8)) ++ ((a0.getD x1.toNat default).2)) ++ ([13, 10] : List UInt8))).bind fun v9 => F17_L1 m1 a0 (IntKind.wrap .i64 (x1 + (1 : Int))) v9.2.2.1 v9.2.2.2))))) ((F31 m1 (x2, x3)).bind fun v10 => some v10.1)
def F17 (n : Nat) (a0 : List ((List UInt8) × (List UInt8))) : Option (List UInt8) := F17_L1 n a0 (0 : Int) false []
set_option maxHeartbeats 4000000 in
theorem F17_ok : ∀ (n : Nat) (a0 : List ((List UInt8) × (List UInt8))) (r : List UInt8), F17 n a0 = some r → FnC Tryd.prog 17 [.sl 2 false (List.map eT41 a0)] (.imm (.string (bs r)))
 | n, a0, r, h => by
  unfold F17 at h
  refine FnC.goX mixed Tryd.func17 (by kernel_rfl) rfl ?_
  simp only [Tryd.ntmps17, List.length_cons, List.length_nil, List.replicate, List.cons_append, List.nil_append, Nat.reduceAdd, Nat.reduceSub]
  refine runX_seq ?_
  refine runX_regionC fun C hC => ?_
  try simp -implicitDefEqProofs (maxSteps := 4000000) (disch := first | omega | decide | (simp only [go_sem]; omega)) only [go_sem, ↓reduceIte]
  repeat (with_reducible refine And.intro (by first | assumption | omega | (simp; done) | (simp; omega)) ?_)
  refine toEnd hC ?_
  refine endX_seq ?_
  refine runX_seq ?_
  refine runX_regionC fun C hC => ?_
  try simp -implicitDefEqProofs (maxSteps := 4000000) (disch := first | omega | decide | (simp only [go_sem]; omega)) only [go_sem, ↓reduceIte]
  repeat (with_reducible refine And.intro (by first | assumption | omega | (simp; done) | (simp; omega)) ?_)
  refine toEnd hC ?_
  refine endX_seq ?_
  refine runX_seq ?_
  refine runX_seq ?_
  refine runX_regionC fun C hC => ?_
  try simp -implicitDefEqProofs (maxSteps := 4000000) (disch := first | omega | decide | (simp only [go_sem]; omega)) only [go_sem, ↓reduceIte]
  repeat (with_reducible refine And.intro (by first | assumption | omega | (simp; done) | (simp; omega)) ?_)
  refine toEnd hC ?_
  refine endX_seq ?_
  refine runX_block ?_
  refine runX_loop [3, 6, 7, 8] (fun m S => ∃ (x1 : Int) (x2 : Bool) (x3 : List (Int)), S = F17_S1 a0 x1 x2 x3 ∧ m ≤ n ∧ F17_L1 m a0 x1 x2 x3 = some r) n ⟨F17_S1 a0 (0 : Int) false [], ?_, (0 : Int), false, [], rfl, Nat.le_refl _, h⟩ ?_
  ·(try simp -implicitDefEqProofs (maxSteps := 4000000) (disch := first | omega | decide | (simp only [go_sem]; omega)) only [go_sem, ↓reduceIte])
   simp only [F17_S1]
   refine leS_trans (leS_pad _ _ 1) ?_
   simp only [List.replicate, List.cons_append, List.nil_append]
   refine leS_virt 1 5 1 rfl ?_ ?_ rfl
   ·repeat (first | exact leL_refl _ | refine leL_cons (by first | exact leT_refl _ | exact leT_virt | exact leT_junk _ | exact leT_sl | exact leT_sln | exact leT_nil | (refine leT_agg (by repeat (first | exact leL_refl _ | refine leL_cons (by first | exact leT_refl _ | exact leT_sl | exact leT_sln | exact leT_nil) ?_)))) ?_)
   ·repeat (first | exact leOs_refl _ | refine leOs.cons (by first | exact leO.same _ | (refine leO.box (leT_agg (by repeat (first | exact leL_refl _ | refine leL_cons (by first | exact leT_refl _ | exact leT_virt | exact leT_junk _ | exact leT_sl | exact leT_sln | exact leT_nil | (refine leT_agg (by repeat (first | exact leL_refl _ | refine leL_cons (by first | exact leT_refl _ | exact leT_sl | exact leT_sln | exact leT_nil) ?_)))) ?_))) rfl) | (refine leO.box (by first | exact leT_virt | exact leT_sl | exact leT_sln) rfl)) ?_)
  ·clear h
   rintro m1 S ⟨x1, x2, x3, rfl, hm1, h⟩
   cases m1 with
   | zero => first | cases (show (none : Option _) = some _ from h) | (rw [F17_L1] at h; cases h)
   | succ m1 =>
    rw [F17_L1] at h
    simp only [F17_S1]
    refine runX_seq ?_
    refine runX_regionC fun C hC => ?_
    try simp -implicitDefEqProofs (maxSteps := 4000000) (disch := first | omega | decide | (simp only [go_sem]; omega)) only [go_sem, ↓reduceIte]
    repeat (with_reducible refine And.intro (by first | assumption | omega | (simp; done) | (simp; omega)) ?_)
    refine toEnd hC ?_
    refine endX_seq ?_
    refine runX_seq ?_
    rcases iteB_some h with ⟨c4, h⟩ | ⟨c4, h⟩
    ·refine runX_condT rfl c4 ?_
     refine runX_skip ?_
     refine endX_seq ?_
     refine runX_seq ?_
     refine runX_block ?_
     refine runX_seq ?_
     refine runX_regionC fun C hC => ?_
     obtain ⟨g5, h⟩ := grd_some h
     try simp -implicitDefEqProofs (maxSteps := 4000000) (disch := first | omega | decide | (simp only [go_sem]; omega)) only [go_sem, ↓reduceIte]
     repeat (with_reducible refine And.intro (by first | assumption | omega | (simp; done) | (simp; omega)) ?_)
     refine toEnd hC ?_
     refine endX_seq ?_
     refine runX_regionC fun C hC => ?_
     obtain ⟨g6, h⟩ := grd_some h
     obtain ⟨g7, h⟩ := grd_some h
     obtain ⟨g8, h⟩ := grd_some h
     obtain ⟨v9, h9, h⟩ := bnd_some h
     try simp -implicitDefEqProofs (maxSteps := 4000000) (disch := first | omega | decide | (simp only [go_sem]; omega)) only [go_sem, ↓reduceIte]
     repeat (with_reducible refine And.intro (by first | assumption | omega | (simp; done) | (simp; omega)) ?_)
     refine callR_X [0, 1] (F30_ok m1 (x2, x3) (((((a0.getD x1.toNat default).1) ++ ([58, 32] : List UInt8)) ++ ((a0.getD x1.toNat default).2)) ++ ([13, 10] : List UInt8)) _ h9) (by decide) (by (try simp -implicitDefEqProofs (maxSteps := 4000000) (disch := first | omega | decide | (simp only [go_sem]; omega)) only [go_sem, ↓reduceIte]); repeat (first | exact trivial | refine And.intro ?_ ?_ | exact fun _ => trivial | exact fun _ _ => trivial | exact fun _ _ h => h | rfl | decide)) (by (try simp -implicitDefEqProofs (maxSteps := 4000000) (disch := first | omega | decide | (simp only [go_sem]; omega)) only [go_sem, ↓reduceIte]); repeat (first | exact leL_refl _ | refine leL_cons (by first | exact leT_refl _ | exact leT_virt | exact leT_junk _ | exact leT_sl | exact leT_sln | exact leT_nil | (refine leT_agg (by repeat (first | exact leL_refl _ | refine leL_cons (by first | exact leT_refl _ | exact leT_sl | exact leT_sln | exact leT_nil) ?_)))) ?_)) ?_
     try simp -implicitDefEqProofs (maxSteps := 4000000) (disch := first | omega | decide | (simp only [go_sem]; omega)) only [go_sem, ↓reduceIte]
     repeat (with_reducible refine And.intro (by first | assumption | omega | (simp; done) | (simp; omega)) ?_)
     refine toEnd hC ?_
     refine endX_blk ?_
     refine endX_seq ?_
     refine runX_regionC fun C hC => ?_
     try simp -implicitDefEqProofs (maxSteps := 4000000) (disch := first | omega | decide | (simp only [go_sem]; omega)) only [go_sem, ↓reduceIte]
     repeat (with_reducible refine And.intro (by first | assumption | omega | (simp; done) | (simp; omega)) ?_)
     refine toEnd hC ?_
     refine endX_q (roundQ_normal ⟨m1, by omega, F17_S1 a0 (IntKind.wrap .i64 (x1 + (1 : Int))) v9.2.2.1 v9.2.2.2, ?_, (IntKind.wrap .i64 (x1 + (1 : Int))), v9.2.2.1, v9.2.2.2, rfl, by omega, h⟩)
     simp only [F17_S1]
     (try simp -implicitDefEqProofs (maxSteps := 4000000) (disch := first | omega | decide | (simp only [go_sem]; omega)) only [go_sem, ↓reduceIte])
     first | exact leS_refl _ | (refine leS_le ?_ ?_ <;> first | exact leL_refl _ | exact leOs_refl _ | (simp only [List.append_assoc, List.cons_append, List.nil_append]; exact leOs_refl _) | (refine leOs.cons (by first | exact leO.same _ | (refine leO.box (leT_agg (by repeat (first | exact leL_refl _ | refine leL_cons (by first | exact leT_refl _ | exact leT_virt | exact leT_junk _ | exact leT_sl | exact leT_sln | exact leT_nil | (refine leT_agg (by repeat (first | exact leL_refl _ | refine leL_cons (by first | exact leT_refl _ | exact leT_sl | exact leT_sln | exact leT_nil) ?_)))) ?_))) rfl) | (refine leO.box (by first | exact leT_virt | exact leT_sl | exact leT_sln) rfl)) ?_; repeat (first | exact leOs_refl _ | refine leOs.cons (by first | exact leO.same _ | (refine leO.box (leT_agg (by repeat (first | exact leL_refl _ | refine leL_cons (by first | exact leT_refl _ | exact leT_virt | exact leT_junk _ | exact leT_sl | exact leT_sln | exact leT_nil | (refine leT_agg (by repeat (first | exact leL_refl _ | refine leL_cons (by first | exact leT_refl _ | exact leT_sl | exact leT_sln | exact leT_nil) ?_)))) ?_))) rfl) | (refine leO.box (by first | exact leT_virt | exact leT_sl | exact leT_sln) rfl)) ?_)) | (repeat (first | exact leL_refl _ | refine leL_cons (by first | exact leT_refl _ | exact leT_virt | exact leT_junk _ | exact leT_sl | exact leT_sln | exact leT_nil | (refine leT_agg (by repeat (first | exact leL_refl _ | refine leL_cons (by first | exact leT_refl _ | exact leT_sl | exact leT_sln | exact leT_nil) ?_)))) ?_)))
    ·refine runX_condF rfl c4 ?_
     refine runX_exit ?_
     refine endX_seqE ?_
     refine endX_q (roundQ_exit ?_)
     refine endX_blkE ?_
     refine endX_seq ?_
     refine runX_seq ?_
     refine runX_regionC fun C hC => ?_
     simp only [runK_region, runK_draw, liteL, liteL2, dstsL, gL, List.getD_cons_zero, List.getD_cons_succ]
     obtain ⟨v10, h10, h⟩ := bnd_some h
     try simp -implicitDefEqProofs (maxSteps := 4000000) (disch := first | omega | decide | (simp only [go_sem]; omega)) only [go_sem, ↓reduceIte]
     repeat (with_reducible refine And.intro (by first | assumption | omega | (simp; done) | (simp; omega)) ?_)
     refine callR_X [0, 1] (F31_ok m1 (x2, x3) _ h10) (by decide) (by (try simp -implicitDefEqProofs (maxSteps := 4000000) (disch := first | omega | decide | (simp only [go_sem]; omega)) only [go_sem, ↓reduceIte]); repeat (first | exact trivial | refine And.intro ?_ ?_ | exact fun _ => trivial | exact fun _ _ => trivial | exact fun _ _ h => h | rfl | decide)) (by (try simp -implicitDefEqProofs (maxSteps := 4000000) (disch := first | omega | decide | (simp only [go_sem]; omega)) only [go_sem, ↓reduceIte]); repeat (first | exact leL_refl _ | refine leL_cons (by first | exact leT_refl _ | exact leT_virt | exact leT_junk _ | exact leT_sl | exact leT_sln | exact leT_nil | (refine leT_agg (by repeat (first | exact leL_refl _ | refine leL_cons (by first | exact leT_refl _ | exact leT_sl | exact leT_sln | exact leT_nil) ?_)))) ?_)) ?_
     try simp -implicitDefEqProofs (maxSteps := 4000000) (disch := first | omega | decide | (simp only [go_sem]; omega)) only [go_sem, ↓reduceIte]
     repeat (with_reducible refine And.intro (by first | assumption | omega | (simp; done) | (simp; omega)) ?_)
     refine toEnd hC ?_
     refine endX_seq ?_
     refine runX_ret ?_
     refine endX_q ?_
     obtain rfl := Option.some.inj h
     show RetW _ _ _ _ _
     simp only [RetW]
     (try simp -implicitDefEqProofs (maxSteps := 4000000) (disch := first | omega | decide | (simp only [go_sem]; omega)) only [go_sem, ↓reduceIte])
     (try simp (disch := omega) only [if_pos, Nat.sub_zero])
     exact leT_refl _
end Go.Proofs.YtdjgldjebcoihaaDoorX

set_option linter.unusedVariables false
set_option linter.unusedSimpArgs false
namespace Go.Proofs.YtdjgldjebcoihaaDoorX
open Go Go.RowKit Go.Proofs
set_option maxRecDepth 100000
attribute [local go_sem ↓] stepsK_build stepsK_bs appendS
attribute [local go_sem] String.reduceEq String.reduceNe reduceCtorEq Int.reduceEq Nat.reduceAdd Nat.reduceSub Nat.reduceMul Nat.reduceLT Nat.reduceLeDiff Nat.reduceEqDiff Nat.reduceBEq Int.reduceToNat Int.reduceLT Int.reduceLE Int.reduceGT Int.reduceGE Int.reduceAdd Int.reduceSub Int.reduceMul Int.reduceNeg Int.reduceBEq Int.reduceBNe Int.reducePow Int.reduceDiv Int.reduceMod Int.reduceTDiv Int.reduceTMod Int.reduceNatCast
/-! ### reply.Put -/
def F7_S1 (a1 : Bool) (a0 : (Int) × (List ((List UInt8) × (List UInt8))) × (List (Int))) (x8 : List ((List UInt8) × (List UInt8))) : St := ⟨[.junk, .imm (.bool a1), .ref 0 0 0 0, .junk, .junk, .rsl 1 2 0 x8.length, .junk, .junk, .junk, .junk, .junk, .junk, .junk, .junk, .junk, .junk, .junk, .junk, .junk, .junk, .junk, .junk, .junk, .junk, .junk, .junk, .junk, .junk, .junk, .junk, .junk, .junk, .junk, .junk, .junk, .junk, .junk, .junk, .junk, .junk, .junk, .junk, .junk, .junk, .junk, .junk, .junk, .junk, .junk, .junk, .junk], [some (.box 25 (.agg [.imm (.int .i64 a0.1), .sl 2 false (List.map eT41 a0.2.1), .sl 1 false (List.map byteT a0.2.2)]) false), some (.buf 42 2 (List.map eT41 x8) 0)]⟩
def F7_J1 (n : Nat) (a1 : Bool) (a0 : (Int) × (List ((List UInt8) × (List UInt8))) × (List (Int))) (x8 : List ((List UInt8) × (List UInt8))) : Option (List (Int)) := (F16 n a0.1).bind fun v9 => grd (9 + v9.length ≤ 9223372036854775807) (grd ((v9.length + 9) + 1 ≤ 9223372036854775807) ((F9 n a0.1).bind fun v12 => grd ((v9.length + 10) + v12.length ≤ 9223372036854775807) (grd ((v9.length + v12.length + 10) + 2 ≤ 9223372036854775807) ((F17 n x8).bind fun v15 => grd ((v9.length + v12.length + 12) + v15.length ≤ 9223372036854775807) (grd ((v9.length + v12.length + v15.length + 12) + 2 ≤ 9223372036854775807) (iteB a1 (some (((((((([72, 84, 84, 80, 47, 49, 46, 49, 32] : List UInt8) ++ v9) ++ ([32] : List UInt8)) ++ v12) ++ ([13, 10] : List UInt8)) ++ v15) ++ ([13, 10] : List UInt8)).map ofB)) ((F15 n a0.1).bind fun v19 => iteB v19 (some (((((((([72, 84, 84, 80, 47, 49, 46, 49, 32] : List UInt8) ++ v9) ++ ([32] : List UInt8)) ++ v12) ++ ([13, 10] : List UInt8)) ++ v15) ++ ([13, 10] : List UInt8)).map ofB)) (grd ((v9.length + v12.length + v15.length + a0.2.2.length + 14) ≤ 549755813888) (some ((((((((([72, 84, 84, 80, 47, 49, 46, 49, 32] : List UInt8) ++ v9) ++ ([32] : List UInt8)) ++ v12) ++ ([13, 10] : List UInt8)) ++ v15) ++ ([13, 10] : List UInt8)).map ofB) ++ a0.2.2))))))))))
def F7 (n : Nat) (a0 : (Int) × (List ((List UInt8) × (List UInt8))) × (List (Int))) (a1 : Bool) : Option (List (Int)) := (F13 n (a0.1, a0.2.1, a0.2.2)).bind fun v1 => iteB (!v1) (some []) ((F14 n a0.2.1).bind fun v3 => (F15 n a0.1).bind fun v4 => iteB (!v4) ((F16 n (a0.2.2.length : Int)).bind fun v6 => grd ((v3.length + 1) ≤ 549755813888) (F7_J1 n a1 a0 (v3 ++ ([(([67, 111, 110, 116, 101, 110, 116, 45, 76, 101, 110, 103, 116, 104] : List UInt8), v6)])))) (F7_J1 n a1 a0 v3))
set_option maxHeartbeats 4000000 in
theorem F7_ok : ∀ (n : Nat) (a0 : (Int) × (List ((List UInt8) × (List UInt8))) × (List (Int))) (a1 : Bool) (r : List (Int)), F7 n a0 a1 = some r → FnC Tryd.prog 7 [.agg [.imm (.int .i64 a0.1), .sl 2 false (List.map eT41 a0.2.1), .sl 1 false (List.map byteT a0.2.2)], .imm (.bool a1)] (.sl 1 false (List.map byteT r))
 | n, a0, a1, r, h => by
  unfold F7 at h
  refine FnC.goX mixed Tryd.func7 (by kernel_rfl) rfl ?_
  simp only [Tryd.ntmps7, List.length_cons, List.length_nil, List.replicate, List.cons_append, List.nil_append, Nat.reduceAdd, Nat.reduceSub]
  refine runX_seq ?_
  refine runX_regionC fun C hC => ?_
  try simp -implicitDefEqProofs (maxSteps := 4000000) (disch := first | omega | decide | (simp only [go_sem]; omega)) only [go_sem, ↓reduceIte]
  repeat (with_reducible refine And.intro (by first | assumption | omega | (simp; done) | (simp; omega)) ?_)
  refine toEnd hC ?_
  refine endX_seq ?_
  refine runX_seq ?_
  refine runX_seq ?_
  refine runX_regionC fun C hC => ?_
  obtain ⟨v1, h1, h⟩ := bnd_some h
  try simp -implicitDefEqProofs (maxSteps := 4000000) (disch := first | omega | decide | (simp only [go_sem]; omega)) only [go_sem, ↓reduceIte]
  repeat (with_reducible refine And.intro (by first | assumption | omega | (simp; done) | (simp; omega)) ?_)
  refine callG_X (by first | rfl | (simp only [go_sem]; done) | (simp only [closedL, closedT, Bool.and_true]; exact closedL_map _ (fun _ => by first | rfl | (simp only [go_sem]; done)) _)) (F13_ok n (a0.1, a0.2.1, a0.2.2) _ h1) (by repeat (first | exact leL_refl _ | refine leL_cons (by first | exact leT_refl _ | exact leT_virt | exact leT_junk _ | exact leT_sl | exact leT_sln | exact leT_nil | (refine leT_agg (by repeat (first | exact leL_refl _ | refine leL_cons (by first | exact leT_refl _ | exact leT_sl | exact leT_sln | exact leT_nil) ?_)))) ?_)) ?_
  try simp -implicitDefEqProofs (maxSteps := 4000000) (disch := first | omega | decide | (simp only [go_sem]; omega)) only [go_sem, ↓reduceIte]
  repeat (with_reducible refine And.intro (by first | assumption | omega | (simp; done) | (simp; omega)) ?_)
  refine toEnd hC ?_
  refine endX_seq ?_
  rcases iteB_some h with ⟨c2, h⟩ | ⟨c2, h⟩
  ·refine runX_condT rfl c2 ?_
   refine runX_seq ?_
   refine runX_regionC fun C hC => ?_
   try simp -implicitDefEqProofs (maxSteps := 4000000) (disch := first | omega | decide | (simp only [go_sem]; omega)) only [go_sem, ↓reduceIte]
   repeat (with_reducible refine And.intro (by first | assumption | omega | (simp; done) | (simp; omega)) ?_)
   refine toEnd hC ?_
   refine endX_seq ?_
   refine runX_ret ?_
   refine endX_seqR ?_
   refine endX_q ?_
   obtain rfl := Option.some.inj h
   show RetW _ _ _ _ _
   simp only [RetW]
   (try simp -implicitDefEqProofs (maxSteps := 4000000) (disch := first | omega | decide | (simp only [go_sem]; omega)) only [go_sem, ↓reduceIte])
   (try simp (disch := omega) only [if_pos, Nat.sub_zero])
   first | exact leT_refl _ | (refine ⟨rfl, ?_⟩; first | exact leT_refl _ | exact leT_sl | exact leT_sln | exact leT_nil | (refine leT_tup (by repeat (first | exact leL_refl _ | refine leL_cons (by first | exact leT_refl _ | exact leT_virt | exact leT_junk _ | exact leT_sl | exact leT_sln | exact leT_nil | (refine leT_agg (by repeat (first | exact leL_refl _ | refine leL_cons (by first | exact leT_refl _ | exact leT_sl | exact leT_sln | exact leT_nil) ?_)))) ?_))) | (refine leT_agg (by repeat (first | exact leL_refl _ | refine leL_cons (by first | exact leT_refl _ | exact leT_virt | exact leT_junk _ | exact leT_sl | exact leT_sln | exact leT_nil | (refine leT_agg (by repeat (first | exact leL_refl _ | refine leL_cons (by first | exact leT_refl _ | exact leT_sl | exact leT_sln | exact leT_nil) ?_)))) ?_)))) | (first | exact leT_refl _ | exact leT_sl | exact leT_sln | exact leT_nil | (refine leT_tup (by repeat (first | exact leL_refl _ | refine leL_cons (by first | exact leT_refl _ | exact leT_virt | exact leT_junk _ | exact leT_sl | exact leT_sln | exact leT_nil | (refine leT_agg (by repeat (first | exact leL_refl _ | refine leL_cons (by first | exact leT_refl _ | exact leT_sl | exact leT_sln | exact leT_nil) ?_)))) ?_))) | (refine leT_agg (by repeat (first | exact leL_refl _ | refine leL_cons (by first | exact leT_refl _ | exact leT_virt | exact leT_junk _ | exact leT_sl | exact leT_sln | exact leT_nil | (refine leT_agg (by repeat (first | exact leL_refl _ | refine leL_cons (by first | exact leT_refl _ | exact leT_sl | exact leT_sln | exact leT_nil) ?_)))) ?_)))) | (simp only [List.append_assoc, List.cons_append, List.nil_append]; exact leT_refl _) | (rw [List.take_of_length_le (by first | (simp; done) | (simp; omega))]; (try simp only [List.append_assoc, List.cons_append, List.nil_append]); exact leT_refl _) | ((try simp (disch := first | omega | (simp; done) | (simp; omega)) only [if_pos, Nat.sub_zero, List.take_of_length_le]); (try simp only [List.append_assoc, List.cons_append, List.nil_append]); first | exact leT_refl _ | exact ⟨rfl, leT_refl _⟩)
  ·refine runX_condF rfl c2 ?_
   refine runX_skip ?_
   refine endX_seq ?_
   refine runX_seq ?_
   refine runX_add 42 2 ?_
   try simp only [List.cons_append, List.nil_append]
   refine runX_regionC fun C hC => ?_
   obtain ⟨v3, h3, h⟩ := bnd_some h
   try simp -implicitDefEqProofs (maxSteps := 4000000) (disch := first | omega | decide | (simp only [go_sem]; omega)) only [go_sem, ↓reduceIte]
   repeat (with_reducible refine And.intro (by first | assumption | omega | (simp; done) | (simp; omega)) ?_)
   refine callR_X [1] (F14_ok n a0.2.1 _ h3) (by decide) (by (try simp -implicitDefEqProofs (maxSteps := 4000000) (disch := first | omega | decide | (simp only [go_sem]; omega)) only [go_sem, ↓reduceIte]); repeat (first | exact trivial | refine And.intro ?_ ?_ | exact fun _ => trivial | exact fun _ _ => trivial | exact fun _ _ h => h | rfl | decide)) (by (try simp -implicitDefEqProofs (maxSteps := 4000000) (disch := first | omega | decide | (simp only [go_sem]; omega)) only [go_sem, ↓reduceIte]); repeat (first | exact leL_refl _ | refine leL_cons (by first | exact leT_refl _ | exact leT_virt | exact leT_junk _ | exact leT_sl | exact leT_sln | exact leT_nil | (refine leT_agg (by repeat (first | exact leL_refl _ | refine leL_cons (by first | exact leT_refl _ | exact leT_sl | exact leT_sln | exact leT_nil) ?_)))) ?_)) ?_
   try simp -implicitDefEqProofs (maxSteps := 4000000) (disch := first | omega | decide | (simp only [go_sem]; omega)) only [go_sem, ↓reduceIte]
   repeat (with_reducible refine And.intro (by first | assumption | omega | (simp; done) | (simp; omega)) ?_)
   refine toEnd hC ?_
   refine endX_seq ?_
   refine runX_meet [1, 2, 5] (fun S => ∃ (x8 : List ((List UInt8) × (List UInt8))), S = F7_S1 a1 a0 x8 ∧ F7_J1 n a1 a0 x8 = some r) ?_ ?_
   ·refine runX_seq ?_
    refine runX_regionC fun C hC => ?_
    obtain ⟨v4, h4, h⟩ := bnd_some h
    try simp -implicitDefEqProofs (maxSteps := 4000000) (disch := first | omega | decide | (simp only [go_sem]; omega)) only [go_sem, ↓reduceIte]
    repeat (with_reducible refine And.intro (by first | assumption | omega | (simp; done) | (simp; omega)) ?_)
    refine callG_X (by first | rfl | (simp only [go_sem]; done) | (simp only [closedL, closedT, Bool.and_true]; exact closedL_map _ (fun _ => by first | rfl | (simp only [go_sem]; done)) _)) (F15_ok n a0.1 _ h4) (by repeat (first | exact leL_refl _ | refine leL_cons (by first | exact leT_refl _ | exact leT_virt | exact leT_junk _ | exact leT_sl | exact leT_sln | exact leT_nil | (refine leT_agg (by repeat (first | exact leL_refl _ | refine leL_cons (by first | exact leT_refl _ | exact leT_sl | exact leT_sln | exact leT_nil) ?_)))) ?_)) ?_
    try simp -implicitDefEqProofs (maxSteps := 4000000) (disch := first | omega | decide | (simp only [go_sem]; omega)) only [go_sem, ↓reduceIte]
    repeat (with_reducible refine And.intro (by first | assumption | omega | (simp; done) | (simp; omega)) ?_)
    refine toEnd hC ?_
    refine endX_seq ?_
    rcases iteB_some h with ⟨c5, h⟩ | ⟨c5, h⟩
    ·refine runX_condT rfl c5 ?_
     refine runX_regionC fun C hC => ?_
     obtain ⟨v6, h6, h⟩ := bnd_some h
     try simp -implicitDefEqProofs (maxSteps := 4000000) (disch := first | omega | decide | (simp only [go_sem]; omega)) only [go_sem, ↓reduceIte]
     repeat (with_reducible refine And.intro (by first | assumption | omega | (simp; done) | (simp; omega)) ?_)
     refine callG_X (by first | rfl | (simp only [go_sem]; done) | (simp only [closedL, closedT, Bool.and_true]; exact closedL_map _ (fun _ => by first | rfl | (simp only [go_sem]; done)) _)) (F16_ok n (a0.2.2.length : Int) _ h6) (by repeat (first | exact leL_refl _ | refine leL_cons (by first | exact leT_refl _ | exact leT_virt | exact leT_junk _ | exact leT_sl | exact leT_sln | exact leT_nil | (refine leT_agg (by repeat (first | exact leL_refl _ | refine leL_cons (by first | exact leT_refl _ | exact leT_sl | exact leT_sln | exact leT_nil) ?_)))) ?_)) ?_
     try simp -implicitDefEqProofs (maxSteps := 4000000) (disch := first | omega | decide | (simp only [go_sem]; omega)) only [go_sem, ↓reduceIte]
     repeat (with_reducible refine And.intro (by first | assumption | omega | (simp; done) | (simp; omega)) ?_)
     refine bldG_of [.imm (.string (bs ([67, 111, 110, 116, 101, 110, 116, 45, 76, 101, 110, 103, 116, 104] : List UInt8))), .imm (.string (bs v6))] (by kernel_rfl) ?_
     try simp -implicitDefEqProofs (maxSteps := 4000000) (disch := first | omega | decide | (simp only [go_sem]; omega)) only [go_sem, ↓reduceIte]
     repeat (with_reducible refine And.intro (by first | assumption | omega | (simp; done) | (simp; omega)) ?_)
     refine bs_go <| buildX_val ?_
     obtain ⟨g7, h⟩ := grd_some h
     try simp -implicitDefEqProofs (maxSteps := 4000000) (disch := first | omega | decide | (simp only [go_sem]; omega)) only [go_sem, ↓reduceIte]
     repeat (with_reducible refine And.intro (by first | assumption | omega | (simp; done) | (simp; omega)) ?_)
     refine toEnd hC ?_
     refine endX_q (meetQ_normal ⟨F7_S1 a1 a0 (v3 ++ ([(([67, 111, 110, 116, 101, 110, 116, 45, 76, 101, 110, 103, 116, 104] : List UInt8), v6)])), ?_, (v3 ++ ([(([67, 111, 110, 116, 101, 110, 116, 45, 76, 101, 110, 103, 116, 104] : List UInt8), v6)])), rfl, h⟩)
     simp only [F7_S1]
     (try simp -implicitDefEqProofs (maxSteps := 4000000) (disch := first | omega | decide | (simp only [go_sem]; omega)) only [go_sem, ↓reduceIte])
     first | exact leS_refl _ | (refine leS_le ?_ ?_ <;> first | exact leL_refl _ | exact leOs_refl _ | (simp only [List.append_assoc, List.cons_append, List.nil_append]; exact leOs_refl _) | (refine leOs.cons (by first | exact leO.same _ | (refine leO.box (leT_agg (by repeat (first | exact leL_refl _ | refine leL_cons (by first | exact leT_refl _ | exact leT_virt | exact leT_junk _ | exact leT_sl | exact leT_sln | exact leT_nil | (refine leT_agg (by repeat (first | exact leL_refl _ | refine leL_cons (by first | exact leT_refl _ | exact leT_sl | exact leT_sln | exact leT_nil) ?_)))) ?_))) rfl) | (refine leO.box (by first | exact leT_virt | exact leT_sl | exact leT_sln) rfl)) ?_; repeat (first | exact leOs_refl _ | refine leOs.cons (by first | exact leO.same _ | (refine leO.box (leT_agg (by repeat (first | exact leL_refl _ | refine leL_cons (by first | exact leT_refl _ | exact leT_virt | exact leT_junk _ | exact leT_sl | exact leT_sln | exact leT_nil | (refine leT_agg (by repeat (first | exact leL_refl _ | refine leL_cons (by first | exact leT_refl _ | exact leT_sl | exact leT_sln | exact leT_nil) ?_)))) ?_))) rfl) | (refine leO.box (by first | exact leT_virt | exact leT_sl | exact leT_sln) rfl)) ?_)) | (repeat (first | exact leL_refl _ | refine leL_cons (by first | exact leT_refl _ | exact leT_virt | exact leT_junk _ | exact leT_sl | exact leT_sln | exact leT_nil | (refine leT_agg (by repeat (first | exact leL_refl _ | refine leL_cons (by first | exact leT_refl _ | exact leT_sl | exact leT_sln | exact leT_nil) ?_)))) ?_)))
    ·refine runX_condF rfl c5 ?_
     refine runX_skip ?_
     refine endX_q (meetQ_normal ⟨F7_S1 a1 a0 v3, ?_, v3, rfl, h⟩)
     simp only [F7_S1]
     (try simp -implicitDefEqProofs (maxSteps := 4000000) (disch := first | omega | decide | (simp only [go_sem]; omega)) only [go_sem, ↓reduceIte])
     first | exact leS_refl _ | (refine leS_le ?_ ?_ <;> first | exact leL_refl _ | exact leOs_refl _ | (simp only [List.append_assoc, List.cons_append, List.nil_append]; exact leOs_refl _) | (refine leOs.cons (by first | exact leO.same _ | (refine leO.box (leT_agg (by repeat (first | exact leL_refl _ | refine leL_cons (by first | exact leT_refl _ | exact leT_virt | exact leT_junk _ | exact leT_sl | exact leT_sln | exact leT_nil | (refine leT_agg (by repeat (first | exact leL_refl _ | refine leL_cons (by first | exact leT_refl _ | exact leT_sl | exact leT_sln | exact leT_nil) ?_)))) ?_))) rfl) | (refine leO.box (by first | exact leT_virt | exact leT_sl | exact leT_sln) rfl)) ?_; repeat (first | exact leOs_refl _ | refine leOs.cons (by first | exact leO.same _ | (refine leO.box (leT_agg (by repeat (first | exact leL_refl _ | refine leL_cons (by first | exact leT_refl _ | exact leT_virt | exact leT_junk _ | exact leT_sl | exact leT_sln | exact leT_nil | (refine leT_agg (by repeat (first | exact leL_refl _ | refine leL_cons (by first | exact leT_refl _ | exact leT_sl | exact leT_sln | exact leT_nil) ?_)))) ?_))) rfl) | (refine leO.box (by first | exact leT_virt | exact leT_sl | exact leT_sln) rfl)) ?_)) | (repeat (first | exact leL_refl _ | refine leL_cons (by first | exact leT_refl _ | exact leT_virt | exact leT_junk _ | exact leT_sl | exact leT_sln | exact leT_nil | (refine leT_agg (by repeat (first | exact leL_refl _ | refine leL_cons (by first | exact leT_refl _ | exact leT_sl | exact leT_sln | exact leT_nil) ?_)))) ?_)))
   ·clear h
    rintro S ⟨x8, rfl, h⟩
    rw [F7_J1] at h
    simp only [F7_S1]
    refine runX_seq ?_
    refine runX_drawC mixed (by kernel_rfl) fun C hC => ?_
    obtain ⟨v9, h9, h⟩ := bnd_some h
    try simp -implicitDefEqProofs (maxSteps := 4000000) (disch := first | omega | decide | (simp only [go_sem]; omega)) only [go_sem, ↓reduceIte]
    repeat (with_reducible refine And.intro (by first | assumption | omega | (simp; done) | (simp; omega)) ?_)
    refine callD_X (F16_ok n a0.1 _ h9) (by repeat (first | exact leL_refl _ | refine leL_cons (by first | exact leT_refl _ | exact leT_virt | exact leT_junk _ | exact leT_sl | exact leT_sln | exact leT_nil | (refine leT_agg (by repeat (first | exact leL_refl _ | refine leL_cons (by first | exact leT_refl _ | exact leT_sl | exact leT_sln | exact leT_nil) ?_)))) ?_)) ?_
    obtain ⟨g10, h⟩ := grd_some h
    obtain ⟨g11, h⟩ := grd_some h
    obtain ⟨v12, h12, h⟩ := bnd_some h
    try simp -implicitDefEqProofs (maxSteps := 4000000) (disch := first | omega | decide | (simp only [go_sem]; omega)) only [go_sem, ↓reduceIte]
    repeat (with_reducible refine And.intro (by first | assumption | omega | (simp; done) | (simp; omega)) ?_)
    refine callD_X (F9_ok n a0.1 _ h12) (by repeat (first | exact leL_refl _ | refine leL_cons (by first | exact leT_refl _ | exact leT_virt | exact leT_junk _ | exact leT_sl | exact leT_sln | exact leT_nil | (refine leT_agg (by repeat (first | exact leL_refl _ | refine leL_cons (by first | exact leT_refl _ | exact leT_sl | exact leT_sln | exact leT_nil) ?_)))) ?_)) ?_
    obtain ⟨g13, h⟩ := grd_some h
    obtain ⟨g14, h⟩ := grd_some h
    obtain ⟨v15, h15, h⟩ := bnd_some h
    try simp -implicitDefEqProofs (maxSteps := 4000000) (disch := first | omega | decide | (simp only [go_sem]; omega)) only [go_sem, ↓reduceIte]
    repeat (with_reducible refine And.intro (by first | assumption | omega | (simp; done) | (simp; omega)) ?_)
    refine callD_X (F17_ok n x8 _ h15) (by repeat (first | exact leL_refl _ | refine leL_cons (by first | exact leT_refl _ | exact leT_virt | exact leT_junk _ | exact leT_sl | exact leT_sln | exact leT_nil | (refine leT_agg (by repeat (first | exact leL_refl _ | refine leL_cons (by first | exact leT_refl _ | exact leT_sl | exact leT_sln | exact leT_nil) ?_)))) ?_)) ?_
    obtain ⟨g16, h⟩ := grd_some h
    obtain ⟨g17, h⟩ := grd_some h
    try simp -implicitDefEqProofs (maxSteps := 4000000) (disch := first | omega | decide | (simp only [go_sem]; omega)) only [go_sem, ↓reduceIte]
    repeat (with_reducible refine And.intro (by first | assumption | omega | (simp; done) | (simp; omega)) ?_)
    refine toEnd hC ?_
    refine endX_seq ?_
    refine runX_seq ?_
    refine runX_seq ?_
    refine runX_regionC fun C hC => ?_
    try simp -implicitDefEqProofs (maxSteps := 4000000) (disch := first | omega | decide | (simp only [go_sem]; omega)) only [go_sem, ↓reduceIte]
    repeat (with_reducible refine And.intro (by first | assumption | omega | (simp; done) | (simp; omega)) ?_)
    rcases iteB_some h with ⟨c18, h⟩ | ⟨c18, h⟩
    ·refine guardK_F c18 ?_
     try simp -implicitDefEqProofs (maxSteps := 4000000) (disch := first | omega | decide | (simp only [go_sem]; omega)) only [go_sem, ↓reduceIte]
     repeat (with_reducible refine And.intro (by first | assumption | omega | (simp; done) | (simp; omega)) ?_)
     refine toEnd hC ?_
     refine endX_seq ?_
     refine runX_condT rfl rfl ?_
     refine runX_seq ?_
     refine runX_regionC fun C hC => ?_
     try simp -implicitDefEqProofs (maxSteps := 4000000) (disch := first | omega | decide | (simp only [go_sem]; omega)) only [go_sem, ↓reduceIte]
     repeat (with_reducible refine And.intro (by first | assumption | omega | (simp; done) | (simp; omega)) ?_)
     refine toEnd hC ?_
     refine endX_seq ?_
     refine runX_ret ?_
     refine endX_seqR ?_
     refine endX_q ?_
     obtain rfl := Option.some.inj h
     show RetW _ _ _ _ _
     simp only [RetW]
     (try simp -implicitDefEqProofs (maxSteps := 4000000) (disch := first | omega | decide | (simp only [go_sem]; omega)) only [go_sem, ↓reduceIte])
     (try simp (disch := omega) only [if_pos, Nat.sub_zero])
     first | exact leT_refl _ | (refine ⟨rfl, ?_⟩; first | exact leT_refl _ | exact leT_sl | exact leT_sln | exact leT_nil | (refine leT_tup (by repeat (first | exact leL_refl _ | refine leL_cons (by first | exact leT_refl _ | exact leT_virt | exact leT_junk _ | exact leT_sl | exact leT_sln | exact leT_nil | (refine leT_agg (by repeat (first | exact leL_refl _ | refine leL_cons (by first | exact leT_refl _ | exact leT_sl | exact leT_sln | exact leT_nil) ?_)))) ?_))) | (refine leT_agg (by repeat (first | exact leL_refl _ | refine leL_cons (by first | exact leT_refl _ | exact leT_virt | exact leT_junk _ | exact leT_sl | exact leT_sln | exact leT_nil | (refine leT_agg (by repeat (first | exact leL_refl _ | refine leL_cons (by first | exact leT_refl _ | exact leT_sl | exact leT_sln | exact leT_nil) ?_)))) ?_)))) | (first | exact leT_refl _ | exact leT_sl | exact leT_sln | exact leT_nil | (refine leT_tup (by repeat (first | exact leL_refl _ | refine leL_cons (by first | exact leT_refl _ | exact leT_virt | exact leT_junk _ | exact leT_sl | exact leT_sln | exact leT_nil | (refine leT_agg (by repeat (first | exact leL_refl _ | refine leL_cons (by first | exact leT_refl _ | exact leT_sl | exact leT_sln | exact leT_nil) ?_)))) ?_))) | (refine leT_agg (by repeat (first | exact leL_refl _ | refine leL_cons (by first | exact leT_refl _ | exact leT_virt | exact leT_junk _ | exact leT_sl | exact leT_sln | exact leT_nil | (refine leT_agg (by repeat (first | exact leL_refl _ | refine leL_cons (by first | exact leT_refl _ | exact leT_sl | exact leT_sln | exact leT_nil) ?_)))) ?_)))) | (simp only [List.append_assoc, List.cons_append, List.nil_append]; exact leT_refl _) | (rw [List.take_of_length_le (by first | (simp; done) | (simp; omega))]; (try simp only [List.append_assoc, List.cons_append, List.nil_append]); exact leT_refl _) | ((try simp (disch := first | omega | (simp; done) | (simp; omega)) only [if_pos, Nat.sub_zero, List.take_of_length_le]); (try simp only [List.append_assoc, List.cons_append, List.nil_append]); first | exact leT_refl _ | exact ⟨rfl, leT_refl _⟩)
    ·refine guardK_T c18 ?_
     obtain ⟨v19, h19, h⟩ := bnd_some h
     try simp -implicitDefEqProofs (maxSteps := 4000000) (disch := first | omega | decide | (simp only [go_sem]; omega)) only [go_sem, ↓reduceIte]
     repeat (with_reducible refine And.intro (by first | assumption | omega | (simp; done) | (simp; omega)) ?_)
     refine callG_X (by first | rfl | (simp only [go_sem]; done) | (simp only [closedL, closedT, Bool.and_true]; exact closedL_map _ (fun _ => by first | rfl | (simp only [go_sem]; done)) _)) (F15_ok n a0.1 _ h19) (by repeat (first | exact leL_refl _ | refine leL_cons (by first | exact leT_refl _ | exact leT_virt | exact leT_junk _ | exact leT_sl | exact leT_sln | exact leT_nil | (refine leT_agg (by repeat (first | exact leL_refl _ | refine leL_cons (by first | exact leT_refl _ | exact leT_sl | exact leT_sln | exact leT_nil) ?_)))) ?_)) ?_
     try simp -implicitDefEqProofs (maxSteps := 4000000) (disch := first | omega | decide | (simp only [go_sem]; omega)) only [go_sem, ↓reduceIte]
     repeat (with_reducible refine And.intro (by first | assumption | omega | (simp; done) | (simp; omega)) ?_)
     refine toEnd hC ?_
     refine endX_seq ?_
     rcases iteB_some h with ⟨c20, h⟩ | ⟨c20, h⟩
     ·refine runX_condT rfl c20 ?_
      refine runX_seq ?_
      refine runX_regionC fun C hC => ?_
      try simp -implicitDefEqProofs (maxSteps := 4000000) (disch := first | omega | decide | (simp only [go_sem]; omega)) only [go_sem, ↓reduceIte]
      repeat (with_reducible refine And.intro (by first | assumption | omega | (simp; done) | (simp; omega)) ?_)
      refine toEnd hC ?_
      refine endX_seq ?_
      refine runX_ret ?_
      refine endX_seqR ?_
      refine endX_q ?_
      obtain rfl := Option.some.inj h
      show RetW _ _ _ _ _
      simp only [RetW]
      (try simp -implicitDefEqProofs (maxSteps := 4000000) (disch := first | omega | decide | (simp only [go_sem]; omega)) only [go_sem, ↓reduceIte])
      (try simp (disch := omega) only [if_pos, Nat.sub_zero])
      first | exact leT_refl _ | (refine ⟨rfl, ?_⟩; first | exact leT_refl _ | exact leT_sl | exact leT_sln | exact leT_nil | (refine leT_tup (by repeat (first | exact leL_refl _ | refine leL_cons (by first | exact leT_refl _ | exact leT_virt | exact leT_junk _ | exact leT_sl | exact leT_sln | exact leT_nil | (refine leT_agg (by repeat (first | exact leL_refl _ | refine leL_cons (by first | exact leT_refl _ | exact leT_sl | exact leT_sln | exact leT_nil) ?_)))) ?_))) | (refine leT_agg (by repeat (first | exact leL_refl _ | refine leL_cons (by first | exact leT_refl _ | exact leT_virt | exact leT_junk _ | exact leT_sl | exact leT_sln | exact leT_nil | (refine leT_agg (by repeat (first | exact leL_refl _ | refine leL_cons (by first | exact leT_refl _ | exact leT_sl | exact leT_sln | exact leT_nil) ?_)))) ?_)))) | (first | exact leT_refl _ | exact leT_sl | exact leT_sln | exact leT_nil | (refine leT_tup (by repeat (first | exact leL_refl _ | refine leL_cons (by first | exact leT_refl _ | exact leT_virt | exact leT_junk _ | exact leT_sl | exact leT_sln | exact leT_nil | (refine leT_agg (by repeat (first | exact leL_refl _ | refine leL_cons (by first | exact leT_refl _ | exact leT_sl | exact leT_sln | exact leT_nil) ?_)))) ?_))) | (refine leT_agg (by repeat (first | exact leL_refl _ | refine leL_cons (by first | exact leT_refl _ | exact leT_virt | exact leT_junk _ | exact leT_sl | exact leT_sln | exact leT_nil | (refine leT_agg (by repeat (first | exact leL_refl _ | refine leL_cons (by first | exact leT_refl _ | exact leT_sl | exact leT_sln | exact leT_nil) ?_)))) ?_)))) | (simp only [List.append_assoc, List.cons_append, List.nil_append]; exact leT_refl _) | (rw [List.take_of_length_le (by first | (simp; done) | (simp; omega))]; (try simp only [List.append_assoc, List.cons_append, List.nil_append]); exact leT_refl _) | ((try simp (disch := first | omega | (simp; done) | (simp; omega)) only [if_pos, Nat.sub_zero, List.take_of_length_le]); (try simp only [List.append_assoc, List.cons_append, List.nil_append]); first | exact leT_refl _ | exact ⟨rfl, leT_refl _⟩)
     ·refine runX_condF rfl c20 ?_
      refine runX_skip ?_
      refine endX_seq ?_
      refine runX_seq ?_
      refine runX_regionC fun C hC => ?_
      obtain ⟨g21, h⟩ := grd_some h
      try simp -implicitDefEqProofs (maxSteps := 4000000) (disch := first | omega | decide | (simp only [go_sem]; omega)) only [go_sem, ↓reduceIte]
      repeat (with_reducible refine And.intro (by first | assumption | omega | (simp; done) | (simp; omega)) ?_)
      refine toEnd hC ?_
      refine endX_seq ?_
      refine runX_ret ?_
      refine endX_q ?_
      obtain rfl := Option.some.inj h
      show RetW _ _ _ _ _
      simp only [RetW]
      (try simp -implicitDefEqProofs (maxSteps := 4000000) (disch := first | omega | decide | (simp only [go_sem]; omega)) only [go_sem, ↓reduceIte])
      (try simp (disch := omega) only [if_pos, Nat.sub_zero])
      first | exact leT_refl _ | (refine ⟨rfl, ?_⟩; first | exact leT_refl _ | exact leT_sl | exact leT_sln | exact leT_nil | (refine leT_tup (by repeat (first | exact leL_refl _ | refine leL_cons (by first | exact leT_refl _ | exact leT_virt | exact leT_junk _ | exact leT_sl | exact leT_sln | exact leT_nil | (refine leT_agg (by repeat (first | exact leL_refl _ | refine leL_cons (by first | exact leT_refl _ | exact leT_sl | exact leT_sln | exact leT_nil) ?_)))) ?_))) | (refine leT_agg (by repeat (first | exact leL_refl _ | refine leL_cons (by first | exact leT_refl _ | exact leT_virt | exact leT_junk _ | exact leT_sl | exact leT_sln | exact leT_nil | (refine leT_agg (by repeat (first | exact leL_refl _ | refine leL_cons (by first | exact leT_refl _ | exact leT_sl | exact leT_sln | exact leT_nil) ?_)))) ?_)))) | (first | exact leT_refl _ | exact leT_sl | exact leT_sln | exact leT_nil | (refine leT_tup (by repeat (first | exact leL_refl _ | refine leL_cons (by first | exact leT_refl _ | exact leT_virt | exact leT_junk _ | exact leT_sl | exact leT_sln | exact leT_nil | (refine leT_agg (by repeat (first | exact leL_refl _ | refine leL_cons (by first | exact leT_refl _ | exact leT_sl | exact leT_sln | exact leT_nil) ?_)))) ?_))) | (refine leT_agg (by repeat (first | exact leL_refl _ | refine leL_cons (by first | exact leT_refl _ | exact leT_virt | exact leT_junk _ | exact leT_sl | exact leT_sln | exact leT_nil | (refine leT_agg (by repeat (first | exact leL_refl _ | refine leL_cons (by first | exact leT_refl _ | exact leT_sl | exact leT_sln | exact leT_nil) ?_)))) ?_)))) | (simp only [List.append_assoc, List.cons_append, List.nil_append]; exact leT_refl _) | (rw [List.take_of_length_le (by first | (simp; done) | (simp; omega))]; (try simp only [List.append_assoc, List.cons_append, List.nil_append]); exact leT_refl _) | ((try simp (disch := first | omega | (simp; done) | (simp; omega)) only [if_pos, Nat.sub_zero, List.take_of_length_le]); (try simp only [List.append_assoc, List.cons_append, List.nil_append]); first | exact leT_refl _ | exact ⟨rfl, leT_refl _⟩)
end Go.Proofs.YtdjgldjebcoihaaDoorX

set_option linter.unusedVariables false
set_option linter.unusedSimpArgs false
namespace Go.Proofs.YtdjgldjebcoihaaDoorX
open Go Go.RowKit Go.Proofs
set_option maxRecDepth 100000
/-! ### bytes.Index: by the shelf, of two bytes or more -/
open Go.Shelf
def Tryd.lay185_ren : Go.Shelf.Ren := ⟨fun | 185 => 22 | 187 => 37 | 115 => 25 | 253 => 38 | 224 => 39 | 254 => 40 | 255 => 54 | 291 => 55 | n => n, fun | 37 => 23 | 3 => 3 | 4 => 4 | 0 => 0 | 5 => 5 | 46 => 77 | 9 => 9 | 146 => 92 | 51 => 91 | n => n, fun | 1 => 0 | n => n⟩
theorem Tryd.lay185 : Go.Proofs.Lays.n185 Tryd.prog Tryd.lay185_ren := {
 mixed := by kernel_rfl,
 f115 := Tryd.func25.trans (congrArg some (by kernel_rfl)),
 f185 := Tryd.func22.trans (congrArg some (by kernel_rfl)),
 f187 := Tryd.func37.trans (congrArg some (by kernel_rfl)),
 f224 := Tryd.func39.trans (congrArg some (by kernel_rfl)),
 f253 := Tryd.func38.trans (congrArg some (by kernel_rfl)),
 f254 := Tryd.func40.trans (congrArg some (by kernel_rfl)),
 f255 := Tryd.func54.trans (congrArg some (by kernel_rfl)),
 f291 := Tryd.func55.trans (congrArg some (by kernel_rfl)),
 t0 := Tryd.underlying0,
 a0 := Tryd.isAgg0,
 z0 := Tryd.sizeOf0,
 v0 := Tryd.zeroValue0,
 t3 := Tryd.underlying3,
 a3 := Tryd.isAgg3,
 z3 := Tryd.sizeOf3,
 v3 := Tryd.zeroValue3,
 t4 := Tryd.underlying4,
 a4 := Tryd.isAgg4,
 z4 := Tryd.sizeOf4,
 v4 := Tryd.zeroValue4,
 t5 := Tryd.underlying5,
 a5 := Tryd.isAgg5,
 z5 := Tryd.sizeOf5,
 v5 := Tryd.zeroValue5,
 t9 := Tryd.underlying9,
 a9 := Tryd.isAgg9,
 z9 := Tryd.sizeOf9,
 v9 := Tryd.zeroValue9,
 t37 := Tryd.underlying23,
 a37 := Tryd.isAgg23,
 z37 := Tryd.sizeOf23,
 v37 := Tryd.zeroValue23,
 t46 := Tryd.underlying77,
 a46 := Tryd.isAgg77,
 z46 := Tryd.sizeOf77,
 v46 := Tryd.zeroValue77,
 t51 := Tryd.underlying91,
 a51 := Tryd.isAgg91,
 z51 := Tryd.sizeOf91,
 v51 := Tryd.zeroValue91,
 t146 := Tryd.underlying92,
 a146 := Tryd.isAgg92,
 z146 := Tryd.sizeOf92,
 v146 := Tryd.zeroValue92,
 g1 := by kernel_rfl }
theorem u8_cells : ∀ (E : Env) (l : List Int) (c : List Value), RepR E 1 (List.map (eI .u8) l) c → c = l.map fun x => Value.int .u8 x
 | E, [], c, h => by simpa only [List.map_nil, RepR] using h
 | E, s :: l, c, h => by
  simp only [List.map_cons, RepR] at h
  obtain ⟨u, c', rfl, _, h2, h3⟩ := h
  have h2 : Rep E true (.imm (.int .u8 s)) u := h2
  simp only [Rep] at h2
  rw [h2.1, u8_cells E l c' h3]
  rfl
theorem u8_at {E : Env} {a : Addr} {l : List Int} (h : E.atA (some a) (l.map fun x => Value.int .u8 x)) (i : Nat) (hi : i < l.length) : E.w.cell? (a.add i) = some (.int .u8 (l.getD i 0)) := by
 obtain ⟨b, o, e, h6, _⟩ := h i (.int .u8 (l.getD i 0)) (by
  rw [List.getElem?_map, List.getElem?_eq_getElem hi, List.getD_eq_getElem?_getD, List.getElem?_eq_getElem hi]; rfl)
 cases e
 rw [Addr.add_lit]; exact h6
def F22 (n : Nat) (a0 : List Int) (a1 : List Int) : Option Int :=
 if a0.length < 4294967281 ∧ 2 ≤ a1.length ∧ a1.length ≤ 1000000 ∧ (a0.all fun x => decide (0 ≤ x) && decide (x < 256)) = true ∧ (a1.all fun x => decide (0 ≤ x) && decide (x < 256)) = true then some (Lib.index (Lib.bytesOf a0) (Lib.bytesOf a1)) else none
theorem F22_ok (n : Nat) (a0 : List Int) (a1 : List Int) (r : Int) (h : F22 n a0 a1 = some r) : FnC Tryd.prog 22 [.sl 1 false (List.map (eI .u8) a0), .sl 1 false (List.map (eI .u8) a1)] (.imm (.int .i64 r)) := by
 unfold F22 at h
 split at h
 case isFalse => cases h
 rename_i hh
 obtain ⟨h1, h2, h3, h4, h5⟩ := hh
 obtain rfl := Option.some.inj h
 have al : ∀ l : List Int, (l.all fun x => decide (0 ≤ x) && decide (x < 256)) = true → ∀ x ∈ l, 0 ≤ x ∧ x < 256 := fun l hl x hx => by
  have := List.all_eq_true.1 hl x hx
  simpa using this
 refine ⟨⟨Tryd.f22, Tryd.func22, by kernel_rfl, rfl⟩, fun w ban vs hban hgi hv => ?_⟩
 obtain ⟨m, hm⟩ := hgi 0 (by decide)
 obtain ⟨l⟩ := vs
 simp only [RepL, Rep] at hv
 obtain ⟨_, us, h6, ⟨a, cap, c, rfl, q1, _, q2, q3⟩, _, vs', h7, ⟨a', cap', c', rfl, q4, _, q5, q6⟩, h9⟩ := hv
 have e : l = [.slice a (List.map (eI .u8) a0).length cap, .slice a' (List.map (eI .u8) a1).length cap'] := by rw [h6, h7, h9]
 rw [e, List.length_map, List.length_map]
 rw [List.length_map] at q1 q4
 have e2 := u8_cells _ _ _ q2
 have e5 := u8_cells _ _ _ q5
 subst e2 e5
 have hf : Tryd.lay185_ren.f 185 = 22 := by kernel_rfl
 by_cases hlt : a0.length < a1.length
 ·have hc := Any.bytes_Index_longer Tryd.lay185 a a' a0.length cap a1.length cap' w h2 hlt (by omega)
  rw [hf] at hc
  refine hc.mono ?_
  rintro e w' ⟨rfl, rfl⟩
  refine ⟨_, rfl, Below.refl _ _, ?_⟩
  have : Lib.index (Lib.bytesOf a0) (Lib.bytesOf a1) = -1 := Lib.index_long (by unfold Lib.bytesOf; rw [List.length_map, List.length_map]; omega) (by
   intro e; have := congrArg List.length e; unfold Lib.bytesOf at this; rw [List.length_map, List.length_map] at this; omega)
  rw [this]
  simp only [Rep]; exact ⟨trivial, rfl⟩
 ·cases a with
  | none =>
   obtain ⟨b, o, e, _⟩ := q3 0 (.int .u8 (a0.getD 0 0)) (by
    rw [List.getElem?_map, List.getElem?_eq_getElem (by omega), List.getD_eq_getElem?_getD, List.getElem?_eq_getElem (by omega)]; rfl)
   cases e
  | some a =>
   cases a' with
   | none =>
    obtain ⟨b, o, e, _⟩ := q6 0 (.int .u8 (a1.getD 0 0)) (by
     rw [List.getElem?_map, List.getElem?_eq_getElem (by omega), List.getD_eq_getElem?_getD, List.getElem?_eq_getElem (by omega)]; rfl)
    cases e
   | some a' =>
    have hc := Any.bytes_Index_at Tryd.lay185 a a' a0.length cap a1.length cap' a0 a1 m w rfl rfl (al _ h4) (al _ h5) (fun i hi => u8_at q3 i hi) (fun i hi => u8_at q6 i hi) q1 h1 (by omega) (by
     rw [show Tryd.lay185_ren.g 1 = 0 by kernel_rfl]; exact hm)
    rw [hf] at hc
    refine hc.mono ?_
    rintro e w' ⟨rfl, q, rfl⟩
    exact ⟨_, rfl, (Below.refl _ w).trans ⟨rfl, rfl, rfl, Nat.le_refl _, fun _ _ => rfl⟩, by simp only [Rep]; exact ⟨trivial, rfl⟩⟩
end Go.Proofs.YtdjgldjebcoihaaDoorX

set_option linter.unusedVariables false
set_option linter.unusedSimpArgs false
namespace Go.Proofs.YtdjgldjebcoihaaDoorX
open Go Go.RowKit Go.Proofs
set_option maxRecDepth 100000
/-! ### strings.Count: by hand, of a text of one byte; by the shelf, of a longer one -/
open Go.Shelf
def Tryd.lay138_ren : Go.Shelf.Ren := ⟨fun | 138 => 74 | 195 => 82 | 218 => 83 | 143 => 75 | 219 => 78 | 217 => 85 | 225 => 86 | 224 => 39 | 267 => 87 | 266 => 90 | 314 => 91 | n => n, fun | 9 => 9 | 3 => 3 | 4 => 4 | 5 => 5 | 0 => 0 | 46 => 77 | 146 => 92 | 51 => 91 | n => n, fun | 1 => 0 | n => n⟩
theorem Tryd.lay138 : Go.Proofs.Lays.n138 Tryd.prog Tryd.lay138_ren := {
 mixed := by kernel_rfl,
 f138 := Tryd.func74.trans (congrArg some (by kernel_rfl)),
 f143 := Tryd.func75.trans (congrArg some (by kernel_rfl)),
 f195 := Tryd.func82.trans (congrArg some (by kernel_rfl)),
 f217 := Tryd.func85.trans (congrArg some (by kernel_rfl)),
 f218 := Tryd.func83.trans (congrArg some (by kernel_rfl)),
 f219 := Tryd.func78.trans (congrArg some (by kernel_rfl)),
 f224 := Tryd.func39.trans (congrArg some (by kernel_rfl)),
 f225 := Tryd.func86.trans (congrArg some (by kernel_rfl)),
 f266 := Tryd.func90.trans (congrArg some (by kernel_rfl)),
 f267 := Tryd.func87.trans (congrArg some (by kernel_rfl)),
 f314 := Tryd.func91.trans (congrArg some (by kernel_rfl)),
 t0 := Tryd.underlying0,
 a0 := Tryd.isAgg0,
 z0 := Tryd.sizeOf0,
 v0 := Tryd.zeroValue0,
 t3 := Tryd.underlying3,
 a3 := Tryd.isAgg3,
 z3 := Tryd.sizeOf3,
 v3 := Tryd.zeroValue3,
 t4 := Tryd.underlying4,
 a4 := Tryd.isAgg4,
 z4 := Tryd.sizeOf4,
 v4 := Tryd.zeroValue4,
 t5 := Tryd.underlying5,
 a5 := Tryd.isAgg5,
 z5 := Tryd.sizeOf5,
 v5 := Tryd.zeroValue5,
 t9 := Tryd.underlying9,
 a9 := Tryd.isAgg9,
 z9 := Tryd.sizeOf9,
 v9 := Tryd.zeroValue9,
 t46 := Tryd.underlying77,
 a46 := Tryd.isAgg77,
 z46 := Tryd.sizeOf77,
 v46 := Tryd.zeroValue77,
 t51 := Tryd.underlying91,
 a51 := Tryd.isAgg91,
 z51 := Tryd.sizeOf91,
 v51 := Tryd.zeroValue91,
 t146 := Tryd.underlying92,
 a146 := Tryd.isAgg92,
 z146 := Tryd.sizeOf92,
 v146 := Tryd.zeroValue92,
 g1 := by kernel_rfl }
def F74 (n : Nat) (a0 : List UInt8) (a1 : List UInt8) : Option Int := match a1 with
 | [c] => some ((Lib.countByte a0 c : Nat) : Int)
 | _ => if a0.length < 4294967281 ∧ 2 ≤ a1.length then some ((Lib.countB (bs a0) (bs a1) : Nat) : Int) else none
set_option maxHeartbeats 1000000 in
theorem count_calls (s : ByteArray) (c : UInt8) (w : World) :
  Calls Tryd.prog 74 #[.string s, .string ⟨#[c]⟩] w fun e w' => e = .returned (.int .i64 (Lib.countByte s.data.toList c)) ∧ Below w.heap.size w w' := by
 go_enter Tryd.func74, Tryd.ntmps74
 go_wp2
 rw [run_callFunc_extern Tryd.func83 (by kernel_rfl) (by kernel_rfl) (by kernel_rfl) (e := Extern.BytealgCount.count) (by kernel_rfl), Lib.run_countString]
 simp only [Result.andThen]
 rw [Oper.upon_value]
 go_wp2
 go_ret
 exact ⟨rfl, Below.refl _ _⟩
theorem F74_ok (n : Nat) (a0 : List UInt8) (a1 : List UInt8) (r : Int) (h : F74 n a0 a1 = some r) : FnC Tryd.prog 74 [.imm (.string (bs a0)), .imm (.string (bs a1))] (.imm (.int .i64 r)) := by
 refine ⟨⟨Tryd.f74, Tryd.func74, by kernel_rfl, rfl⟩, fun w ban vs hban hgi hv => ?_⟩
 have e : vs = #[.string (bs a0), .string (bs a1)] := by
  obtain ⟨l⟩ := vs
  simp only [RepL, Rep] at hv
  obtain ⟨u, us, h1, h2, v, vs', h3, h4, h5⟩ := hv
  simp_all
 rw [e]
 unfold F74 at h
 split at h
 ·rename_i c
  obtain rfl := Option.some.inj h
  refine (count_calls (bs a0) c w).mono ?_
  rintro e w' ⟨rfl, hb⟩
  exact ⟨_, rfl, hb, by simp only [Rep]; exact ⟨rfl, rfl⟩⟩
 ·split at h
  case isFalse => cases h
  rename_i hh
  obtain rfl := Option.some.inj h
  obtain ⟨m, hm⟩ := hgi 0 (by decide)
  have hf : Tryd.lay138_ren.f 138 = 74 := by kernel_rfl
  have hc := Any.strings_Count Tryd.lay138 (bs a0) (bs a1) m w (by rw [bs_size]; exact hh.1) (by
   rw [show Tryd.lay138_ren.g 1 = 0 by kernel_rfl]; exact hm) (by rw [bs_size]; exact hh.2)
  rw [hf] at hc
  refine hc.mono ?_
  rintro e w' ⟨rfl, rfl⟩
  exact ⟨_, rfl, Below.refl _ _, by simp only [Rep]; first | exact ⟨rfl, rfl⟩ | exact ⟨trivial, rfl⟩⟩
end Go.Proofs.YtdjgldjebcoihaaDoorX

set_option linter.unusedVariables false
set_option linter.unusedSimpArgs false
namespace Go.Proofs.YtdjgldjebcoihaaDoorX
open Go Go.RowKit Go.Proofs
set_option maxRecDepth 100000
attribute [local go_sem ↓] stepsK_build stepsK_bs appendS
attribute [local go_sem] String.reduceEq String.reduceNe reduceCtorEq Int.reduceEq Nat.reduceAdd Nat.reduceSub Nat.reduceMul Nat.reduceLT Nat.reduceLeDiff Nat.reduceEqDiff Nat.reduceBEq Int.reduceToNat Int.reduceLT Int.reduceLE Int.reduceGT Int.reduceGE Int.reduceAdd Int.reduceSub Int.reduceMul Int.reduceNeg Int.reduceBEq Int.reduceBNe Int.reducePow Int.reduceDiv Int.reduceMod Int.reduceTDiv Int.reduceTMod Int.reduceNatCast
/-! ### strings.Index -/
def F75 (n : Nat) (a0 : List UInt8) (a1 : List UInt8) : Option (Int) := (F78 n a0 a1).bind fun v1 => some v1
set_option maxHeartbeats 4000000 in
theorem F75_ok : ∀ (n : Nat) (a0 : List UInt8) (a1 : List UInt8) (r : Int), F75 n a0 a1 = some r → FnC Tryd.prog 75 [.imm (.string (bs a0)), .imm (.string (bs a1))] (.imm (.int .i64 r))
 | n, a0, a1, r, h => by
  unfold F75 at h
  refine FnC.goX mixed Tryd.func75 (by kernel_rfl) rfl ?_
  simp only [Tryd.ntmps75, List.length_cons, List.length_nil, List.replicate, List.cons_append, List.nil_append, Nat.reduceAdd, Nat.reduceSub]
  refine runX_seq ?_
  refine runX_regionC fun C hC => ?_
  try simp -implicitDefEqProofs (maxSteps := 4000000) (disch := first | omega | decide | (simp only [go_sem]; omega)) only [go_sem, ↓reduceIte]
  repeat (with_reducible refine And.intro (by first | assumption | omega | (simp; done) | (simp; omega)) ?_)
  refine toEnd hC ?_
  refine endX_seq ?_
  refine runX_seq ?_
  refine runX_regionC fun C hC => ?_
  obtain ⟨v1, h1, h⟩ := bnd_some h
  try simp -implicitDefEqProofs (maxSteps := 4000000) (disch := first | omega | decide | (simp only [go_sem]; omega)) only [go_sem, ↓reduceIte]
  repeat (with_reducible refine And.intro (by first | assumption | omega | (simp; done) | (simp; omega)) ?_)
  refine callG_X (by first | rfl | (simp only [go_sem]; done) | (simp only [closedL, closedT, Bool.and_true]; exact closedL_map _ (fun _ => by first | rfl | (simp only [go_sem]; done)) _)) (F78_ok n a0 a1 _ h1) (by repeat (first | exact leL_refl _ | refine leL_cons (by first | exact leT_refl _ | exact leT_virt | exact leT_junk _ | exact leT_sl | exact leT_sln | exact leT_nil | (refine leT_agg (by repeat (first | exact leL_refl _ | refine leL_cons (by first | exact leT_refl _ | exact leT_sl | exact leT_sln | exact leT_nil) ?_)))) ?_)) ?_
  try simp -implicitDefEqProofs (maxSteps := 4000000) (disch := first | omega | decide | (simp only [go_sem]; omega)) only [go_sem, ↓reduceIte]
  repeat (with_reducible refine And.intro (by first | assumption | omega | (simp; done) | (simp; omega)) ?_)
  refine toEnd hC ?_
  refine endX_seq ?_
  refine runX_ret ?_
  refine endX_q ?_
  obtain rfl := Option.some.inj h
  show RetW _ _ _ _ _
  simp only [RetW]
  (try simp -implicitDefEqProofs (maxSteps := 4000000) (disch := first | omega | decide | (simp only [go_sem]; omega)) only [go_sem, ↓reduceIte])
  (try simp (disch := omega) only [if_pos, Nat.sub_zero])
  exact leT_refl _
end Go.Proofs.YtdjgldjebcoihaaDoorX
