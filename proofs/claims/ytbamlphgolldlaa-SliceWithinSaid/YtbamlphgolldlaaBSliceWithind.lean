/- Part of the proof of SliceWithin: walks and plain words, merged. -/
import Derived.Test.YtbamlphgolldlaaBSliceWithinc
import Derived.Test.YtbamlphgolldlaaRows
import Derived.Test.YtbamlphgolldlaaChecked
import Derived.WalkKit
import Derived.ProofKit
import Derived.OpenShut
set_option linter.unusedVariables false
set_option linter.unusedSimpArgs false

set_option linter.unusedVariables false
set_option linter.unusedSimpArgs false
namespace Go.Proofs.YtbamlphgolldlaaX
open Go Go.RowKit Go.Proofs
set_option maxRecDepth 100000
attribute [local go_sem ↓] stepsK_build stepsK_build0
attribute [local go_sem] String.reduceEq String.reduceNe reduceCtorEq Int.reduceEq Nat.reduceAdd Nat.reduceSub Nat.reduceMul Nat.reduceLT Nat.reduceLeDiff Nat.reduceEqDiff Nat.reduceBEq Int.reduceToNat Int.reduceLT Int.reduceLE Int.reduceGT Int.reduceGE Int.reduceAdd Int.reduceSub Int.reduceMul Int.reduceNeg Int.reduceBEq Int.reduceBNe Int.reducePow Int.reduceDiv Int.reduceMod Int.reduceTDiv Int.reduceTMod Int.reduceNatCast
/-! ### shadowboxref04.ReadDecimal -/
def F55_S1 (a0 : List UInt8) (x3 : Int) (x4 : Int) : St := ⟨[.imm (.string (bs a0)), .junk, .junk, .junk, .imm (.int .i64 x3), .imm (.int .i64 x4), .junk, .junk, .junk, .junk, .junk, .junk, .junk, .junk, .junk, .junk, .junk, .junk, .junk, .junk, .junk, .junk, .junk, .junk, .junk, .junk, .junk, .junk, .junk, .junk, .junk, .junk, .junk], []⟩
def F55_L1 : Nat → (List UInt8) → (Int) → (Int) → Option ((Int) × (Bool))
  | 0, _, _, _ => none
  | m1 + 1, a0, x3, x4 => iteB (decide (x4 < (a0.length : Int))) (grd (0 ≤ x4 ∧ x4 < (a0.length : Int)) ((F67 m1 ((a0.getD x4.toNat 0).toNat : Int)).bind fun v7 => iteB (v7 != (1 : Int)) (some ((0 : Int), false)) (grd (0 ≤ x4 ∧ x4 < (a0.length : Int)) ((F90 m1 ((a0.getD x4.toNat 0).toNat : Int)).bind fun v10 => F55_L1 m1 a0 (IntKind.wrap .i64 ((IntKind.wrap .i64 (x3 * (10 : Int))) + v10)) (IntKind.wrap .i64 (x4 + (1 : Int))))))) (some (x3, true))
def F55 (n : Nat) (a0 : List UInt8) : Option ((Int) × (Bool)) := iteB ((a0.length : Int) == (0 : Int)) (some ((0 : Int), false)) (iteB (decide ((18 : Int) < (a0.length : Int))) (some ((0 : Int), false)) (F55_L1 n a0 (0 : Int) (0 : Int)))
set_option maxHeartbeats 4000000 in
theorem F55_ok : ∀ (n : Nat) (a0 : List UInt8) (r : (Int) × (Bool)), F55 n a0 = some r → FnC Try.prog 55 [.imm (.string (bs a0))] (.tup [.imm (.int .i64 r.1), .imm (.bool r.2)])
  | n, a0, r, h => by
    unfold F55 at h
    refine FnC.goX mixed Try.func55 (by kernel_rfl) rfl ?_
    simp only [Try.ntmps55, List.length_cons, List.length_nil, List.replicate, List.cons_append, List.nil_append, Nat.reduceAdd, Nat.reduceSub]
    refine runX_seq ?_
    refine runX_regionC fun C hC => ?_
    try simp -implicitDefEqProofs (maxSteps := 4000000) (disch := first | omega | decide | (simp only [go_sem]; omega)) only [go_sem, ↓reduceIte]
    repeat (with_reducible refine And.intro (by first | assumption | omega | (simp; done) | (simp; omega)) ?_)
    refine toEnd hC ?_
    refine endX_seq ?_
    refine runX_seq ?_
    refine runX_seq ?_
    refine runX_regionC fun C hC => ?_
    try simp -implicitDefEqProofs (maxSteps := 4000000) (disch := first | omega | decide | (simp only [go_sem]; omega)) only [go_sem, ↓reduceIte]
    repeat (with_reducible refine And.intro (by first | assumption | omega | (simp; done) | (simp; omega)) ?_)
    rcases iteB_some h with ⟨c1, h⟩ | ⟨c1, h⟩
    · refine guardK_F c1 ?_
      try simp -implicitDefEqProofs (maxSteps := 4000000) (disch := first | omega | decide | (simp only [go_sem]; omega)) only [go_sem, ↓reduceIte]
      repeat (with_reducible refine And.intro (by first | assumption | omega | (simp; done) | (simp; omega)) ?_)
      refine toEnd hC ?_
      refine endX_seq ?_
      refine runX_condT rfl rfl ?_
      refine runX_seq ?_
      refine runX_regionC fun C hC => ?_
      try simp -implicitDefEqProofs (maxSteps := 4000000) (disch := first | omega | decide | (simp only [go_sem]; omega)) only [go_sem, ↓reduceIte]
      repeat (with_reducible refine And.intro (by first | assumption | omega | (simp; done) | (simp; omega)) ?_)
      refine toEnd hC ?_
      refine endX_seq ?_
      refine runX_ret ?_
      refine endX_seqR ?_
      refine endX_q ?_
      obtain rfl := Option.some.inj h
      show RetW _ _ _ _ _
      simp only [RetW]
      (try simp -implicitDefEqProofs (maxSteps := 4000000) (disch := first | omega | decide | (simp only [go_sem]; omega)) only [go_sem, ↓reduceIte])
      (try simp (disch := omega) only [if_pos, Nat.sub_zero])
      exact leT_refl _
    · refine guardK_T c1 ?_
      try simp -implicitDefEqProofs (maxSteps := 4000000) (disch := first | omega | decide | (simp only [go_sem]; omega)) only [go_sem, ↓reduceIte]
      repeat (with_reducible refine And.intro (by first | assumption | omega | (simp; done) | (simp; omega)) ?_)
      refine toEnd hC ?_
      refine endX_seq ?_
      rcases iteB_some h with ⟨c2, h⟩ | ⟨c2, h⟩
      · refine runX_condT rfl c2 ?_
        refine runX_seq ?_
        refine runX_regionC fun C hC => ?_
        try simp -implicitDefEqProofs (maxSteps := 4000000) (disch := first | omega | decide | (simp only [go_sem]; omega)) only [go_sem, ↓reduceIte]
        repeat (with_reducible refine And.intro (by first | assumption | omega | (simp; done) | (simp; omega)) ?_)
        refine toEnd hC ?_
        refine endX_seq ?_
        refine runX_ret ?_
        refine endX_seqR ?_
        refine endX_q ?_
        obtain rfl := Option.some.inj h
        show RetW _ _ _ _ _
        simp only [RetW]
        (try simp -implicitDefEqProofs (maxSteps := 4000000) (disch := first | omega | decide | (simp only [go_sem]; omega)) only [go_sem, ↓reduceIte])
        (try simp (disch := omega) only [if_pos, Nat.sub_zero])
        exact leT_refl _
      · refine runX_condF rfl c2 ?_
        refine runX_skip ?_
        refine endX_seq ?_
        refine runX_seq ?_
        refine runX_regionC fun C hC => ?_
        try simp -implicitDefEqProofs (maxSteps := 4000000) (disch := first | omega | decide | (simp only [go_sem]; omega)) only [go_sem, ↓reduceIte]
        repeat (with_reducible refine And.intro (by first | assumption | omega | (simp; done) | (simp; omega)) ?_)
        refine toEnd hC ?_
        refine endX_seq ?_
        refine runX_seq ?_
        refine runX_seq ?_
        refine runX_regionC fun C hC => ?_
        try simp -implicitDefEqProofs (maxSteps := 4000000) (disch := first | omega | decide | (simp only [go_sem]; omega)) only [go_sem, ↓reduceIte]
        repeat (with_reducible refine And.intro (by first | assumption | omega | (simp; done) | (simp; omega)) ?_)
        refine toEnd hC ?_
        refine endX_seq ?_
        refine runX_block ?_
        refine runX_loop [0, 4, 5] (fun m S => ∃ (x3 : Int) (x4 : Int), S = F55_S1 a0 x3 x4 ∧ m ≤ n ∧ F55_L1 m a0 x3 x4 = some r) n ⟨F55_S1 a0 (0 : Int) (0 : Int), ?_, (0 : Int), (0 : Int), rfl, Nat.le_refl _, h⟩ ?_
        · simp only [F55_S1]
          (try simp -implicitDefEqProofs (maxSteps := 4000000) (disch := first | omega | decide | (simp only [go_sem]; omega)) only [go_sem, ↓reduceIte])
          first | exact leS_refl _ | (refine leS_le ?_ ?_ <;> first | exact leL_refl _ | exact leOs_refl _ | (repeat (first | exact leL_refl _ | refine leL_cons (by first | exact leT_refl _ | exact leT_virt | exact leT_junk _ | exact leT_sl | exact leT_sln | exact leT_nil) ?_)))
        · clear h
          rintro m1 S ⟨x3, x4, rfl, hm1, h⟩
          cases m1 with
          | zero => first | cases (show (none : Option _) = some _ from h) | (rw [F55_L1] at h; cases h)
          | succ m1 =>
            rw [F55_L1] at h
            simp only [F55_S1]
            refine runX_seq ?_
            refine runX_seq ?_
            refine runX_regionC fun C hC => ?_
            try simp -implicitDefEqProofs (maxSteps := 4000000) (disch := first | omega | decide | (simp only [go_sem]; omega)) only [go_sem, ↓reduceIte]
            repeat (with_reducible refine And.intro (by first | assumption | omega | (simp; done) | (simp; omega)) ?_)
            refine toEnd hC ?_
            refine endX_seq ?_
            rcases iteB_some h with ⟨c5, h⟩ | ⟨c5, h⟩
            · refine runX_condT rfl c5 ?_
              refine runX_skip ?_
              refine endX_seq ?_
              refine runX_seq ?_
              refine runX_block ?_
              refine runX_seq ?_
              refine runX_seq ?_
              refine runX_regionC fun C hC => ?_
              obtain ⟨g6, h⟩ := grd_some h
              obtain ⟨v7, h7, h⟩ := bnd_some h
              try simp -implicitDefEqProofs (maxSteps := 4000000) (disch := first | omega | decide | (simp only [go_sem]; omega)) only [go_sem, ↓reduceIte]
              repeat (with_reducible refine And.intro (by first | assumption | omega | (simp; done) | (simp; omega)) ?_)
              refine callG_X (F67_ok m1 ((a0.getD x4.toNat 0).toNat : Int) _ h7) (by repeat (first | exact leL_refl _ | refine leL_cons (by first | exact leT_refl _ | exact leT_virt | exact leT_junk _ | exact leT_sl | exact leT_sln | exact leT_nil) ?_)) ?_
              try simp -implicitDefEqProofs (maxSteps := 4000000) (disch := first | omega | decide | (simp only [go_sem]; omega)) only [go_sem, ↓reduceIte]
              repeat (with_reducible refine And.intro (by first | assumption | omega | (simp; done) | (simp; omega)) ?_)
              refine toEnd hC ?_
              refine endX_seq ?_
              rcases iteB_some h with ⟨c8, h⟩ | ⟨c8, h⟩
              · refine runX_condT rfl c8 ?_
                refine runX_seq ?_
                refine runX_regionC fun C hC => ?_
                try simp -implicitDefEqProofs (maxSteps := 4000000) (disch := first | omega | decide | (simp only [go_sem]; omega)) only [go_sem, ↓reduceIte]
                repeat (with_reducible refine And.intro (by first | assumption | omega | (simp; done) | (simp; omega)) ?_)
                refine toEnd hC ?_
                refine endX_seq ?_
                refine runX_ret ?_
                refine endX_seqR ?_
                refine endX_blkR ?_
                refine endX_seqR ?_
                refine endX_q (roundQ_ret ?_)
                refine endX_blkR ?_
                refine endX_seqR ?_
                refine endX_q ?_
                obtain rfl := Option.some.inj h
                show RetW _ _ _ _ _
                simp only [RetW]
                (try simp -implicitDefEqProofs (maxSteps := 4000000) (disch := first | omega | decide | (simp only [go_sem]; omega)) only [go_sem, ↓reduceIte])
                (try simp (disch := omega) only [if_pos, Nat.sub_zero])
                exact leT_refl _
              · refine runX_condF rfl c8 ?_
                refine runX_skip ?_
                refine endX_seq ?_
                refine runX_regionC fun C hC => ?_
                obtain ⟨g9, h⟩ := grd_some h
                obtain ⟨v10, h10, h⟩ := bnd_some h
                try simp -implicitDefEqProofs (maxSteps := 4000000) (disch := first | omega | decide | (simp only [go_sem]; omega)) only [go_sem, ↓reduceIte]
                repeat (with_reducible refine And.intro (by first | assumption | omega | (simp; done) | (simp; omega)) ?_)
                refine callG_X (F90_ok m1 ((a0.getD x4.toNat 0).toNat : Int) _ h10) (by repeat (first | exact leL_refl _ | refine leL_cons (by first | exact leT_refl _ | exact leT_virt | exact leT_junk _ | exact leT_sl | exact leT_sln | exact leT_nil) ?_)) ?_
                try simp -implicitDefEqProofs (maxSteps := 4000000) (disch := first | omega | decide | (simp only [go_sem]; omega)) only [go_sem, ↓reduceIte]
                repeat (with_reducible refine And.intro (by first | assumption | omega | (simp; done) | (simp; omega)) ?_)
                refine toEnd hC ?_
                refine endX_blk ?_
                refine endX_seq ?_
                refine runX_regionC fun C hC => ?_
                try simp -implicitDefEqProofs (maxSteps := 4000000) (disch := first | omega | decide | (simp only [go_sem]; omega)) only [go_sem, ↓reduceIte]
                repeat (with_reducible refine And.intro (by first | assumption | omega | (simp; done) | (simp; omega)) ?_)
                refine toEnd hC ?_
                refine endX_q (roundQ_normal ⟨m1, by omega, F55_S1 a0 (IntKind.wrap .i64 ((IntKind.wrap .i64 (x3 * (10 : Int))) + v10)) (IntKind.wrap .i64 (x4 + (1 : Int))), ?_, (IntKind.wrap .i64 ((IntKind.wrap .i64 (x3 * (10 : Int))) + v10)), (IntKind.wrap .i64 (x4 + (1 : Int))), rfl, by omega, h⟩)
                simp only [F55_S1]
                (try simp -implicitDefEqProofs (maxSteps := 4000000) (disch := first | omega | decide | (simp only [go_sem]; omega)) only [go_sem, ↓reduceIte])
                first | exact leS_refl _ | (refine leS_le ?_ ?_ <;> first | exact leL_refl _ | exact leOs_refl _ | (repeat (first | exact leL_refl _ | refine leL_cons (by first | exact leT_refl _ | exact leT_virt | exact leT_junk _ | exact leT_sl | exact leT_sln | exact leT_nil) ?_)))
            · refine runX_condF rfl c5 ?_
              refine runX_exit ?_
              refine endX_seqE ?_
              refine endX_q (roundQ_exit ?_)
              refine endX_blkE ?_
              refine endX_seq ?_
              refine runX_seq ?_
              refine runX_regionC fun C hC => ?_
              try simp -implicitDefEqProofs (maxSteps := 4000000) (disch := first | omega | decide | (simp only [go_sem]; omega)) only [go_sem, ↓reduceIte]
              repeat (with_reducible refine And.intro (by first | assumption | omega | (simp; done) | (simp; omega)) ?_)
              refine toEnd hC ?_
              refine endX_seq ?_
              refine runX_ret ?_
              refine endX_q ?_
              obtain rfl := Option.some.inj h
              show RetW _ _ _ _ _
              simp only [RetW]
              (try simp -implicitDefEqProofs (maxSteps := 4000000) (disch := first | omega | decide | (simp only [go_sem]; omega)) only [go_sem, ↓reduceIte])
              (try simp (disch := omega) only [if_pos, Nat.sub_zero])
              exact leT_refl _
end Go.Proofs.YtbamlphgolldlaaX

/- The reference's digits and numbers. -/
set_option linter.unusedVariables false
set_option linter.unusedSimpArgs false
namespace Go.Proofs.YtbamlphgolldlaaX
open Go

theorem kind_fin : ∀ c : Fin 256, F67 0 (c.val : Int) = some (kindOf (c.val : Int)) := by decide +kernel
theorem rKind_eq (n : Nat) (c : UInt8) : F67 n (c.toNat : Int) = some (kindOf (c.toNat : Int)) := kind_fin ⟨c.toNat, c.toNat_lt⟩
theorem rDig_fin : ∀ r : Fin 10, ((([48, 49, 50, 51, 52, 53, 54, 55, 56, 57, 97, 98, 99, 100, 101, 102] : List UInt8).take (r.val + 1)).drop r.val) = [toB (48 + (r.val : Int))] := by decide +kernel
theorem rDig_eq (n r : Nat) (h : r < 10) : F54 n (r : Int) = some [toB (48 + (r : Int))] := by
  have w1 : IntKind.wrap .i64 ((r : Int) + 1) = ((r + 1 : Nat) : Int) := by rw [w64 (by omega)]; omega
  rw [F54, w1, grd_t _ (by omega), toNat_nat, toNat_nat]
  exact congrArg some (rDig_fin ⟨r, h⟩)
theorem ev_rdec_l (l : List UInt8) (hl : l.length ≤ 18) : ∀ (d i : Nat) (x : Int), i + d = l.length → 0 ≤ x ∧ x < (10 : Int) ^ i → Ev (fun k => F55_L1 k l x (i : Int)) (decP (l.drop i) x) := by
  intro d
  induction d with
  | zero =>
    intro i x hi hx
    rw [List.drop_of_length_le (by omega)]
    refine Ev.step (Ev.pure.congr fun k => ?_)
    rw [F55_L1, decide_eq_false (by omega), iteB_f]; rfl
  | succ d ih =>
    intro i x hi hx
    rw [drop_cons l i 0 (by omega), decP]
    obtain ⟨p1, p2, p3⟩ := pow10 i (by omega)
    have hb := u8_lt (l.getD i 0)
    have w1 : IntKind.wrap .i64 ((i : Int) + 1) = ((i + 1 : Nat) : Int) := by rw [w64 (by omega)]; omega
    generalize hc : l.getD i 0 = c at *
    by_cases hk : kindOf (c.toNat : Int) = 1
    · rw [if_pos hk]
      have hk' := kind_one hk
      have e := ih (i + 1) (x * 10 + ((c.toNat : Int) - 48)) (by omega) (by rw [p3]; omega)
      refine Ev.step (e.congr fun k => ?_)
      have hv : F90 k (c.toNat : Int) = some ((c.toNat : Int) - 48) := by
        rw [F90, rKind_eq, bind_some', hk]
        show iteB true _ _ = _
        rw [iteB_t, wu8 (by omega), w64 (by omega)]
      rw [F55_L1, decide_eq_true (by omega), iteB_t, grd_t _ (by omega), toNat_nat, hc, rKind_eq, bind_some', hk]
      show iteB false _ _ = _
      rw [iteB_f, grd_t _ (by omega), hv, bind_some', w64 (n := x * 10) (by omega), w64 (n := x * 10 + _) (by omega), w1]
    · rw [if_neg hk]
      refine Ev.step (Ev.pure.congr fun k => ?_)
      rw [F55_L1, decide_eq_true (by omega), iteB_t, grd_t _ (by omega), toNat_nat, hc, rKind_eq, bind_some', show (kindOf (c.toNat : Int) != 1) = true by rw [bne_iff_ne]; exact hk, iteB_t]
theorem ev_rReadDecimal (l : List UInt8) : Ev (fun k => F55 k l) (readD l) := by
  unfold readD
  cases l with
  | nil => rw [if_pos (Or.inl rfl)]; exact Ev.pure.congr fun k => rfl
  | cons a l =>
    have hz : (((a :: l).length : Int) == 0) = false := by rw [beq_eq_false_iff_ne, List.length_cons]; omega
    by_cases h : 18 < (a :: l).length
    · rw [if_pos (Or.inr h)]
      refine Ev.pure.congr fun k => ?_
      rw [F55, hz, iteB_f, decide_eq_true (by omega), iteB_t]
    · rw [if_neg (by simp only [reduceCtorEq, false_or]; exact h)]
      have e := ev_rdec_l (a :: l) (by omega) (a :: l).length 0 0 (by omega) (by decide)
      refine e.congr fun k => ?_
      rw [F55, hz, iteB_f, decide_eq_false (by omega), iteB_f]; rfl

theorem decP_all : ∀ (l : List UInt8) (x : Int), (decP l x).2 = true → ∀ c ∈ l, kindOf (c.toNat : Int) = 1
  | [], _, _, c, hc => by simp at hc
  | a :: l, x, h, c, hc => by
    rw [decP] at h
    by_cases k : kindOf (a.toNat : Int) = 1
    · rw [if_pos k] at h
      rcases List.mem_cons.1 hc with rfl | hc
      · exact k
      · exact decP_all l _ h c hc
    · rw [if_neg k] at h; cases h

/-- The reference's digits of any number. -/
theorem rDec_nat (j : Nat) : ∀ (k n : Nat), n < 10 ^ (k + 1) → k ≤ 18 → n ≤ 9223372036854775807 → F17 (j + k + 1) (n : Int) = some ((dgR n).reverse.map toB)
  | k, n, h, hk, hb => by
    by_cases h1 : n < 10
    · rw [dgR_lt h1, F17, decide_eq_true (by omega), iteB_t, decide_eq_true (by omega), iteB_t, rDig_eq (j + k) n h1, bind_some']; rfl
    · match k, h, hk with
      | 0, h, _ => omega
      | k + 1, h, hk =>
        have h2 : n / 10 < 10 ^ (k + 1) := by
          have : n < 10 ^ (k + 1) * 10 := by rw [← Nat.pow_succ]; exact h
          omega
        have e := rDec_nat j k (n / 10) h2 (by omega) (by omega)
        have q1 : IntKind.wrap .i64 ((n : Int).tdiv 10) = ((n / 10 : Nat) : Int) := by rw [Int.tdiv_eq_ediv_of_nonneg (by omega), w64 (by omega)]; omega
        have q2 : ((n : Int).tmod 10) = ((n % 10 : Nat) : Int) := by rw [Int.tmod_eq_emod_of_nonneg (by omega)]; omega
        have hl := dgR_len k (n / 10) h2
        have e2 : F17 (j + (k + 1) + 1) (n : Int) = ((some ((dgR (n / 10)).reverse.map toB)).bind fun v => (some [toB (48 + ((n % 10 : Nat) : Int))]).bind fun d => grd (v.length + d.length ≤ 9223372036854775807) (some (v ++ d))) := by
          rw [F17, decide_eq_true (by omega), iteB_t, decide_eq_false (by omega), iteB_f, decide_eq_false (by omega), iteB_f, q1, show j + (k + 1) = j + k + 1 from rfl, e, q2, rDig_eq (j + k + 1) (n % 10) (by omega)]
        rw [e2, bind_some', bind_some', grd_t _ (by simp; omega), dgR_ge h1, List.reverse_cons, List.map_append]; rfl
theorem ev_rneg (a : Nat) : ∀ (k m : Nat) (out : List UInt8), m < 10 ^ k → k ≤ 20 → m ≤ 9223372036854775808 → out.length + k ≤ 100 → Ev (fun n => F17_L2 n (-(m : Int)) out) (45 :: ((if m = 0 then [] else (dgR m).reverse.map toB) ++ out)) := by
  intro k
  induction k with
  | zero =>
    intro m out hm hk hb ho
    obtain rfl : m = 0 := by omega
    rw [if_pos rfl]
    refine Ev.step (Ev.pure.congr fun n => ?_)
    rw [F17_L2, decide_eq_false (by omega), iteB_f, grd_t _ (by omega)]; rfl
  | succ k ih =>
    intro m out hm hk hb ho
    by_cases h0 : m = 0
    · subst h0
      rw [if_pos rfl]
      refine Ev.step (Ev.pure.congr fun n => ?_)
      rw [F17_L2, decide_eq_false (by omega), iteB_f, grd_t _ (by omega)]; rfl
    · have h2 : m / 10 < 10 ^ k := by
        have : m < 10 ^ k * 10 := by rw [← Nat.pow_succ]; exact hm
        omega
      have e := ih (m / 10) ([toB (48 + ((m % 10 : Nat) : Int))] ++ out) h2 (by omega) (by omega) (by simp; omega)
      have q1 : IntKind.wrap .i64 (Int.tdiv (-(m : Int)) 10) = -((m / 10 : Nat) : Int) := by
        rw [Int.neg_tdiv, Int.tdiv_eq_ediv_of_nonneg (by omega), w64 (by omega)]; omega
      have q2 : IntKind.wrap .i64 (0 - Int.tmod (-(m : Int)) 10) = ((m % 10 : Nat) : Int) := by
        rw [Int.neg_tmod, Int.tmod_eq_emod_of_nonneg (by omega), w64 (by omega)]; omega
      rw [if_neg h0]
      have hres : (45 : UInt8) :: ((if m / 10 = 0 then [] else (dgR (m / 10)).reverse.map toB) ++ ([toB (48 + ((m % 10 : Nat) : Int))] ++ out)) = 45 :: ((dgR m).reverse.map toB ++ out) := by
        by_cases h1 : m < 10
        · rw [if_pos (by omega), dgR_lt h1, show m % 10 = m by omega]; rfl
        · rw [if_neg (by omega), dgR_ge h1, List.reverse_cons, List.map_append, List.append_assoc]; rfl
      rw [hres] at e
      refine Ev.step (e.congr fun n => ?_)
      rw [F17_L2, decide_eq_true (by omega), iteB_t, q2, rDig_eq n (m % 10) (by omega), bind_some', grd_t _ (by simp; omega), q1]
theorem ev_rDecimal (a : Int) (h : -9223372036854775808 ≤ a ∧ a ≤ 9223372036854775807) : Ev (fun n => F17 n a) (decT a) := by
  unfold decT decI
  by_cases h0 : a < 0
  · obtain ⟨m, hm⟩ : ∃ m : Nat, a = -(m : Int) := ⟨a.natAbs, by omega⟩
    subst hm
    have e := ev_rneg m 20 m [] (by omega) (by omega) (by omega) (by simp)
    rw [if_neg (by omega), List.append_nil] at e
    rw [if_pos h0, List.reverse_append, show (-(m : Int)).natAbs = m by omega]
    refine Ev.step (e.congr fun n => ?_)
    rw [F17, decide_eq_false (by omega), iteB_f, decide_eq_true h0, iteB_t]
  · obtain ⟨m, rfl⟩ := Int.eq_ofNat_of_zero_le (show 0 ≤ a by omega)
    rw [if_neg h0, show ((m : Int)).natAbs = m by omega]
    refine ⟨19, fun n hn => ?_⟩
    obtain ⟨k, rfl⟩ : ∃ k, n = k + 19 := ⟨n - 19, by omega⟩
    exact rDec_nat k 18 m (by omega) (by omega) (by omega)
/-- Digits are read. -/
theorem decP_snoc (c : UInt8) : ∀ (l : List UInt8) (x : Int), decP (l ++ [c]) x = if (decP l x).2 = true then decP [c] (decP l x).1 else (0, false)
  | [], x => by rw [List.nil_append]; rfl
  | a :: l, x => by
    rw [List.cons_append, decP, decP]
    by_cases k : kindOf (a.toNat : Int) = 1
    · rw [if_pos k, if_pos k]; exact decP_snoc c l _
    · rw [if_neg k, if_neg k]; rfl
theorem digit_fin : ∀ r : Fin 10, kindOf ((toB (48 + (r.val : Int))).toNat : Int) = 1 ∧ ((toB (48 + (r.val : Int))).toNat : Int) - 48 = r.val ∧ toB (48 + (r.val : Int)) ≠ 45 := by decide +kernel
theorem digit_nat (r : Nat) (h : r < 10) : kindOf ((toB (48 + (r : Int))).toNat : Int) = 1 ∧ ((toB (48 + (r : Int))).toNat : Int) - 48 = r ∧ toB (48 + (r : Int)) ≠ 45 := digit_fin ⟨r, h⟩
theorem decP_dg : ∀ (n m : Nat), m ≤ n → decP ((dgR m).reverse.map toB) 0 = ((m : Int), true)
  | n, m, h => by
    by_cases h1 : m < 10
    · have hd := digit_nat m h1
      rw [dgR_lt h1]
      show decP [toB (48 + (m : Int))] 0 = _
      rw [decP, if_pos hd.1, decP, hd.2.1]
      simp
    · match n, h with
      | 0, h => omega
      | n + 1, h =>
        have ih := decP_dg n (m / 10) (by omega)
        have hd := digit_nat (m % 10) (by omega)
        rw [dgR_ge h1, List.reverse_cons, List.map_append]
        show decP (_ ++ [toB (48 + ((m % 10 : Nat) : Int))]) 0 = _
        rw [decP_snoc, ih, if_pos rfl, decP, if_pos hd.1, decP, hd.2.1]
        congr 1
        omega
theorem dg_no : ∀ (n m : Nat), m ≤ n → (45 : UInt8) ∉ (dgR m).reverse.map toB
  | n, m, h => by
    by_cases h1 : m < 10
    · have hd := digit_nat m h1
      rw [dgR_lt h1]
      show (45 : UInt8) ∉ [toB (48 + (m : Int))]
      simp only [List.mem_singleton]
      exact fun e => hd.2.2 e.symm
    · match n, h with
      | 0, h => omega
      | n + 1, h =>
        have ih := dg_no n (m / 10) (by omega)
        have hd := digit_nat (m % 10) (by omega)
        rw [dgR_ge h1, List.reverse_cons, List.map_append, List.mem_append]
        rintro (e | e)
        · exact ih e
        · have e2 : (45 : UInt8) ∈ [toB (48 + ((m % 10 : Nat) : Int))] := e
          simp only [List.mem_singleton] at e2
          exact hd.2.2 e2.symm
theorem decT_nat (m : Nat) : decT (m : Int) = (dgR m).reverse.map toB := by
  unfold decT decI
  rw [if_neg (by omega), show ((m : Int)).natAbs = m by omega]
theorem read_dec (m : Nat) (h : m < 1000000000000000000) : readD (decT (m : Int)) = ((m : Int), true) := by
  have hl := dgR_len 17 m (by omega)
  have hp := dgR_pos m
  rw [decT_nat]
  unfold readD
  rw [if_neg, decP_dg m m (Nat.le_refl _)]
  simp only [not_or]
  constructor
  · intro e; have := congrArg List.length e; simp at this; rw [this] at hp; simp at hp
  · simp; omega
end Go.Proofs.YtbamlphgolldlaaX

/- Ranges: what slice.Range answers. -/
set_option linter.unusedVariables false
set_option linter.unusedSimpArgs false
namespace Go.Proofs.YtbamlphgolldlaaX
open Go

def preB (s p : List UInt8) : Bool := decide (p.length ≤ s.length) && s.take p.length == p
def cutPT (s p : List UInt8) : List UInt8 × Bool := if preB s p = true then (s.drop p.length, true) else (s, false)
theorem cutP_eq (n : Nat) (s p : List UInt8) : F52 n s p = some (cutPT s p) := by
  rw [F52, F88, F108]
  unfold cutPT preB
  by_cases h : p.length ≤ s.length
  · rw [decide_eq_true (by omega), iteB_t, grd_t _ (by omega), bind_some', decide_eq_true h, toNat_nat, Bool.true_and]
    cases hb : (s.take p.length == p) with
    | false => rfl
    | true =>
      show (grd _ _).bind _ = _
      rw [grd_t _ (by omega)]; rfl
  · rw [decide_eq_false (by omega), iteB_f, bind_some', decide_eq_false h]; rfl
def rdT (s : List UInt8) : Int × Bool := if s = [] then (-1, true) else readD s
theorem ev_bndR (s : List UInt8) : Ev (fun k => bndR k s) (rdT s) := by
  unfold rdT
  by_cases h : s = []
  · rw [if_pos h]
    exact Ev.pure.congr fun k => by unfold bndR; rw [if_pos h]
  · rw [if_neg h]
    exact (ev_ReadDecimal s).congr fun k => by unfold bndR; rw [if_neg h]
def bndT (s : List UInt8) : Int × Int × Bool := bndV (cutB 45 s) (rdT (cutB 45 s).1) (rdT (cutB 45 s).2.1)
theorem ev_bounds (s : List UInt8) (hs : s.length ≤ 1000000) : Ev (fun k => F53 k s) (bndT s) := by
  obtain ⟨N1, k1⟩ := ev_bndR (cutB 45 s).1
  obtain ⟨N2, k2⟩ := ev_bndR (cutB 45 s).2.1
  refine ⟨N1 + N2, fun n hn => ?_⟩
  have e1 : bndR n (cutB 45 s).1 = some (rdT (cutB 45 s).1) := k1 n (by omega)
  have e2 : bndR n (cutB 45 s).2.1 = some (rdT (cutB 45 s).2.1) := k2 n (by omega)
  show F53 n s = _
  rw [F53, Cut_eq n s 45 hs, bind_some', e1, bind_some', e2, bind_some']; rfl
theorem rdT_bd (s : List UInt8) : -1 ≤ (rdT s).1 ∧ (rdT s).1 ≤ 1000000000000000000 := by
  unfold rdT
  split
  · dsimp only; omega
  · have := readD_bd s; omega
theorem bndT_bd (s : List UInt8) : -1 ≤ (bndT s).1 ∧ (bndT s).1 ≤ 1000000000000000000 ∧ -1 ≤ (bndT s).2.1 ∧ (bndT s).2.1 ≤ 1000000000000000000 := by
  have a := rdT_bd (cutB 45 s).1
  have b := rdT_bd (cutB 45 s).2.1
  unfold bndT bndV
  split
  · dsimp only; omega
  · split
    · dsimp only; omega
    · split <;> (dsimp only; omega)
theorem rdT_neg {s : List UInt8} (h : (rdT s).1 < 0) : s = [] := by
  unfold rdT at h
  split at h
  · assumption
  · have := readD_bd s; omega
theorem bndT_ok (s : List UInt8) (h : (bndT s).2.2 = true) (h1 : (bndT s).1 < 0) : 0 ≤ (bndT s).2.1 := by
  unfold bndT bndV at h h1 ⊢
  split at h
  · cases h
  · rename_i q1
    rw [if_neg q1] at h1 ⊢
    split at h
    · cases h
    · rename_i q2
      rw [if_neg q2] at h1 ⊢
      split at h
      · cases h
      · rename_i q3
        rw [if_neg q3] at h1 ⊢
        have hx := rdT_neg h1
        have hy : (cutB 45 s).2.1 ≠ [] := fun e => q2 ⟨hx, e⟩
        rcases Int.lt_or_le (rdT (cutB 45 s).2.1).1 0 with q | q
        · exact absurd (rdT_neg q) hy
        · exact q
def maxN (n : Int) : Int := if n < 0 then 0 else n
def rT (p : Bool) (v : Int × Int × Bool) (N : Int) : (Int × Int) × Bool × Int :=
  if (p && v.2.2) = false then ((0, N), false, 0)
  else if v.1 < 0 then (if v.2.1 = 0 ∨ N = 0 then ((0, 0), false, 20) else ((if N - v.2.1 < 0 then 0 else N - v.2.1, N), true, 0))
  else if N ≤ v.1 then ((0, 0), false, 20)
  else if v.2.1 < 0 then ((v.1, N), true, 0)
  else ((v.1, (if N - 1 < v.2.1 then N - 1 else v.2.1) + 1), true, 0)
def rangeT (s : List UInt8) (n : Int) : (Int × Int) × Bool × Int := rT (cutPT s [98, 121, 116, 101, 115, 61]).2 (bndT (cutPT s [98, 121, 116, 101, 115, 61]).1) (maxN n)
theorem ev_Range (s : List UInt8) (hs : s.length ≤ 1000000) (n : Int) (hn : -9223372036854775808 ≤ n ∧ n ≤ 9223372036854775807) : Ev (fun k => F16 k s n) (rangeT s n) := by
  have hl : (cutPT s [98, 121, 116, 101, 115, 61]).1.length ≤ 1000000 := by
    unfold cutPT; split
    · simp; omega
    · exact hs
  obtain ⟨N1, k1⟩ := ev_bounds (cutPT s [98, 121, 116, 101, 115, 61]).1 hl
  refine ⟨N1, fun k hk => ?_⟩
  have e1 : F53 k (cutPT s [98, 121, 116, 101, 115, 61]).1 = some (bndT (cutPT s [98, 121, 116, 101, 115, 61]).1) := k1 k hk
  have hb := bndT_bd (cutPT s [98, 121, 116, 101, 115, 61]).1
  have hok := bndT_ok (cutPT s [98, 121, 116, 101, 115, 61]).1
  show F16 k s n = _
  rw [F16, cutP_eq, bind_some', e1, bind_some']
  unfold rangeT
  have hN : 0 ≤ maxN n ∧ maxN n ≤ 9223372036854775807 := by unfold maxN; split <;> omega
  have eN : (if n < (0 : Int) then (0 : Int) else n) = maxN n := rfl
  simp only [F16_J2, F16_J1, eN]
  generalize maxN n = N at *
  generalize (cutPT s [98, 121, 116, 101, 115, 61]).2 = p
  generalize bndT (cutPT s [98, 121, 116, 101, 115, 61]).1 = v at *
  obtain ⟨f, l, ok⟩ := v
  dsimp only at hb hok ⊢
  cases p with
  | false => rfl
  | true =>
    cases ok with
    | false => rfl
    | true =>
      show iteB false _ (iteB false _ _) = _
      rw [iteB_f, iteB_f]
      by_cases h1 : f < 0
      · rw [decide_eq_true h1, iteB_t]
        by_cases h2 : l = 0
        · have hr : rT true (f, l, true) N = ((0, 0), false, 20) := by unfold rT; dsimp only; rw [if_neg (by simp), if_pos h1, if_pos (Or.inl h2)]
          rw [hr, show (l == (0 : Int)) = true by rw [beq_iff_eq]; exact h2]; rfl
        · rw [show (l == (0 : Int)) = false by rw [beq_eq_false_iff_ne]; exact h2, iteB_f]
          by_cases h3 : N = 0
          · have hr : rT true (f, l, true) N = ((0, 0), false, 20) := by unfold rT; dsimp only; rw [if_neg (by simp), if_pos h1, if_pos (Or.inr h3)]
            rw [hr, show (N == (0 : Int)) = true by rw [beq_iff_eq]; exact h3]; rfl
          · have hlp := hok rfl h1
            have hr : rT true (f, l, true) N = ((if N - l < 0 then 0 else N - l, N), true, 0) := by unfold rT; dsimp only; rw [if_neg (by simp), if_pos h1, if_neg (by omega)]
            rw [hr, show (N == (0 : Int)) = false by rw [beq_eq_false_iff_ne]; exact h3, iteB_f, decide_eq_false (show ¬ N ≤ f by omega), iteB_f]
            rw [iteB_f, iteB_t, w64 (n := N - l) (by omega)]
      · rw [decide_eq_false h1, iteB_f]
        by_cases h2 : N ≤ f
        · have hr : rT true (f, l, true) N = ((0, 0), false, 20) := by unfold rT; dsimp only; rw [if_neg (by simp), if_neg h1, if_pos h2]
          rw [hr, decide_eq_true h2, iteB_t, decide_eq_true (show (0 : Int) ≤ f by omega)]; rfl
        · rw [decide_eq_false h2, iteB_f]
          rw [iteB_f, iteB_f]
          by_cases h3 : l < 0
          · have hr : rT true (f, l, true) N = ((f, N), true, 0) := by unfold rT; dsimp only; rw [if_neg (by simp), if_neg h1, if_neg h2, if_pos h3]
            rw [hr, decide_eq_true h3, iteB_t]
          · have hr : rT true (f, l, true) N = ((f, (if N - 1 < l then N - 1 else l) + 1), true, 0) := by unfold rT; dsimp only; rw [if_neg (by simp), if_neg h1, if_neg h2, if_neg h3]
            rw [hr, decide_eq_false h3, iteB_f, w64 (n := N - 1) (by omega), w64 (by split <;> omega)]
theorem cutP_app (s : List UInt8) : cutPT (([98, 121, 116, 101, 115, 61] : List UInt8) ++ s) [98, 121, 116, 101, 115, 61] = (s, true) := by
  unfold cutPT preB
  rw [if_pos (by simp)]; rfl
theorem cut_at (a b : List UInt8) (h : (45 : UInt8) ∉ a) : cutB 45 (a ++ ([45] ++ b)) = (a, b, true) := cut_app 45 a b h
theorem dec_ne (m : Nat) : decT (m : Int) ≠ [] := by
  have hp := dgR_pos m
  rw [decT_nat]
  intro e
  have := congrArg List.length e
  simp at this
  rw [this] at hp; simp at hp
theorem rd_dec (m : Nat) (h : m < 1000000000000000000) : rdT (decT (m : Int)) = ((m : Int), true) := by
  unfold rdT; rw [if_neg (dec_ne m), read_dec m h]
theorem bnd_two (a b : Nat) (ha : a < 1000000000000000000) (hb : b < 1000000000000000000) : bndT (decT (a : Int) ++ ([45] ++ decT (b : Int))) = if b < a then (0, 0, false) else ((a : Int), (b : Int), true) := by
  unfold bndT
  rw [cut_at _ _ (by rw [decT_nat]; exact dg_no a a (Nat.le_refl _)), rd_dec a ha, rd_dec b hb]
  unfold bndV
  rw [if_neg (by simp), if_neg (fun e => dec_ne a e.1)]
  by_cases h : b < a
  · rw [if_pos ⟨dec_ne a, dec_ne b, by dsimp only; omega⟩, if_pos h]
  · rw [if_neg (fun e => by have := e.2.2; dsimp only at this; omega), if_neg h]
theorem bnd_tail (b : Nat) (hb : b < 1000000000000000000) : bndT ([45] ++ decT (b : Int)) = (-1, (b : Int), true) := by
  unfold bndT
  have e := cut_at [] (decT (b : Int)) (by simp)
  rw [List.nil_append] at e
  rw [e, rd_dec b hb]
  unfold bndV rdT
  rw [if_pos rfl, if_neg (by simp), if_neg (fun e => dec_ne b e.2), if_neg (fun e => e.1 rfl)]
end Go.Proofs.YtbamlphgolldlaaX

/- The law SliceWithin. -/
set_option linter.unusedVariables false
set_option linter.unusedSimpArgs false
namespace Go.Proofs.YtbamlphgolldlaaX
open Go

theorem low16 (x : Int) : ∃ m : Nat, m < 65536 ∧ IntKind.wrap .i64 (bAnd .i64 x 65535) = (m : Int) := by
  refine ⟨(BitVec.ofInt 64 x &&& BitVec.ofInt 64 65535).toNat, ?_, ?_⟩
  · rw [BitVec.toNat_and]
    have : (BitVec.ofInt 64 65535).toNat = 65535 := by decide
    rw [this]
    have := Nat.and_le_right (n := (BitVec.ofInt 64 x).toNat) (m := 65535)
    omega
  · show IntKind.wrap .i64 ((BitVec.ofInt 64 x &&& BitVec.ofInt 64 65535).toNat : Int) = _
    have h : (BitVec.ofInt 64 x &&& BitVec.ofInt 64 65535).toNat < 65536 := by
      rw [BitVec.toNat_and]
      have : (BitVec.ofInt 64 65535).toNat = 65535 := by decide
      rw [this]
      have := Nat.and_le_right (n := (BitVec.ofInt 64 x).toNat) (m := 65535)
      omega
    rw [w64 (by omega)]
theorem bx : bndT ([120] : List UInt8) = (0, 0, false) := by decide +kernel
theorem law_main (v0 v1 v2 : Int) (h0 : okT3 v0) (h1 : okT3 v1) (h2 : okT3 v2) : ∃ n, F5 n v0 v1 v2 = some true := by
  obtain ⟨a, ha, ea⟩ := low16 v0
  obtain ⟨b, hb, eb⟩ := low16 v1
  obtain ⟨m, hm, em⟩ := low16 v2
  have la : (decT (a : Int)).length ≤ 20 := by rw [decT_nat]; have := dgR_len 17 a (by omega); simp; omega
  have lb : (decT (b : Int)).length ≤ 20 := by rw [decT_nat]; have := dgR_len 17 b (by omega); simp; omega
  obtain ⟨N1, k1⟩ := ev_rDecimal (a : Int) (by omega)
  obtain ⟨N2, k2⟩ := ev_rDecimal (b : Int) (by omega)
  obtain ⟨N3, k3⟩ := ev_Range (((([98, 121, 116, 101, 115, 61] : List UInt8) ++ decT (a : Int)) ++ ([45] : List UInt8)) ++ decT (b : Int)) (by simp; omega) (m : Int) (by omega)
  obtain ⟨N4, k4⟩ := ev_Range (([98, 121, 116, 101, 115, 61, 45] : List UInt8) ++ decT (b : Int)) (by simp; omega) (m : Int) (by omega)
  obtain ⟨N5, k5⟩ := ev_Range ([98, 121, 116, 101, 115, 61, 120] : List UInt8) (by simp) (m : Int) (by omega)
  refine ⟨N1 + N2 + N3 + N4 + N5, ?_⟩
  generalize hn : N1 + N2 + N3 + N4 + N5 = n
  have e1 : F17 n (a : Int) = some (decT (a : Int)) := k1 n (by omega)
  have e2 : F17 n (b : Int) = some (decT (b : Int)) := k2 n (by omega)
  have hmx : maxN (m : Int) = m := by unfold maxN; rw [if_neg (by omega)]
  have r3 : rangeT (((([98, 121, 116, 101, 115, 61] : List UInt8) ++ decT (a : Int)) ++ ([45] : List UInt8)) ++ decT (b : Int)) (m : Int) = rT true (if b < a then (0, 0, false) else ((a : Int), (b : Int), true)) (m : Int) := by
    unfold rangeT
    rw [List.append_assoc, List.append_assoc, cutP_app, bnd_two a b (by omega) (by omega), hmx]
  have r4 : rangeT (([98, 121, 116, 101, 115, 61, 45] : List UInt8) ++ decT (b : Int)) (m : Int) = rT true (-1, (b : Int), true) (m : Int) := by
    unfold rangeT
    rw [show ([98, 121, 116, 101, 115, 61, 45] : List UInt8) ++ decT (b : Int) = [98, 121, 116, 101, 115, 61] ++ ([45] ++ decT (b : Int)) from rfl, cutP_app, bnd_tail b (by omega), hmx]
  have r5 : rangeT ([98, 121, 116, 101, 115, 61, 120] : List UInt8) (m : Int) = ((0, (m : Int)), false, 0) := by
    unfold rangeT
    rw [show ([98, 121, 116, 101, 115, 61, 120] : List UInt8) = [98, 121, 116, 101, 115, 61] ++ [120] from rfl, cutP_app, bx, hmx]; rfl
  have e3 : F16 n (((([98, 121, 116, 101, 115, 61] : List UInt8) ++ decT (a : Int)) ++ ([45] : List UInt8)) ++ decT (b : Int)) (m : Int) = some (rT true (if b < a then (0, 0, false) else ((a : Int), (b : Int), true)) (m : Int)) := by rw [← r3]; exact k3 n (by omega)
  have e4 : F16 n (([98, 121, 116, 101, 115, 61, 45] : List UInt8) ++ decT (b : Int)) (m : Int) = some (rT true (-1, (b : Int), true) (m : Int)) := by rw [← r4]; exact k4 n (by omega)
  have e5 : F16 n ([98, 121, 116, 101, 115, 61, 120] : List UInt8) (m : Int) = some ((0, (m : Int)), false, 0) := by rw [← r5]; exact k5 n (by omega)
  rw [F5, ea, eb, em, e1, bind_some', grd_t _ (by omega), grd_t _ (by omega), e2, bind_some', grd_t _ (by omega), e3, bind_some', bind_some', grd_t _ (by omega), e4, bind_some', e5, bind_some']
  clear e1 e2 e3 e4 e5 r3 r4 r5 k1 k2 k3 k4 k5 la lb
  dsimp only
  rw [show ((0 : Int) == 0) = true from rfl, Bool.true_and, show ((m : Int) == (m : Int)) = true by simp]
  show iteB false _ (iteB false _ (iteB false _ _)) = _
  rw [iteB_f, iteB_f, iteB_f]
  -- the tail
  have tail : ∀ (j : Bool), F5_J1 n v1 v2 (rT true (-1, (b : Int), true) (m : Int)) = some true := by
    intro j
    rw [F5_J1]
    rw [eb, em]
    unfold rT
    rw [if_neg (by simp), if_pos (by omega)]
    dsimp only
    by_cases q1 : (b : Int) = 0
    · rw [if_pos (.inl q1), show ((b : Int) == 0) = true by rw [beq_iff_eq]; exact q1]; rfl
    · rw [show ((b : Int) == 0) = false by rw [beq_eq_false_iff_ne]; exact q1, iteB_f]
      by_cases q2 : (m : Int) = 0
      · rw [if_pos (.inr q2), show ((m : Int) == 0) = true by rw [beq_iff_eq]; exact q2]; rfl
      · rw [if_neg (by omega), show ((m : Int) == 0) = false by rw [beq_eq_false_iff_ne]; exact q2, iteB_f]
        dsimp only
        show iteB true (iteB true (iteB ((m : Int) == (m : Int)) _ _) _) _ = _
        rw [iteB_t, iteB_t, show ((m : Int) == (m : Int)) = true by simp, iteB_t]
        congr 1
        rw [beq_iff_eq]
        rw [w64 (by split <;> omega)]
        split <;> split <;> omega
  by_cases hab : b < a
  · rw [decide_eq_true (by omega), iteB_t, if_pos hab]
    have : rT true (0, 0, false) (m : Int) = ((0, (m : Int)), false, 0) := rfl
    rw [this]
    dsimp only
    rw [iteB_f]
    show iteB false _ (iteB (!((0 : Int) == 0 && (m : Int) == (m : Int))) _ _) = _
    rw [iteB_f, show ((m : Int) == (m : Int)) = true by simp]
    exact tail true
  · rw [decide_eq_false (by omega), iteB_f, if_neg hab]
    unfold rT
    rw [if_neg (by simp), if_neg (by dsimp only; omega)]
    dsimp only
    by_cases ham : (m : Int) ≤ (a : Int)
    · rw [decide_eq_true ham, iteB_t, if_pos ham]
      exact tail true
    · rw [decide_eq_false ham, iteB_f, if_neg ham, if_neg (by omega)]
      dsimp only
      show iteB false _ (iteB false _ _) = _
      rw [iteB_f, iteB_f, show ((a : Int) != (a : Int)) = false by simp, iteB_f]
      have hw : IntKind.wrap .i64 ((b : Int) + 1) = (b : Int) + 1 := w64 (by omega)
      rw [hw]
      have he : (((if (m : Int) - 1 < (b : Int) then (m : Int) - 1 else (b : Int)) + 1) != (if (m : Int) < (b : Int) + 1 then (m : Int) else (b : Int) + 1)) = false := by
        have : ((if (m : Int) - 1 < (b : Int) then (m : Int) - 1 else (b : Int)) + 1) = (if (m : Int) < (b : Int) + 1 then (m : Int) else (b : Int) + 1) := by split <;> split <;> omega
        rw [this]; simp
      rw [he, iteB_f]
      exact tail true
end Go.Proofs.YtbamlphgolldlaaX

set_option linter.unusedVariables false
namespace Go.Proofs.YtbamlphgolldlaaX
open Go Go.RowKit Go.Proofs
set_option maxRecDepth 100000
theorem shapedRow (xs : List T) (h : ShapesW Try.prog [3, 3, 3] xs) : FnC Try.prog 5 xs (tb true) := shapedSliceWithin law_main xs h
end Go.Proofs.YtbamlphgolldlaaX
namespace Go.Proofs.Ytbamlphgolldlaa.sliceWithin
open Go.ChangeShapes Go.WideShapes Go.ChangeAt Go.RowKit
set_option linter.unusedVariables false
theorem own : ownKnob Try.prog.godebug = none := by kernel_rfl
set_option maxRecDepth 100000 in
theorem lifted (os : Os) (started : os.Started) (H : Type) (enc : TypeId × Value → H) :
    ReturnsInHanded {} Try.checked os 5 .any (Rows.sliceWithinSpec.pre6 enc Try.prog Try.f5 Rows.sliceWithinRow.domain false) (Rows.sliceWithinSpec.post enc Try.prog Try.f5 false true false false) := by
  refine returnsInHanded_of_change_sized (C := Try.checked) own started (by kernel_rfl) Try.func5
    (ChangeSpec.witness6 (enc := enc) (C := Try.checked) false ⟨#[], #[.int .i64 0, .int .i64 0, .int .i64 0], []⟩ 8 (by kernel_rfl) (by kernel_rfl) (by kernel_rfl) (by kernel_rfl)) ?_
  intro W base args ds gs before hval0 hW hcnd hsz0 _
  exact YtbamlphgolldlaaX.row_contract (P := Try.prog) (fn := Try.f5) (s := Rows.sliceWithinSpec) (ts := [3, 3, 3]) (tb := 4) (L := [3, 3, 3]) (by kernel_rfl) (by kernel_rfl) (by kernel_rfl) (by kernel_rfl) (by kernel_rfl) (by kernel_rfl) rfl
    (fun H ds h => by
      match ds, h with
      | [d0, d1, d2], _ => rfl) YtbamlphgolldlaaX.shapedRow W base args ds gs before hval0 hW
theorem over : Rows.sliceWithinRow.holds Try.pinned (OpenSpec.ofChange Rows.sliceWithinSpec) :=
  OpenClaim.holds_of_wide 5 Try.f5 rfl rfl rfl rfl rfl rfl rfl ⟨rfl, rfl, rfl, rfl, rfl⟩ rfl rfl rfl rfl rfl (by kernel_rfl) Try.func5 (by kernel_rfl)
    (of_decide_eq_true (by kernel_rfl)) (by unfold Func.isWrapper; first | (rw [if_pos (by decide +kernel)]; kernel_rfl) | (rw [if_neg (by decide +kernel)]; exact ⟨rfl, rfl⟩))
    (fun os started H enc _ => lifted os started H enc)
theorem proved : Rows.SliceWithinSaid := over
#print axioms proved
end Go.Proofs.Ytbamlphgolldlaa.sliceWithin
namespace Go.Proofs.Ytbamlphgolldlaa
/-- The row, under a short name, for the claim. -/
theorem sliceWithin_holds : Rows.SliceWithinSaid := sliceWithin.proved
end Go.Proofs.Ytbamlphgolldlaa
