/- UtfBack: for every int n (made a character number below 0x110000) and every string s of at most 2000 bytes (longer ones are let go): a surrogate is put as nothing; any other number is put as 1 to 4 bytes that Next reads back whatever stands behind them, and one byte less is no character. -/
import Derived.Test.YtcnkndmegnfofaaBUtfBacka
import Derived.Laws.BitsAllLaws
import Derived.Test.YtcnkndmegnfofaaRows
import Derived.WalkKit
import Derived.ProofKit
import Derived.OpenShut
import Derived.ShutString
import Derived.ChangeOld
import Derived.Below
import Derived.SizedLaws
set_option linter.unusedVariables false
set_option linter.unusedSimpArgs false

namespace Go.Proofs.Ytcnkndmegnfofaa.P
open Go.RowKit Go.Proofs.YtcnkndmegnfofaaW.PrintWords Go.Proofs.YtcnkndmegnfofaaW.PrintLast Go.Proofs.YtcnkndmegnfofaaW.PrintMore
attribute [local go_sem] max2_int min2_int max_two min_two max_three min_three max_four min_four   -- for this text's walks alone
set_option linter.unusedVariables false
set_option linter.unusedSimpArgs false

/-! ### shadowboxref04_ReadHex: function 29 -/
def shadowboxref04_ReadHex.l0 : Nat → ByteArray → List Int → Int → Option (List Int × Bool)
  | 0, _, _, _ => none
  | k + 1, x0, x4, x5 => if (wrap64 (x5 + 1)) < (x0.size : Int) then (if 0 ≤ x5 then (if x5 < (x0.size : Int) then ((shadowboxref04_value.f k (bt x0 x5)).bind fun t267 => (if 0 ≤ (wrap64 (x5 + 1)) then ((shadowboxref04_value.f k (bt x0 (wrap64 (x5 + 1)))).bind fun t268 => (if t267 < 0 then (some (([] : List Int), false)) else (if t268 < 0 then (some (([] : List Int), false)) else (if x4.length < 140737488355328 then (shadowboxref04_ReadHex.l0 k x0 (x4 ++ [(wrap64 ((wrap64 (16 * t267)) + t268)) % 256]) (wrap64 (x5 + 2))) else (none))))) else (none))) else (none)) else (none)) else (some (x4, true))
def shadowboxref04_ReadHex.f (k : Nat) (a0 : ByteArray) : Option (List Int × Bool) := if ((a0.size : Int) % 2) = 0 then (shadowboxref04_ReadHex.l0 k a0 ([] : List Int) 0) else (some (([] : List Int), false))
theorem shadowboxref04_ReadHex.mono_l : ∀ k, (∀ y0 y1 y2, LeO (shadowboxref04_ReadHex.l0 k y0 y1 y2) (shadowboxref04_ReadHex.l0 (k + 1) y0 y1 y2))
  | 0 => fun _ _ _ r h => by simp [shadowboxref04_ReadHex.l0] at h
  | k + 1 => by
    have ih0 := shadowboxref04_ReadHex.mono_l k
    · intro y0 y1 y2
      unfold shadowboxref04_ReadHex.l0
      repeat' first
      | (with_reducible exact ih0 _ _ _)
      | (with_reducible exact shadowboxref04_value.mono _ _)
      | (with_reducible exact LeO.refl _)
      | (with_reducible exact LeO.none _)
      | (with_reducible refine LeO.ite ?_ ?_)
      | (with_reducible refine LeO.bind ?_ (fun _ => ?_))
      | exact ih0 _ _ _
      | exact shadowboxref04_value.mono _ _
      | exact LeO.none _
      | refine LeO.ite ?_ ?_
      | refine LeO.bind ?_ (fun _ => ?_)
theorem shadowboxref04_ReadHex.mono : ∀ a0 k, LeO (shadowboxref04_ReadHex.f k a0) (shadowboxref04_ReadHex.f (k + 1) a0) := by
  intro a0 k
  have ih0 := shadowboxref04_ReadHex.mono_l k
  unfold shadowboxref04_ReadHex.f
  repeat' first
      | (with_reducible exact ih0 _ _ _)
      | (with_reducible exact shadowboxref04_value.mono _ _)
      | (with_reducible exact LeO.refl _)
      | (with_reducible exact LeO.none _)
      | (with_reducible refine LeO.ite ?_ ?_)
      | (with_reducible refine LeO.bind ?_ (fun _ => ?_))
      | exact ih0 _ _ _
      | exact shadowboxref04_value.mono _ _
      | exact LeO.none _
      | refine LeO.ite ?_ ?_
      | refine LeO.bind ?_ (fun _ => ?_)
set_option maxHeartbeats 8000000 in
set_option maxRecDepth 100000 in
theorem shadowboxref04_ReadHex.calls (k : Nat) (a0 : ByteArray) (r1 : List Int) (r2 : Bool) (w : World) (h : shadowboxref04_ReadHex.f k a0 = some (r1, r2)) :
    Calls Try.prog 29 #[.string a0] w fun e w' => ∃ v0_ : Value, e = .returned (.tuple #[v0_, .bool r2]) ∧ Kd.R (Kd.int .u8) 5 w' w.heap.size (fun _ => True) v0_ r1 ∧ Below w.heap.size w w' := by
  have HB := Aside0.mk (Below.refl w.heap.size w)
  have H : (if ((a0.size : Int) % 2) = 0 then (shadowboxref04_ReadHex.l0 k a0 ([] : List Int) 0) else (some (([] : List Int), false))) = some (r1, r2) := h
  clear h
  by_cases c2 : ((a0.size : Int) % 2) = 0
  · rw [if_pos c2] at H
    have c2b0 : (((a0.size : Int) % 2) == 0) = true := beq_iff_eq.mpr c2
    have c2b1 : (((a0.size : Int) % 2) != 0) = false := bne_eq_false_iff_eq.mpr c2
    clear c2
    have H' := Aside0.mk H
    clear H
    go_enter Try.func29, Try.ntmps29
    go_wp2
    go_loopg [4, 5] k (fun kq v4 v5 w' => ∃ (x4_1 : List Int) (x5_1 : Int), v5 = .int .i64 x5_1 ∧ Aside0 (shadowboxref04_ReadHex.l0 kq a0 x4_1 x5_1 = some (r1, r2)) ∧ Aside0 (kq ≤ k) ∧ Aside0 (Kd.R (Kd.int .u8) 5 w' w.heap.size (fun _ => True) v4 x4_1) ∧ Aside0 (Below w.heap.size w w'))
    case atStart => exact ⟨(([] : List Int)), (0), (by first | rfl | (simp; done) | (simp [*]; done)), H', ⟨Nat.le_refl _⟩, ⟨by first | exact Kd.R_nil _ _ _ _ _ | exact Kd.N_nil _ _ _ _ _ | exact Kd.V_nil _ _ _ _ _ | exact Kd.Q_nil _ _ _ _ _ | exact Kd.S_nil _ _ _ _ _⟩, ⟨by repeat (first | (with_reducible first | exact HB.out | apply below_alloc | apply pw_below_drewN | apply below_drew1) | exact HB.out)⟩⟩
    case round =>
      clear H'
      try clear c2
      try clear c2b0
      try clear c2b1
      try clear p2
      obtain ⟨x4_1, x5_1, rfl, HA, HK1, HO_4, HB⟩ := hrel
      cases gk with
      | zero => exact absurd HA.out (by simp [shadowboxref04_ReadHex.l0])
      | succ k1 =>
        have H := HA.out
        clear HA
        simp only [shadowboxref04_ReadHex.l0] at H
        by_cases c3 : (wrap64 (x5_1 + 1)) < (a0.size : Int)
        · rw [if_pos c3] at H
          have c3b0 : decide ((wrap64 (x5_1 + 1)) < (a0.size : Int)) = true := decide_eq_true c3
          clear c3
          by_cases c4 : 0 ≤ x5_1
          · rw [if_pos c4] at H
            have c4b0 : decide (0 ≤ x5_1) = true := decide_eq_true c4
            clear c4
            by_cases c5 : x5_1 < (a0.size : Int)
            · rw [if_pos c5] at H
              have c5b0 : decide (x5_1 < (a0.size : Int)) = true := decide_eq_true c5
              clear c5
              replace H := Option.bind_eq_some_iff.mp H
              obtain ⟨t267, A70, H⟩ := H
              replace H : (if 0 ≤ (wrap64 (x5_1 + 1)) then ((shadowboxref04_value.f k1 (bt a0 (wrap64 (x5_1 + 1)))).bind fun t268 => (if t267 < 0 then (some (([] : List Int), false)) else (if t268 < 0 then (some (([] : List Int), false)) else (if x4_1.length < 140737488355328 then (shadowboxref04_ReadHex.l0 k1 a0 (x4_1 ++ [(wrap64 ((wrap64 (16 * t267)) + t268)) % 256]) (wrap64 (x5_1 + 2))) else (none))))) else (none)) = some (r1, r2) := H
              have A7 := Aside0.mk A70
              clear A70
              obtain ⟨ji8, hji8⟩ : ∃ j_ : Int, (wrap64 (x5_1 + 1)) = j_ := ⟨_, rfl⟩
              replace H : (if 0 ≤ (ji8) then ((shadowboxref04_value.f k1 (bt a0 (ji8))).bind fun t268 => (if t267 < 0 then (some (([] : List Int), false)) else (if t268 < 0 then (some (([] : List Int), false)) else (if x4_1.length < 140737488355328 then (shadowboxref04_ReadHex.l0 k1 a0 (x4_1 ++ [(wrap64 ((wrap64 (16 * t267)) + t268)) % 256]) (wrap64 (x5_1 + 2))) else (none))))) else (none)) = some (r1, r2) := by first | (rw [hji8] at H; exact H) | (simp only [hji8] at H ⊢; exact H)
              (try rw [hji8] at c3b0)
              (try rw [hji8] at A7)
              have hji8w : (IntKind.i64.wrap (x5_1 + 1)) = ji8 := (i64_w _).trans hji8
              by_cases c9 : 0 ≤ (ji8)
              · rw [if_pos c9] at H
                have c9b0 : decide (0 ≤ (ji8)) = true := decide_eq_true c9
                clear c9
                replace H := Option.bind_eq_some_iff.mp H
                obtain ⟨t268, A110, H⟩ := H
                replace H : (if t267 < 0 then (some (([] : List Int), false)) else (if t268 < 0 then (some (([] : List Int), false)) else (if x4_1.length < 140737488355328 then (shadowboxref04_ReadHex.l0 k1 a0 (x4_1 ++ [(wrap64 ((wrap64 (16 * t267)) + t268)) % 256]) (wrap64 (x5_1 + 2))) else (none)))) = some (r1, r2) := H
                have A11 := Aside0.mk A110
                clear A110
                by_cases c12 : t267 < 0
                · rw [if_pos c12] at H
                  have c12b0 : decide (t267 < 0) = true := decide_eq_true c12
                  clear c12
                  simp only [Option.some.injEq, Prod.mk.injEq] at H
                  obtain ⟨rfl, rfl⟩ := H
                  have p6 : 0 ≤ (x5_1 : Int) := of_decide_eq_true (by first | (with_reducible assumption) | assumption)
                  have q6 : x5_1 < (a0.size : Int) := of_decide_eq_true (by first | (with_reducible assumption) | assumption)
                  have hx6 := bt_at a0 x5_1
                  replace p6 := eq_true p6
                  replace q6 := eq_true q6
                  go_wp2_with (first | ((with_reducible refine gate_callee (f := 54) rfl ?_); refine goesL_ (some 22) rfl rfl Try.func54 (by kernel_rfl) rfl #[.int .u8 (bt a0 x5_1)] rfl (by (try simp only [List.map_toArray, List.map_cons, List.map_nil]); first | done | rfl | (simp only [List.length_drop, List.length_take]; rfl)) ?_; (with_reducible refine (shadowboxref04_value.calls k1 (bt a0 x5_1) t267 _ A7.out).mono ?_); rintro e w' ⟨rfl, ⟨nd, rfl⟩⟩; refine ⟨_, rfl, ?_⟩; have p10 : 0 ≤ ((ji8) : Int) := of_decide_eq_true (by first | (with_reducible assumption) | assumption); have q10 : (ji8) < (a0.size : Int) := of_decide_eq_true (by first | (with_reducible assumption) | assumption); have hx10 := bt_at a0 (ji8); replace p10 := eq_true p10; replace q10 := eq_true q10) | ((with_reducible refine gate_callee (f := 54) rfl ?_); refine goesL_ (some 27) rfl rfl Try.func54 (by kernel_rfl) rfl #[.int .u8 (bt a0 (ji8))] rfl (by (try simp only [List.map_toArray, List.map_cons, List.map_nil]); first | done | (simp only [hji8]; rfl) | rfl | (simp only [List.length_drop, List.length_take]; rfl)) ?_; (with_reducible refine (shadowboxref04_value.calls k1 (bt a0 (ji8)) t268 _ A11.out).mono ?_); rintro e w' ⟨rfl, ⟨nd, rfl⟩⟩; refine ⟨_, rfl, ?_⟩))
                  go_ret2
                  exact ⟨_, by first | rfl | (simp [errW_none, errW_some] <;> rfl) | (simp only [← hji8]; first | rfl | (simp [errW_none, errW_some] <;> rfl)) | (simp [*, errW_none, errW_some] <;> rfl), by first | exact Kd.R_nil _ _ _ _ _ | exact Kd.N_nil _ _ _ _ _ | exact Kd.V_nil _ _ _ _ _ | exact Kd.Q_nil _ _ _ _ _ | exact Kd.S_nil _ _ _ _ _, by repeat (first | (with_reducible first | exact HB.out | apply below_alloc | apply pw_below_drewN | apply below_drew1) | exact HB.out)⟩
                · rw [if_neg c12] at H
                  have c12b0 : decide (t267 < 0) = false := decide_eq_false c12
                  clear c12
                  by_cases c13 : t268 < 0
                  · rw [if_pos c13] at H
                    have c13b0 : decide (t268 < 0) = true := decide_eq_true c13
                    clear c13
                    simp only [Option.some.injEq, Prod.mk.injEq] at H
                    obtain ⟨rfl, rfl⟩ := H
                    have p6 : 0 ≤ (x5_1 : Int) := of_decide_eq_true (by first | (with_reducible assumption) | assumption)
                    have q6 : x5_1 < (a0.size : Int) := of_decide_eq_true (by first | (with_reducible assumption) | assumption)
                    have hx6 := bt_at a0 x5_1
                    replace p6 := eq_true p6
                    replace q6 := eq_true q6
                    go_wp2_with (first | ((with_reducible refine gate_callee (f := 54) rfl ?_); refine goesL_ (some 22) rfl rfl Try.func54 (by kernel_rfl) rfl #[.int .u8 (bt a0 x5_1)] rfl (by (try simp only [List.map_toArray, List.map_cons, List.map_nil]); first | done | rfl | (simp only [List.length_drop, List.length_take]; rfl)) ?_; (with_reducible refine (shadowboxref04_value.calls k1 (bt a0 x5_1) t267 _ A7.out).mono ?_); rintro e w' ⟨rfl, ⟨nd, rfl⟩⟩; refine ⟨_, rfl, ?_⟩; have p10 : 0 ≤ ((ji8) : Int) := of_decide_eq_true (by first | (with_reducible assumption) | assumption); have q10 : (ji8) < (a0.size : Int) := of_decide_eq_true (by first | (with_reducible assumption) | assumption); have hx10 := bt_at a0 (ji8); replace p10 := eq_true p10; replace q10 := eq_true q10) | ((with_reducible refine gate_callee (f := 54) rfl ?_); refine goesL_ (some 27) rfl rfl Try.func54 (by kernel_rfl) rfl #[.int .u8 (bt a0 (ji8))] rfl (by (try simp only [List.map_toArray, List.map_cons, List.map_nil]); first | done | (simp only [hji8]; rfl) | rfl | (simp only [List.length_drop, List.length_take]; rfl)) ?_; (with_reducible refine (shadowboxref04_value.calls k1 (bt a0 (ji8)) t268 _ A11.out).mono ?_); rintro e w' ⟨rfl, ⟨nd, rfl⟩⟩; refine ⟨_, rfl, ?_⟩))
                    go_ret2
                    exact ⟨_, by first | rfl | (simp [errW_none, errW_some] <;> rfl) | (simp only [← hji8]; first | rfl | (simp [errW_none, errW_some] <;> rfl)) | (simp [*, errW_none, errW_some] <;> rfl), by first | exact Kd.R_nil _ _ _ _ _ | exact Kd.N_nil _ _ _ _ _ | exact Kd.V_nil _ _ _ _ _ | exact Kd.Q_nil _ _ _ _ _ | exact Kd.S_nil _ _ _ _ _, by repeat (first | (with_reducible first | exact HB.out | apply below_alloc | apply pw_below_drewN | apply below_drew1) | exact HB.out)⟩
                  · rw [if_neg c13] at H
                    have c13b0 : decide (t268 < 0) = false := decide_eq_false c13
                    clear c13
                    by_cases c14 : x4_1.length < 140737488355328
                    · rw [if_pos c14] at H
                      have LMc14 := Aside0.mk c14
                      clear c14
                      obtain ⟨y269, hy269⟩ : ∃ y_ : List Int, y_ = (x4_1 ++ [(wrap64 ((wrap64 (16 * t267)) + t268)) % 256]) := ⟨_, rfl⟩
                      replace H : (shadowboxref04_ReadHex.l0 k1 a0 y269 (wrap64 (x5_1 + 2))) = some (r1, r2) := by first | (rw [hy269]; with_reducible exact H) | (have H2_ := (Option.bind_some _ _).symm.trans H; rw [hy269]; with_reducible exact H2_) | (have H2_ := (Option.bind_some _ _).symm.trans H; with_reducible exact H2_) | with_reducible exact H | (rw [hy269]; exact H) | exact H
                      have Ny269 := Aside0.mk hy269
                      clear hy269
                      have H' := Aside0.mk H
                      clear H
                      have p6 : 0 ≤ (x5_1 : Int) := of_decide_eq_true (by first | (with_reducible assumption) | assumption)
                      have q6 : x5_1 < (a0.size : Int) := of_decide_eq_true (by first | (with_reducible assumption) | assumption)
                      have hx6 := bt_at a0 x5_1
                      replace p6 := eq_true p6
                      replace q6 := eq_true q6
                      go_wp2_with (first | ((with_reducible refine gate_callee (f := 54) rfl ?_); refine goesL_ (some 22) rfl rfl Try.func54 (by kernel_rfl) rfl #[.int .u8 (bt a0 x5_1)] rfl (by (try simp only [List.map_toArray, List.map_cons, List.map_nil]); first | done | rfl | (simp only [List.length_drop, List.length_take]; rfl)) ?_; (with_reducible refine (shadowboxref04_value.calls k1 (bt a0 x5_1) t267 _ A7.out).mono ?_); rintro e w' ⟨rfl, ⟨nd, rfl⟩⟩; refine ⟨_, rfl, ?_⟩; have p10 : 0 ≤ ((ji8) : Int) := of_decide_eq_true (by first | (with_reducible assumption) | assumption); have q10 : (ji8) < (a0.size : Int) := of_decide_eq_true (by first | (with_reducible assumption) | assumption); have hx10 := bt_at a0 (ji8); replace p10 := eq_true p10; replace q10 := eq_true q10) | ((with_reducible refine gate_callee (f := 54) rfl ?_); refine goesL_ (some 27) rfl rfl Try.func54 (by kernel_rfl) rfl #[.int .u8 (bt a0 (ji8))] rfl (by (try simp only [List.map_toArray, List.map_cons, List.map_nil]); first | done | (simp only [hji8]; rfl) | rfl | (simp only [List.length_drop, List.length_take]; rfl)) ?_; (with_reducible refine (shadowboxref04_value.calls k1 (bt a0 (ji8)) t268 _ A11.out).mono ?_); rintro e w' ⟨rfl, ⟨nd, rfl⟩⟩; refine ⟨_, rfl, ?_⟩) | ((with_reducible refine gate_builtin (b := .append) (xs := #[.tmp 34, .tmp 40]) rfl ?_); at_builtin; refine Kd.R_append (Kd.int .u8) (w0 := w) w.heap.size rfl (.tmp 34) (.tmp 40) 39 5 (.int .u8 0) 1 rfl Try.underlying39 info5 rfl (by decide) (by omega) u4 x4_1 ((wrap64 ((wrap64 (16 * t267)) + t268)) % 256) [.int .u8 ((wrap64 ((wrap64 (16 * t267)) + t268)) % 256)] (fun _ => True) (fun _ => False) rfl rfl ?aP (fun _ hk => hk.elim) ?aF ?aO ?aB ?aS ?aL ?_; (case aP => exact rfl); (case aB => exact (by repeat (first | (with_reducible first | exact HB.out | apply below_alloc | apply pw_below_drewN | apply below_drew1) | exact HB.out))); (case aF => exact (fun _ _ => trivial)); (case aO => exact (by (with_reducible repeat (first | apply Kd.R_alloc | apply Kd.R_drewN | apply Kd.R_drew)); exact HO_4.out)); (case aS => exact (below_size (by repeat (first | (with_reducible first | exact HB.out | apply below_alloc | apply pw_below_drewN | apply below_drew1) | exact HB.out)))); (case aL => have := LMc14.out; omega); intro v270 w15 ho hb hg hat; rw [← Ny269.out] at ho; have n0_ := Aside0.mk (hb); have n1_ := Aside0.mk (ho); clear HB; clear HO_4; have HB := n0_; have HO271 := n1_; clear n0_ n1_; clear ho hb hg hat))
                      go_roundg k1
                      case measure => have := HK1.out; omega
                      case rel => exact ⟨(y269), (wrap64 (x5_1 + 2)), (by first | rfl | (simp; done) | (simp [*]; done)), H', ⟨by have := HK1.out; omega⟩, ⟨by (with_reducible repeat (first | apply Kd.R_alloc | apply Kd.R_drewN | apply Kd.R_drew)); exact HO271.out⟩, ⟨by repeat (first | (with_reducible first | exact HB.out | apply below_alloc | apply pw_below_drewN | apply below_drew1) | exact HB.out)⟩⟩
                    · rw [if_neg c14] at H
                      exact absurd H (by simp)
              · rw [if_neg c9] at H
                exact absurd H (by simp)
            · rw [if_neg c5] at H
              exact absurd H (by simp)
          · rw [if_neg c4] at H
            exact absurd H (by simp)
        · rw [if_neg c3] at H
          have c3b0 : decide ((wrap64 (x5_1 + 1)) < (a0.size : Int)) = false := decide_eq_false c3
          clear c3
          simp only [Option.some.injEq, Prod.mk.injEq] at H
          obtain ⟨rfl, rfl⟩ := H
          go_wp2
          go_ret2
          exact ⟨_, by first | rfl | (simp [errW_none, errW_some] <;> rfl) | (simp [*, errW_none, errW_some] <;> rfl), by (with_reducible repeat (first | apply Kd.R_alloc | apply Kd.R_drewN | apply Kd.R_drew)); exact HO_4.out, by repeat (first | (with_reducible first | exact HB.out | apply below_alloc | apply pw_below_drewN | apply below_drew1) | exact HB.out)⟩
  · rw [if_neg c2] at H
    have c2b0 : (((a0.size : Int) % 2) == 0) = false := beq_eq_false_iff_ne.mpr c2
    have c2b1 : (((a0.size : Int) % 2) != 0) = true := bne_iff_ne.mpr c2
    simp only [Option.some.injEq, Prod.mk.injEq] at H
    obtain ⟨rfl, rfl⟩ := H
    go_enter Try.func29, Try.ntmps29
    go_wp2
    go_ret2
    exact ⟨_, by first | rfl | (simp [errW_none, errW_some] <;> rfl) | (simp [*, errW_none, errW_some] <;> rfl), by first | exact Kd.R_nil _ _ _ _ _ | exact Kd.N_nil _ _ _ _ _ | exact Kd.V_nil _ _ _ _ _ | exact Kd.Q_nil _ _ _ _ _ | exact Kd.S_nil _ _ _ _ _, by repeat (first | (with_reducible first | exact HB.out | apply below_alloc | apply pw_below_drewN | apply below_drew1) | exact HB.out)⟩

end Go.Proofs.Ytcnkndmegnfofaa.P

namespace Go.Proofs.Ytcnkndmegnfofaa.P
open Go.RowKit Go.Proofs.YtcnkndmegnfofaaW.PrintWords Go.Proofs.YtcnkndmegnfofaaW.PrintLast Go.Proofs.YtcnkndmegnfofaaW.PrintMore
attribute [local go_sem] max2_int min2_int max_two min_two max_three min_three max_four min_four   -- for this text's walks alone
set_option linter.unusedVariables false
set_option linter.unusedSimpArgs false

/-! ### shadowboxref04_ReadDecimal: function 24 -/
mutual
def shadowboxref04_ReadDecimal.j0 : Nat → ByteArray → Bool → Option (Int × Bool)
  | 0, _, _ => none
  | k + 1, x0, x13 => if x13 = true then (some (0, false)) else (shadowboxref04_ReadDecimal.l0 k x0 0 0)
def shadowboxref04_ReadDecimal.l0 : Nat → ByteArray → Int → Int → Option (Int × Bool)
  | 0, _, _, _ => none
  | k + 1, x0, x4, x5 => if x5 < (x0.size : Int) then (if 0 ≤ x5 then ((shadowboxref04_Kind.f k (bt x0 x5)).bind fun t234 => (if t234 = 1 then ((shadowboxref04_value.f k (bt x0 x5)).bind fun t235 => (shadowboxref04_ReadDecimal.l0 k x0 (wrap64 ((wrap64 (x4 * 10)) + t235)) (wrap64 (x5 + 1)))) else (some (0, false)))) else (none)) else (some (x4, true))
end
def shadowboxref04_ReadDecimal.f (k : Nat) (a0 : ByteArray) : Option (Int × Bool) := if (a0.size : Int) = 0 then (shadowboxref04_ReadDecimal.j0 k a0 true) else (shadowboxref04_ReadDecimal.j0 k a0 (decide ((a0.size : Int) > 18)))
theorem shadowboxref04_ReadDecimal.mono_l : ∀ k, (∀ y0 y1, LeO (shadowboxref04_ReadDecimal.j0 k y0 y1) (shadowboxref04_ReadDecimal.j0 (k + 1) y0 y1)) ∧ (∀ y0 y1 y2, LeO (shadowboxref04_ReadDecimal.l0 k y0 y1 y2) (shadowboxref04_ReadDecimal.l0 (k + 1) y0 y1 y2))
  | 0 => ⟨fun _ _ r h => by simp [shadowboxref04_ReadDecimal.j0] at h, fun _ _ _ r h => by simp [shadowboxref04_ReadDecimal.l0] at h⟩
  | k + 1 => by
    obtain ⟨ih0, ih1⟩ := shadowboxref04_ReadDecimal.mono_l k
    refine ⟨?_, ?_⟩
    · intro y0 y1
      unfold shadowboxref04_ReadDecimal.j0
      repeat' first
      | (with_reducible exact ih0 _ _)
      | (with_reducible exact ih1 _ _ _)
      | (with_reducible exact shadowboxref04_Kind.mono _ _)
      | (with_reducible exact shadowboxref04_value.mono _ _)
      | (with_reducible exact LeO.refl _)
      | (with_reducible exact LeO.none _)
      | (with_reducible refine LeO.ite ?_ ?_)
      | (with_reducible refine LeO.bind ?_ (fun _ => ?_))
      | exact ih0 _ _
      | exact ih1 _ _ _
      | exact shadowboxref04_Kind.mono _ _
      | exact shadowboxref04_value.mono _ _
      | exact LeO.none _
      | refine LeO.ite ?_ ?_
      | refine LeO.bind ?_ (fun _ => ?_)
    · intro y0 y1 y2
      unfold shadowboxref04_ReadDecimal.l0
      repeat' first
      | (with_reducible exact ih0 _ _)
      | (with_reducible exact ih1 _ _ _)
      | (with_reducible exact shadowboxref04_Kind.mono _ _)
      | (with_reducible exact shadowboxref04_value.mono _ _)
      | (with_reducible exact LeO.refl _)
      | (with_reducible exact LeO.none _)
      | (with_reducible refine LeO.ite ?_ ?_)
      | (with_reducible refine LeO.bind ?_ (fun _ => ?_))
      | exact ih0 _ _
      | exact ih1 _ _ _
      | exact shadowboxref04_Kind.mono _ _
      | exact shadowboxref04_value.mono _ _
      | exact LeO.none _
      | refine LeO.ite ?_ ?_
      | refine LeO.bind ?_ (fun _ => ?_)
theorem shadowboxref04_ReadDecimal.mono : ∀ a0 k, LeO (shadowboxref04_ReadDecimal.f k a0) (shadowboxref04_ReadDecimal.f (k + 1) a0) := by
  intro a0 k
  obtain ⟨ih0, ih1⟩ := shadowboxref04_ReadDecimal.mono_l k
  unfold shadowboxref04_ReadDecimal.f
  repeat' first
      | (with_reducible exact ih0 _ _)
      | (with_reducible exact ih1 _ _ _)
      | (with_reducible exact shadowboxref04_Kind.mono _ _)
      | (with_reducible exact shadowboxref04_value.mono _ _)
      | (with_reducible exact LeO.refl _)
      | (with_reducible exact LeO.none _)
      | (with_reducible refine LeO.ite ?_ ?_)
      | (with_reducible refine LeO.bind ?_ (fun _ => ?_))
      | exact ih0 _ _
      | exact ih1 _ _ _
      | exact shadowboxref04_Kind.mono _ _
      | exact shadowboxref04_value.mono _ _
      | exact LeO.none _
      | refine LeO.ite ?_ ?_
      | refine LeO.bind ?_ (fun _ => ?_)
set_option maxHeartbeats 8000000 in
set_option maxRecDepth 100000 in
theorem shadowboxref04_ReadDecimal.calls (k : Nat) (a0 : ByteArray) (r1 : Int) (r2 : Bool) (w : World) (h : shadowboxref04_ReadDecimal.f k a0 = some (r1, r2)) :
    Calls Try.prog 24 #[.string a0] w fun e w' => e = .returned (.tuple #[.int .i64 r1, .bool r2]) ∧ Drawn0 w w' := by
  have H : (if (a0.size : Int) = 0 then (shadowboxref04_ReadDecimal.j0 k a0 true) else (shadowboxref04_ReadDecimal.j0 k a0 (decide ((a0.size : Int) > 18)))) = some (r1, r2) := h
  clear h
  have HC2 := Aside0.mk H
  clear H
  go_enter Try.func24, Try.ntmps24
  go_upto_region 1 with (fail)
  go_cut [13] (fun v13 wc => ∃ (kq : Nat) (x13_1 : Bool), v13 = .bool x13_1 ∧ Aside0 (shadowboxref04_ReadDecimal.j0 kq a0 x13_1 = some (r1, r2)) ∧ Aside0 (kq ≤ k) ∧ Drawn0 w wc)
  case first =>
    have H := HC2.out
    clear HC2
    by_cases c3 : (a0.size : Int) = 0
    · rw [if_pos c3] at H
      have c3b0 : ((a0.size : Int) == 0) = true := beq_iff_eq.mpr c3
      have c3b1 : ((a0.size : Int) != 0) = false := bne_eq_false_iff_eq.mpr c3
      clear c3
      (first | rw [c3b0] | (simp only [i64_w, i32_w]; rw [c3b0]) | skip)
      have H' := Aside0.mk H
      clear H
      go_wp2
      go_meet
      case rel => exact ⟨_, (true), (by first | rfl | (simp; done) | (simp [*]; done)), H', ⟨by first | omega | exact Nat.le_refl _⟩, by repeat (first | exact Drawn0.refl _ | apply Drawn0.step)⟩
    · rw [if_neg c3] at H
      have c3b0 : ((a0.size : Int) == 0) = false := beq_eq_false_iff_ne.mpr c3
      have c3b1 : ((a0.size : Int) != 0) = true := bne_iff_ne.mpr c3
      (first | rw [c3b0] | (simp only [i64_w, i32_w]; rw [c3b0]) | skip)
      have H' := Aside0.mk H
      clear H
      go_wp2
      go_meet
      case rel => exact ⟨_, (decide ((a0.size : Int) > 18)), (by first | rfl | (simp; done) | (simp [*]; done)), H', ⟨by first | omega | exact Nat.le_refl _⟩, by repeat (first | exact Drawn0.refl _ | apply Drawn0.step)⟩
  case rest =>
    clear HC2
    try clear c2
    try clear p2
    try clear c3
    try clear c3b0
    try clear c3b1
    obtain ⟨kq, x13_1, rfl, HA, HJ1, ⟨mc1, rfl⟩⟩ := hcut
    cases kq with
    | zero => exact absurd HA.out (by simp [shadowboxref04_ReadDecimal.j0])
    | succ kj1 =>
      have H := HA.out
      clear HA
      simp only [shadowboxref04_ReadDecimal.j0] at H
      by_cases c4 : x13_1 = true
      · subst c4
        have H1 : (some (0, false)) = some (r1, r2) := by rw [if_pos rfl] at H; exact H
        clear H
        have H := H1
        clear H1
        simp only [Option.some.injEq, Prod.mk.injEq] at H
        obtain ⟨rfl, rfl⟩ := H
        go_wp2
        go_ret2
        exact ⟨by first | rfl | (simp; done) | (simp [*]; done), by repeat (first | exact Drawn0.refl _ | apply Drawn0.step)⟩
      · replace c4 := Bool.eq_false_iff.mpr c4
        subst c4
        have H1 : (shadowboxref04_ReadDecimal.l0 kj1 a0 0 0) = some (r1, r2) := by rw [if_neg (show ¬ (false = true) by decide)] at H; exact H
        clear H
        have H := H1
        clear H1
        have H' := Aside0.mk H
        clear H
        go_wp2
        go_loopg [4, 5] kj1 (fun kq v4 v5 w' => ∃ (x4_2 : Int) (x5_2 : Int), v4 = .int .i64 x4_2 ∧ v5 = .int .i64 x5_2 ∧ Aside0 (shadowboxref04_ReadDecimal.l0 kq a0 x4_2 x5_2 = some (r1, r2)) ∧ Aside0 (kq ≤ kj1) ∧ Drawn0 w w')
        case atStart => exact ⟨(0), (0), (by first | rfl | (simp; done) | (simp [*]; done)), (by first | rfl | (simp; done) | (simp [*]; done)), H', ⟨Nat.le_refl _⟩, by repeat (first | exact Drawn0.refl _ | apply Drawn0.step)⟩
        case round =>
          clear H'
          try clear c1
          try clear c2
          try clear p2
          try clear c3
          try clear c3b0
          try clear c3b1
          try clear c4
          try clear p2
          obtain ⟨x4_2, x5_2, rfl, rfl, HA, HK2, ⟨m2, rfl⟩⟩ := hrel
          cases gk with
          | zero => exact absurd HA.out (by simp [shadowboxref04_ReadDecimal.l0])
          | succ k2 =>
            have H := HA.out
            clear HA
            simp only [shadowboxref04_ReadDecimal.l0] at H
            by_cases c5 : x5_2 < (a0.size : Int)
            · rw [if_pos c5] at H
              have c5b0 : decide (x5_2 < (a0.size : Int)) = true := decide_eq_true c5
              clear c5
              by_cases c6 : 0 ≤ x5_2
              · rw [if_pos c6] at H
                have c6b0 : decide (0 ≤ x5_2) = true := decide_eq_true c6
                clear c6
                replace H := Option.bind_eq_some_iff.mp H
                obtain ⟨t234, A80, H⟩ := H
                replace H : (if t234 = 1 then ((shadowboxref04_value.f k2 (bt a0 x5_2)).bind fun t235 => (shadowboxref04_ReadDecimal.l0 k2 a0 (wrap64 ((wrap64 (x4_2 * 10)) + t235)) (wrap64 (x5_2 + 1)))) else (some (0, false))) = some (r1, r2) := H
                have A8 := Aside0.mk A80
                clear A80
                by_cases c9 : t234 = 1
                · rw [if_pos c9] at H
                  have c9b0 : (t234 == 1) = true := beq_iff_eq.mpr c9
                  have c9b1 : (t234 != 1) = false := bne_eq_false_iff_eq.mpr c9
                  clear c9
                  replace H := Option.bind_eq_some_iff.mp H
                  obtain ⟨t235, A110, H⟩ := H
                  replace H : (shadowboxref04_ReadDecimal.l0 k2 a0 (wrap64 ((wrap64 (x4_2 * 10)) + t235)) (wrap64 (x5_2 + 1))) = some (r1, r2) := H
                  have A11 := Aside0.mk A110
                  clear A110
                  have H' := Aside0.mk H
                  clear H
                  have p7 : 0 ≤ (x5_2 : Int) := of_decide_eq_true (by first | (with_reducible assumption) | assumption)
                  have q7 : x5_2 < (a0.size : Int) := of_decide_eq_true (by first | (with_reducible assumption) | assumption)
                  have hx7 := bt_at a0 x5_2
                  replace p7 := eq_true p7
                  replace q7 := eq_true q7
                  go_wp2_with (first | ((with_reducible refine gate_callee (f := 27) rfl ?_); refine goesL_ (some 23) rfl rfl Try.func27 (by kernel_rfl) rfl #[.int .u8 (bt a0 x5_2)] rfl (by (try simp only [List.map_toArray, List.map_cons, List.map_nil]); first | done | rfl | (simp only [List.length_drop, List.length_take]; rfl)) ?_; (with_reducible refine (shadowboxref04_Kind.calls k2 (bt a0 x5_2) t234 _ A8.out).mono ?_); rintro e w' ⟨rfl, ⟨nd, rfl⟩⟩; refine ⟨_, rfl, ?_⟩; have p10 : 0 ≤ (x5_2 : Int) := of_decide_eq_true (by first | (with_reducible assumption) | assumption); have q10 : x5_2 < (a0.size : Int) := of_decide_eq_true (by first | (with_reducible assumption) | assumption); have hx10 := bt_at a0 x5_2; replace p10 := eq_true p10; replace q10 := eq_true q10) | ((with_reducible refine gate_callee (f := 54) rfl ?_); refine goesL_ (some 30) rfl rfl Try.func54 (by kernel_rfl) rfl #[.int .u8 (bt a0 x5_2)] rfl (by (try simp only [List.map_toArray, List.map_cons, List.map_nil]); first | done | rfl | (simp only [List.length_drop, List.length_take]; rfl)) ?_; (with_reducible refine (shadowboxref04_value.calls k2 (bt a0 x5_2) t235 _ A11.out).mono ?_); rintro e w' ⟨rfl, ⟨nd, rfl⟩⟩; refine ⟨_, rfl, ?_⟩))
                  go_roundg k2
                  case measure => have := HJ1.out; have := HK2.out; omega
                  case rel => exact ⟨(wrap64 ((wrap64 (x4_2 * 10)) + t235)), (wrap64 (x5_2 + 1)), (by first | rfl | (simp; done) | (simp [*]; done)), (by first | rfl | (simp; done) | (simp [*]; done)), H', ⟨by have := HJ1.out; have := HK2.out; omega⟩, by repeat (first | exact Drawn0.refl _ | apply Drawn0.step)⟩
                · rw [if_neg c9] at H
                  have c9b0 : (t234 == 1) = false := beq_eq_false_iff_ne.mpr c9
                  have c9b1 : (t234 != 1) = true := bne_iff_ne.mpr c9
                  simp only [Option.some.injEq, Prod.mk.injEq] at H
                  obtain ⟨rfl, rfl⟩ := H
                  have p7 : 0 ≤ (x5_2 : Int) := of_decide_eq_true (by first | (with_reducible assumption) | assumption)
                  have q7 : x5_2 < (a0.size : Int) := of_decide_eq_true (by first | (with_reducible assumption) | assumption)
                  have hx7 := bt_at a0 x5_2
                  replace p7 := eq_true p7
                  replace q7 := eq_true q7
                  go_wp2_with (first | ((with_reducible refine gate_callee (f := 27) rfl ?_); refine goesL_ (some 23) rfl rfl Try.func27 (by kernel_rfl) rfl #[.int .u8 (bt a0 x5_2)] rfl (by (try simp only [List.map_toArray, List.map_cons, List.map_nil]); first | done | rfl | (simp only [List.length_drop, List.length_take]; rfl)) ?_; (with_reducible refine (shadowboxref04_Kind.calls k2 (bt a0 x5_2) t234 _ A8.out).mono ?_); rintro e w' ⟨rfl, ⟨nd, rfl⟩⟩; refine ⟨_, rfl, ?_⟩))
                  go_ret2
                  exact ⟨by first | rfl | (simp; done) | (simp [*]; done), by repeat (first | exact Drawn0.refl _ | apply Drawn0.step)⟩
              · rw [if_neg c6] at H
                exact absurd H (by simp)
            · rw [if_neg c5] at H
              have c5b0 : decide (x5_2 < (a0.size : Int)) = false := decide_eq_false c5
              clear c5
              simp only [Option.some.injEq, Prod.mk.injEq] at H
              obtain ⟨rfl, rfl⟩ := H
              go_wp2
              go_ret2
              exact ⟨by first | rfl | (simp; done) | (simp [*]; done), by repeat (first | exact Drawn0.refl _ | apply Drawn0.step)⟩

end Go.Proofs.Ytcnkndmegnfofaa.P

namespace Go.Proofs.Ytcnkndmegnfofaa.P
open Go.RowKit Go.Proofs.YtcnkndmegnfofaaW.PrintWords Go.Proofs.YtcnkndmegnfofaaW.PrintLast Go.Proofs.YtcnkndmegnfofaaW.PrintMore
attribute [local go_sem] max2_int min2_int max_two min_two max_three min_three max_four min_four   -- for this text's walks alone
set_option linter.unusedVariables false
set_option linter.unusedSimpArgs false

/-! ### shadowboxref04_Decimal: function 26 -/
mutual
def shadowboxref04_Decimal.j0 : Nat → Int → Bool → Option (ByteArray)
  | 0, _, _ => none
  | k + 1, x0, x9 => if x9 = true then ((shadowboxref04_digit.f x0).bind fun t246 => (some t246)) else (if x0 < 0 then (shadowboxref04_Decimal.l0 k x0 (⟨#[]⟩ : ByteArray)) else ((shadowboxref04_Decimal.f k (wrap64 (Int.tdiv x0 10))).bind fun t248 => ((shadowboxref04_digit.f (Int.tmod x0 10)).bind fun t249 => (if t248.size + t249.size ≤ 9223372036854775807 then (some (t248 ++ t249)) else (none)))))
def shadowboxref04_Decimal.l0 : Nat → Int → ByteArray → Option (ByteArray)
  | 0, _, _ => none
  | k + 1, x0, x3 => if x0 < 0 then ((shadowboxref04_digit.f (wrap64 (-(Int.tmod x0 10)))).bind fun t247 => (if t247.size + x3.size ≤ 9223372036854775807 then (shadowboxref04_Decimal.l0 k (wrap64 (Int.tdiv x0 10)) (t247 ++ x3)) else (none))) else (if 1 + x3.size ≤ 9223372036854775807 then (some ((⟨#[45]⟩ : ByteArray) ++ x3)) else (none))
def shadowboxref04_Decimal.f : Nat → Int → Option (ByteArray)
  | 0, _ => none
  | k + 1, a0 => if a0 ≥ 0 then (shadowboxref04_Decimal.j0 k a0 (decide (a0 < 10))) else (shadowboxref04_Decimal.j0 k a0 false)
end
theorem shadowboxref04_Decimal.mono_l : ∀ k, (∀ y0, LeO (shadowboxref04_Decimal.f k y0) (shadowboxref04_Decimal.f (k + 1) y0)) ∧ (∀ y0 y1, LeO (shadowboxref04_Decimal.j0 k y0 y1) (shadowboxref04_Decimal.j0 (k + 1) y0 y1)) ∧ (∀ y0 y1, LeO (shadowboxref04_Decimal.l0 k y0 y1) (shadowboxref04_Decimal.l0 (k + 1) y0 y1))
  | 0 => ⟨fun _ r h => by simp [shadowboxref04_Decimal.f] at h, fun _ _ r h => by simp [shadowboxref04_Decimal.j0] at h, fun _ _ r h => by simp [shadowboxref04_Decimal.l0] at h⟩
  | k + 1 => by
    obtain ⟨ih0, ih1, ih2⟩ := shadowboxref04_Decimal.mono_l k
    refine ⟨?_, ?_, ?_⟩
    · intro y0
      unfold shadowboxref04_Decimal.f
      repeat' first
      | (with_reducible exact ih0 _)
      | (with_reducible exact ih1 _ _)
      | (with_reducible exact ih2 _ _)
      | (with_reducible exact LeO.refl _)
      | (with_reducible exact LeO.none _)
      | (with_reducible refine LeO.ite ?_ ?_)
      | (with_reducible refine LeO.bind ?_ (fun _ => ?_))
      | exact ih0 _
      | exact ih1 _ _
      | exact ih2 _ _
      | exact LeO.none _
      | refine LeO.ite ?_ ?_
      | refine LeO.bind ?_ (fun _ => ?_)
    · intro y0 y1
      unfold shadowboxref04_Decimal.j0
      repeat' first
      | (with_reducible exact ih0 _)
      | (with_reducible exact ih1 _ _)
      | (with_reducible exact ih2 _ _)
      | (with_reducible exact LeO.refl _)
      | (with_reducible exact LeO.none _)
      | (with_reducible refine LeO.ite ?_ ?_)
      | (with_reducible refine LeO.bind ?_ (fun _ => ?_))
      | exact ih0 _
      | exact ih1 _ _
      | exact ih2 _ _
      | exact LeO.none _
      | refine LeO.ite ?_ ?_
      | refine LeO.bind ?_ (fun _ => ?_)
    · intro y0 y1
      unfold shadowboxref04_Decimal.l0
      repeat' first
      | (with_reducible exact ih0 _)
      | (with_reducible exact ih1 _ _)
      | (with_reducible exact ih2 _ _)
      | (with_reducible exact LeO.refl _)
      | (with_reducible exact LeO.none _)
      | (with_reducible refine LeO.ite ?_ ?_)
      | (with_reducible refine LeO.bind ?_ (fun _ => ?_))
      | exact ih0 _
      | exact ih1 _ _
      | exact ih2 _ _
      | exact LeO.none _
      | refine LeO.ite ?_ ?_
      | refine LeO.bind ?_ (fun _ => ?_)
theorem shadowboxref04_Decimal.mono : ∀ a0 k, LeO (shadowboxref04_Decimal.f k a0) (shadowboxref04_Decimal.f (k + 1) a0) := by
  intro a0 k
  obtain ⟨ih0, ih1, ih2⟩ := shadowboxref04_Decimal.mono_l k
  exact ih0 a0
set_option maxHeartbeats 8000000 in
set_option maxRecDepth 100000 in
theorem shadowboxref04_Decimal.calls (k : Nat) : ∀ (a0 : Int) (r : ByteArray) (w : World) (h : shadowboxref04_Decimal.f k a0 = some r),
    Calls Try.prog 26 #[.int .i64 a0] w fun e w' => e = .returned (.string r) ∧ Drawn0 w w' := by
  induction k using Nat.strongRecOn with
  | _ k ih =>
  intro a0 r w h
  cases k with
  | zero => exact absurd h (by simp [shadowboxref04_Decimal.f])
  | succ k =>
  simp only [shadowboxref04_Decimal.f] at h
  have H : (if a0 ≥ 0 then (shadowboxref04_Decimal.j0 k a0 (decide (a0 < 10))) else (shadowboxref04_Decimal.j0 k a0 false)) = some r := h
  clear h
  have HC2 := Aside0.mk H
  clear H
  go_enter Try.func26, Try.ntmps26
  go_upto_region 1 with (fail)
  go_cut [9] (fun v9 wc => ∃ (kq : Nat) (x9_1 : Bool), v9 = .bool x9_1 ∧ Aside0 (shadowboxref04_Decimal.j0 kq a0 x9_1 = some r) ∧ Aside0 (kq ≤ k) ∧ Drawn0 w wc)
  case first =>
    have H := HC2.out
    clear HC2
    by_cases c3 : a0 ≥ 0
    · rw [if_pos c3] at H
      have c3b0 : decide (0 ≤ a0) = true := decide_eq_true c3
      clear c3
      (first | rw [c3b0] | (simp only [i64_w, i32_w]; rw [c3b0]) | skip)
      have H' := Aside0.mk H
      clear H
      go_wp2
      go_meet
      case rel => exact ⟨_, (decide (a0 < 10)), (by first | rfl | (simp; done) | (simp [*]; done)), H', ⟨by first | omega | exact Nat.le_refl _⟩, by repeat (first | exact Drawn0.refl _ | apply Drawn0.step)⟩
    · rw [if_neg c3] at H
      have c3b0 : decide (0 ≤ a0) = false := decide_eq_false c3
      clear c3
      (first | rw [c3b0] | (simp only [i64_w, i32_w]; rw [c3b0]) | skip)
      have H' := Aside0.mk H
      clear H
      go_wp2
      go_meet
      case rel => exact ⟨_, (false), (by first | rfl | (simp; done) | (simp [*]; done)), H', ⟨by first | omega | exact Nat.le_refl _⟩, by repeat (first | exact Drawn0.refl _ | apply Drawn0.step)⟩
  case rest =>
    clear HC2
    try clear c2
    try clear p2
    try clear c3
    try clear c3b0
    obtain ⟨kq, x9_1, rfl, HA, HJ1, ⟨mc1, rfl⟩⟩ := hcut
    cases kq with
    | zero => exact absurd HA.out (by simp [shadowboxref04_Decimal.j0])
    | succ kj1 =>
      have H := HA.out
      clear HA
      simp only [shadowboxref04_Decimal.j0] at H
      by_cases c4 : x9_1 = true
      · subst c4
        have H1 : ((shadowboxref04_digit.f a0).bind fun t246 => (some t246)) = some r := by rw [if_pos rfl] at H; exact H
        clear H
        have H := H1
        clear H1
        replace H := Option.bind_eq_some_iff.mp H
        obtain ⟨t246, A50, H⟩ := H
        replace H : (some t246) = some r := H
        have A5 := Aside0.mk A50
        clear A50
        obtain rfl := Option.some.inj H
        go_wp2_with (first | ((with_reducible refine gate_callee (f := 55) rfl ?_); refine goesL_ (some 11) rfl rfl Try.func55 (by kernel_rfl) rfl #[.int .i64 a0] rfl (by (try simp only [List.map_toArray, List.map_cons, List.map_nil]); first | done | rfl | (simp only [List.length_drop, List.length_take]; rfl)) ?_; (with_reducible refine (shadowboxref04_digit.calls a0 t246 _ A5.out).mono ?_); rintro e w' ⟨rfl, ⟨nd, rfl⟩⟩; refine ⟨_, rfl, ?_⟩))
        go_ret
        exact ⟨by first | rfl | (simp; done) | (simp [*]; done), by repeat (first | exact Drawn0.refl _ | apply Drawn0.step)⟩
      · replace c4 := Bool.eq_false_iff.mpr c4
        subst c4
        have H1 : (if a0 < 0 then (shadowboxref04_Decimal.l0 kj1 a0 (⟨#[]⟩ : ByteArray)) else ((shadowboxref04_Decimal.f kj1 (wrap64 (Int.tdiv a0 10))).bind fun t248 => ((shadowboxref04_digit.f (Int.tmod a0 10)).bind fun t249 => (if t248.size + t249.size ≤ 9223372036854775807 then (some (t248 ++ t249)) else (none))))) = some r := by rw [if_neg (show ¬ (false = true) by decide)] at H; exact H
        clear H
        have H := H1
        clear H1
        by_cases c6 : a0 < 0
        · rw [if_pos c6] at H
          have c6b0 : decide (a0 < 0) = true := decide_eq_true c6
          clear c6
          have H' := Aside0.mk H
          clear H
          go_wp2
          go_loopg [0, 3] kj1 (fun kq v0 v3 w' => ∃ (x0_2 : Int) (x3_2 : ByteArray), v0 = .int .i64 x0_2 ∧ v3 = .string x3_2 ∧ Aside0 (shadowboxref04_Decimal.l0 kq x0_2 x3_2 = some r) ∧ Aside0 (kq ≤ kj1) ∧ Drawn0 w w')
          case atStart => exact ⟨(a0), ((⟨#[]⟩ : ByteArray)), (by first | rfl | (simp; done) | (simp [*]; done)), (by first | rfl | (simp; done) | (simp [*]; done)), H', ⟨Nat.le_refl _⟩, by repeat (first | exact Drawn0.refl _ | apply Drawn0.step)⟩
          case round =>
            clear H'
            try clear c1
            try clear c2
            try clear p2
            try clear c3
            try clear c3b0
            try clear c4
            try clear c5
            try clear c6
            try clear c6b0
            try clear p6
            try clear p2
            obtain ⟨x0_2, x3_2, rfl, rfl, HA, HK2, ⟨m2, rfl⟩⟩ := hrel
            cases gk with
            | zero => exact absurd HA.out (by simp [shadowboxref04_Decimal.l0])
            | succ k2 =>
              have H := HA.out
              clear HA
              simp only [shadowboxref04_Decimal.l0] at H
              by_cases c7 : x0_2 < 0
              · rw [if_pos c7] at H
                have c7b0 : decide (x0_2 < 0) = true := decide_eq_true c7
                clear c7
                replace H := Option.bind_eq_some_iff.mp H
                obtain ⟨t247, A80, H⟩ := H
                replace H : (if t247.size + x3_2.size ≤ 9223372036854775807 then (shadowboxref04_Decimal.l0 k2 (wrap64 (Int.tdiv x0_2 10)) (t247 ++ x3_2)) else (none)) = some r := H
                have A8 := Aside0.mk A80
                clear A80
                by_cases c9 : t247.size + x3_2.size ≤ 9223372036854775807
                · rw [if_pos c9] at H
                  have c9b0 := eq_true c9
                  have c9b1 : decide (t247.size + x3_2.size ≤ 9223372036854775807) = true := decide_eq_true c9
                  try have c9b2 : (9223372036854775807 < t247.size + x3_2.size) = False := eq_false (Nat.not_lt.2 c9)
                  have H' := Aside0.mk H
                  clear H
                  go_wp2_with (first | ((with_reducible refine gate_callee (f := 55) rfl ?_); refine goesL_ (some 19) rfl rfl Try.func55 (by kernel_rfl) rfl #[.int .i64 (wrap64 (-(Int.tmod x0_2 10)))] rfl (by (try simp only [List.map_toArray, List.map_cons, List.map_nil]); first | done | rfl | (simp only [List.length_drop, List.length_take]; rfl)) ?_; (with_reducible refine (shadowboxref04_digit.calls (wrap64 (-(Int.tmod x0_2 10))) t247 _ A8.out).mono ?_); rintro e w' ⟨rfl, ⟨nd, rfl⟩⟩; refine ⟨_, rfl, ?_⟩))
                  go_roundg k2
                  case measure => have := HJ1.out; have := HK2.out; omega
                  case rel => exact ⟨(wrap64 (Int.tdiv x0_2 10)), (t247 ++ x3_2), (by first | rfl | (simp; done) | (simp [*]; done)), (by first | rfl | (simp; done) | (simp [*]; done)), H', ⟨by have := HJ1.out; have := HK2.out; omega⟩, by repeat (first | exact Drawn0.refl _ | apply Drawn0.step)⟩
                · rw [if_neg c9] at H
                  exact absurd H (by simp)
              · rw [if_neg c7] at H
                have c7b0 : decide (x0_2 < 0) = false := decide_eq_false c7
                clear c7
                by_cases c10 : 1 + x3_2.size ≤ 9223372036854775807
                · rw [if_pos c10] at H
                  have c10b0 := eq_true c10
                  have c10b1 : decide (1 + x3_2.size ≤ 9223372036854775807) = true := decide_eq_true c10
                  try have c10b2 : (9223372036854775807 < 1 + x3_2.size) = False := eq_false (Nat.not_lt.2 c10)
                  obtain rfl := Option.some.inj H
                  go_wp2
                  go_ret
                  exact ⟨by first | rfl | (simp; done) | (simp [*]; done), by repeat (first | exact Drawn0.refl _ | apply Drawn0.step)⟩
                · rw [if_neg c10] at H
                  exact absurd H (by simp)
        · rw [if_neg c6] at H
          have c6b0 : decide (a0 < 0) = false := decide_eq_false c6
          clear c6
          replace H := Option.bind_eq_some_iff.mp H
          obtain ⟨t248, A110, H⟩ := H
          replace H : ((shadowboxref04_digit.f (Int.tmod a0 10)).bind fun t249 => (if t248.size + t249.size ≤ 9223372036854775807 then (some (t248 ++ t249)) else (none))) = some r := H
          have A11 := Aside0.mk A110
          clear A110
          replace H := Option.bind_eq_some_iff.mp H
          obtain ⟨t249, A120, H⟩ := H
          replace H : (if t248.size + t249.size ≤ 9223372036854775807 then (some (t248 ++ t249)) else (none)) = some r := H
          have A12 := Aside0.mk A120
          clear A120
          by_cases c13 : t248.size + t249.size ≤ 9223372036854775807
          · rw [if_pos c13] at H
            have c13b0 := eq_true c13
            have c13b1 : decide (t248.size + t249.size ≤ 9223372036854775807) = true := decide_eq_true c13
            try have c13b2 : (9223372036854775807 < t248.size + t249.size) = False := eq_false (Nat.not_lt.2 c13)
            obtain rfl := Option.some.inj H
            go_wp2_with (first | ((with_reducible refine gate_callee (f := 26) rfl ?_); refine goesL_ (some 28) rfl rfl Try.func26 (by kernel_rfl) rfl #[.int .i64 (wrap64 (Int.tdiv a0 10))] rfl (by (try simp only [List.map_toArray, List.map_cons, List.map_nil]); first | done | rfl | (simp only [List.length_drop, List.length_take]; rfl)) ?_; (with_reducible refine (ih kj1 (by have := HJ1.out; omega) (wrap64 (Int.tdiv a0 10)) t248 _ A11.out).mono ?_); rintro e w' ⟨rfl, ⟨nd, rfl⟩⟩; refine ⟨_, rfl, ?_⟩) | ((with_reducible refine gate_callee (f := 55) rfl ?_); refine goesL_ (some 31) rfl rfl Try.func55 (by kernel_rfl) rfl #[.int .i64 (Int.tmod a0 10)] rfl (by (try simp only [List.map_toArray, List.map_cons, List.map_nil]); first | done | rfl | (simp only [List.length_drop, List.length_take]; rfl)) ?_; (with_reducible refine (shadowboxref04_digit.calls (Int.tmod a0 10) t249 _ A12.out).mono ?_); rintro e w' ⟨rfl, ⟨nd, rfl⟩⟩; refine ⟨_, rfl, ?_⟩))
            go_ret
            exact ⟨by first | rfl | (simp; done) | (simp [*]; done), by repeat (first | exact Drawn0.refl _ | apply Drawn0.step)⟩
          · rw [if_neg c13] at H
            exact absurd H (by simp)

end Go.Proofs.Ytcnkndmegnfofaa.P

/- What the functions of hex, and the reference's, come to: plain words. -/
namespace Go.Proofs.Ytcnkndmegnfofaa.P
open Go.RowKit Go.Proofs.YtcnkndmegnfofaaW.PrintWords Go.Proofs.YtcnkndmegnfofaaW.PrintLast Go.Proofs.YtcnkndmegnfofaaW.PrintMore
set_option linter.unusedVariables false
set_option linter.unusedSimpArgs false

theorem w64 {n : Int} (h : -9223372036854775808 ≤ n ∧ n ≤ 9223372036854775807) : wrap64 n = n := IntWalk.wrap64_in n h

/-! ### Kind -/
theorem ev_rKind (c : Int) : Ev (fun k => shadowboxref04_Kind.f k c) (kindOf c) := by
  refine Ev.of (fun k => shadowboxref04_Kind.mono c k) (k := 4) ?_
  unfold shadowboxref04_Kind.f kindOf
  by_cases h1 : 48 ≤ c
  · rw [if_pos h1]
    by_cases h2 : c ≤ 57
    · rw [decide_eq_true h2, if_pos ⟨h1, h2⟩]; simp only [shadowboxref04_Kind.j0]; rw [if_pos trivial]
    · rw [decide_eq_false h2, if_neg (by omega)]
      simp only [shadowboxref04_Kind.j0]
      rw [if_neg (by decide)]
      by_cases h3 : 97 ≤ c
      · rw [if_pos h3]
        by_cases h4 : c ≤ 102
        · rw [decide_eq_true h4, if_pos ⟨h3, h4⟩]; simp only [shadowboxref04_Kind.j1]; rw [if_pos trivial]
        · rw [decide_eq_false h4, if_neg (by omega)]
          simp only [shadowboxref04_Kind.j1]
          rw [if_neg (by decide)]
          by_cases h5 : 103 ≤ c
          · rw [if_pos h5]
            by_cases h6 : c ≤ 122
            · rw [decide_eq_true h6, if_pos ⟨h5, h6⟩]; simp only [shadowboxref04_Kind.j2]; rw [if_pos trivial]
            · rw [decide_eq_false h6, if_neg (by omega), if_neg (by omega)]
              simp only [shadowboxref04_Kind.j2]
              rw [if_neg (by decide), if_pos (by omega), if_neg (by omega)]
          · omega
      · rw [if_neg h3, if_neg (by omega)]
        simp only [shadowboxref04_Kind.j1]
        rw [if_neg (by decide), if_neg (by omega), if_neg (by omega)]
        simp only [shadowboxref04_Kind.j2]
        rw [if_neg (by decide)]
        by_cases h7 : 65 ≤ c
        · rw [if_pos h7]
          by_cases h8 : c ≤ 90
          · rw [if_pos h8, if_pos ⟨h7, h8⟩]
          · rw [if_neg h8, if_neg (by omega)]
        · rw [if_neg h7, if_neg (by omega)]
  · rw [if_neg h1, if_neg (by omega), if_neg (by omega), if_neg (by omega), if_neg (by omega)]
    simp only [shadowboxref04_Kind.j0]
    rw [if_neg (by decide), if_neg (by omega)]
    simp only [shadowboxref04_Kind.j1]
    rw [if_neg (by decide), if_neg (by omega)]
    simp only [shadowboxref04_Kind.j2]
    rw [if_neg (by decide), if_neg (by omega)]

/-! ### Lower -/
theorem ev_rLower_loop (s : ByteArray) (hs : s.size ≤ 140737488355000) : ∀ (d : Nat) (i : Nat) (acc : List Int), i + d = s.size → acc.length = i →
    Ev (fun k => shadowboxref04_Lower.l0 k s acc (i : Int)) (strOfNums (acc ++ ((bytesOf s).drop i).map lowB)) := by
  intro d
  induction d with
  | zero =>
    intro i acc hi ha
    refine Ev.step (fun k => by rw [shadowboxref04_Lower.l0, if_neg (by omega)]) ?_
    rw [List.drop_of_length_le (by rw [bytesOf_len]; omega), List.map_nil, List.append_nil]
    exact Ev.now _
  | succ d ih =>
    intro i acc hi ha
    have hl : i < (bytesOf s).length := by rw [bytesOf_len]; omega
    have hb : bt s (i : Int) = (bytesOf s)[i] := by rw [bt_eq, List.getD_eq_getElem?_getD, List.getElem?_eq_getElem hl]; rfl
    have hbd := bt_bd s (i : Int)
    have hd : (bytesOf s).drop i = (bytesOf s)[i] :: (bytesOf s).drop (i + 1) := List.drop_eq_getElem_cons hl
    have hw : wrap64 ((i : Int) + 1) = ((i + 1 : Nat) : Int) := by rw [w64 (by omega)]; rfl
    refine Ev.step (fun k => by rw [shadowboxref04_Lower.l0, if_pos (by omega), if_pos (by omega)]) ?_
    refine Ev.bind (ev_rKind _) ?_
    rw [hd, List.map_cons]
    by_cases h4 : kindOf (bt s (i : Int)) = 4
    · refine Ev.congr (fun k => by rw [if_pos h4, if_pos (by omega), hw]) ?_
      have hlow := lowB_of_kind h4
      have hle := kind4_le h4
      have := ih (i + 1) (acc ++ [(bt s (i : Int) + 32) % 256]) (by omega) (by simp [ha])
      rw [show (bt s (i : Int) + 32) % 256 = lowB (bytesOf s)[i] by rw [← hb, hlow]; omega, List.append_assoc] at this
      rw [show (bt s (i : Int) + 32) % 256 = lowB (bytesOf s)[i] by rw [← hb, hlow]; omega]
      exact this
    · refine Ev.congr (fun k => by rw [if_neg h4, if_pos (by omega), hw]) ?_
      have hlow := lowB_of_not h4
      have := ih (i + 1) (acc ++ [bt s (i : Int)]) (by omega) (by simp [ha])
      rw [show bt s (i : Int) = lowB (bytesOf s)[i] by rw [← hb, hlow], List.append_assoc] at this
      rw [show bt s (i : Int) = lowB (bytesOf s)[i] by rw [← hb, hlow]]
      exact this
theorem ev_rLower (s : ByteArray) (hs : s.size ≤ 140737488355000) : Ev (fun k => shadowboxref04_Lower.f k s) (lowS s) := by
  have := ev_rLower_loop s hs s.size 0 [] (by omega) rfl
  exact this
theorem hex_Lower_eq (s : ByteArray) (hs : s.size ≤ 140737488355000) : hex_Lower.f s = some (lowS s) := by
  unfold hex_Lower.f
  rw [if_pos (by omega)]
theorem lowB_bd {c : Int} (h : 0 ≤ c ∧ c ≤ 255) : 0 ≤ lowB c ∧ lowB c ≤ 255 := by
  unfold lowB
  split <;> omega
theorem Bytes.low {l : List Int} (h : Bytes l) : Bytes (l.map lowB) := by
  intro x hx
  obtain ⟨y, hy, rfl⟩ := List.mem_map.1 hx
  exact lowB_bd (h y hy)
theorem bytes_lowS (s : ByteArray) : bytesOf (lowS s) = (bytesOf s).map lowB := bytesOf_strOf (bytes_of s).low
theorem lowS_size (s : ByteArray) : (lowS s).size = s.size := by rw [← bytesOf_len, bytes_lowS, List.length_map, bytesOf_len]
theorem lowB_low (c : Int) : lowB (lowB c) = lowB c := by
  unfold lowB
  split
  · rw [if_neg (by omega)]
  · rfl
theorem lowS_low (s : ByteArray) : lowS (lowS s) = lowS s := by
  apply bytesOf_inj
  rw [bytes_lowS, bytes_lowS, List.map_map]
  apply List.map_congr_left
  intro x _
  exact lowB_low x
theorem bt_lowS (s : ByteArray) (i : Nat) (h : i < s.size) : bt (lowS s) (i : Int) = lowB (bt s (i : Int)) := by
  have hl : i < (bytesOf s).length := by rw [bytesOf_len]; omega
  rw [bt_eq, bt_eq, bytes_lowS, List.getD_eq_getElem?_getD, List.getD_eq_getElem?_getD, List.getElem?_map, List.getElem?_eq_getElem hl]
  rfl

/-! ### Kinds of bytes -/
theorem kind1_iff {c : Int} : kindOf c = 1 ↔ 48 ≤ c ∧ c ≤ 57 := by
  unfold kindOf
  constructor
  · intro h
    split at h
    · assumption
    · split at h
      · omega
      · split at h
        · omega
        · split at h <;> omega
  · intro h; rw [if_pos h]
theorem kind2_iff {c : Int} : kindOf c = 2 ↔ 97 ≤ c ∧ c ≤ 102 := by
  unfold kindOf
  constructor
  · intro h
    split at h
    · omega
    · split at h
      · assumption
      · split at h
        · omega
        · split at h <;> omega
  · intro h; rw [if_neg (by omega), if_pos h]

/-! ### Hex -/
theorem hexD_at (n : Int) (h0 : 0 ≤ n) (h1 : n < 16) : bt (⟨#[48, 49, 50, 51, 52, 53, 54, 55, 56, 57, 97, 98, 99, 100, 101, 102]⟩ : ByteArray) n = hexD n := by
  have key : ∀ m : Fin 16, bt (⟨#[48, 49, 50, 51, 52, 53, 54, 55, 56, 57, 97, 98, 99, 100, 101, 102]⟩ : ByteArray) (m.val : Int) = hexD (m.val : Int) := by decide +kernel
  obtain ⟨m, rfl⟩ := Int.eq_ofNat_of_zero_le h0
  exact key ⟨m, by omega⟩
theorem and15 (x : Int) (h0 : 0 ≤ x) (h1 : x ≤ 255) : Go.bits .and .u8 x 15 = x % 16 := by
  exact u8_and15 x h0 (by omega)
theorem or16 (a b : Int) (h0 : 0 ≤ a) (h1 : a ≤ 15) (h2 : 0 ≤ b) (h3 : b ≤ 15) : Go.bits .or .u8 ((a * 16) % 256) b = 16 * a + b := by
  rw [show (a * 16) % 256 = 16 * a by omega]
  exact bits_join .u8 8 (by decide) wraps_u8 4 (16 * a) b (by omega) (by omega) (by omega) h2 (by omega) (by omega)
theorem rd_get (l : List Int) (i : Nat) (h : i < l.length) : rd l (i : Int) = l[i] := by
  unfold rd
  rw [Int.toNat_natCast, List.getD_eq_getElem?_getD, List.getElem?_eq_getElem h]
  rfl
theorem ev_Hex_loop (l : List Int) (hb : Bytes l) (hs : l.length ≤ 70368744177000) : ∀ (d i : Nat) (acc : List Int), i + d = l.length → acc.length = 2 * i →
    Ev (fun k => hex_Hex.l0 k acc l (l.length : Int) (i : Int)) (strOfNums (acc ++ hexL (l.drop i))) := by
  intro d
  induction d with
  | zero =>
    intro i acc hi ha
    refine Ev.step (fun k => by rw [hex_Hex.l0, if_neg (by omega)]) ?_
    rw [List.drop_of_length_le (by omega)]
    rw [show hexL [] = [] from rfl, List.append_nil]
    exact Ev.now _
  | succ d ih =>
    intro i acc hi ha
    have hl : i < l.length := by omega
    have hr := rd_get l i hl
    have hx := hb (l[i]) (List.getElem_mem hl)
    have hd : l.drop i = l[i] :: l.drop (i + 1) := List.drop_eq_getElem_cons hl
    have hw : wrap64 ((i : Int) + 1) = ((i + 1 : Nat) : Int) := by rw [w64 (by omega)]; rfl
    have ha15 := and15 l[i] hx.1 hx.2
    have hd1 := hexD_at (l[i] / 16) (by omega) (by omega)
    have hd2 := hexD_at (l[i] % 16) (by omega) (by omega)
    refine Ev.step (fun k => by rw [hex_Hex.l0, hr, ha15, hd1, hd2, if_pos (by omega), if_pos (by omega), if_pos (by omega), if_pos (by omega), if_pos (by omega), if_pos (by omega), if_pos (by omega), Option.bind_some, if_pos (by simp; omega), hw]) ?_
    have := ih (i + 1) (acc ++ [hexD (l[i] / 16), hexD (l[i] % 16)]) (by omega) (by simp [ha]; omega)
    rw [hd, show hexL (l[i] :: l.drop (i + 1)) = [hexD (l[i] / 16), hexD (l[i] % 16)] ++ hexL (l.drop (i + 1)) from rfl, ← List.append_assoc]
    exact this
theorem ev_Hex (l : List Int) (hb : Bytes l) (hs : l.length ≤ 70368744177000) : Ev (fun k => hex_Hex.f k l) (strOfNums (hexL l)) := by
  have hw : wrap64 (2 * (l.length : Int)) = 2 * (l.length : Int) := w64 (by omega)
  refine Ev.congr (fun k => by rw [hex_Hex.f, hw, if_pos (by omega), if_pos (by omega)]) ?_
  exact ev_Hex_loop l hb hs l.length 0 [] (by omega) rfl
theorem ref_Hex_eq (l : List Int) (hb : Bytes l) (hs : l.length ≤ 140737488355328) : shadowboxref04_Hex.f l = some (strOfNums (hexL l)) := by
  unfold shadowboxref04_Hex.f
  rw [if_pos ⟨hs, hb⟩]

/-! ### ReadHex -/
def hexVal (c : Int) : Int := if kindOf c = 1 then c - 48 else c - 87
def hexOk (c : Int) : Prop := kindOf c = 1 ∨ kindOf c = 2
instance (c : Int) : Decidable (hexOk c) := by unfold hexOk; exact inferInstance
def unhex : List Int → Option (List Int)
  | [] => some []
  | [_] => none
  | a :: b :: r => if hexOk a ∧ hexOk b then (unhex r).map (fun x => (16 * hexVal a + hexVal b) :: x) else none
def rhex (l : List Int) : List Int × Bool := match unhex l with
  | some x => (x, true)
  | none => ([], false)
def rhexG (acc l : List Int) : List Int × Bool := match unhex l with
  | some x => (acc ++ x, true)
  | none => ([], false)
theorem hexVal_bd {c : Int} (h : hexOk c) : 0 ≤ hexVal c ∧ hexVal c ≤ 15 := by
  unfold hexVal
  rcases h with h | h
  · rw [if_pos h]; have := kind1_iff.1 h; omega
  · rw [if_neg (by omega)]; have := kind2_iff.1 h; omega
theorem value_ok {c : Int} (h : hexOk c) : hex_value.f c = some (hexVal c, true) := by
  unfold hex_value.f hexVal
  rw [show hex_Kind.f c = some (kindOf c) from rfl, Option.bind_some]
  rcases h with h | h
  · have := kind1_iff.1 h
    rw [if_pos h, if_pos h]; congr 2; omega
  · have := kind2_iff.1 h
    rw [if_neg (by omega), if_pos h, if_neg (by omega)]; congr 2; omega
theorem value_no {c : Int} (h : ¬ hexOk c) : hex_value.f c = some (0, false) := by
  unfold hex_value.f
  rw [show hex_Kind.f c = some (kindOf c) from rfl, Option.bind_some, if_neg (fun e => h (.inl e)), if_neg (fun e => h (.inr e))]
theorem ev_rvalue_ok {c : Int} (h : hexOk c) : Ev (fun k => shadowboxref04_value.f k c) (hexVal c) := by
  unfold shadowboxref04_value.f hexVal
  refine Ev.bind (ev_rKind c) ?_
  rcases h with h | h
  · have := kind1_iff.1 h
    refine Ev.congr (fun k => by rw [if_pos h]) ?_
    rw [if_pos h, show (c - 48) % 256 = c - 48 by omega]
    exact Ev.now _
  · have := kind2_iff.1 h
    refine Ev.congr (fun k => by rw [if_neg (by omega), if_pos h]) ?_
    rw [if_neg (by omega), show (c - 97) % 256 + 10 = c - 87 by omega]
    exact Ev.now _
theorem ev_rvalue_no {c : Int} (h : ¬ hexOk c) : Ev (fun k => shadowboxref04_value.f k c) (-1) := by
  unfold shadowboxref04_value.f
  refine Ev.bind (ev_rKind c) ?_
  refine Ev.congr (fun k => by rw [if_neg (fun e => h (.inl e)), if_neg (fun e => h (.inr e))]) (Ev.now _)
theorem drop_bt (s : ByteArray) (i : Nat) (h : i < s.size) : (bytesOf s).drop i = bt s (i : Int) :: (bytesOf s).drop (i + 1) := by
  have hl : i < (bytesOf s).length := by rw [bytesOf_len]; exact h
  rw [bt_eq, List.getD_eq_getElem?_getD, List.getElem?_eq_getElem hl]
  exact List.drop_eq_getElem_cons hl
theorem drop_two (s : ByteArray) (i : Nat) (h : i + 1 < s.size) : (bytesOf s).drop i = bt s (i : Int) :: bt s ((i + 1 : Nat) : Int) :: (bytesOf s).drop (i + 2) := by
  rw [drop_bt s i (by omega), drop_bt s (i + 1) h]
theorem unhex_two {a b : Int} {r : List Int} (ha : hexOk a) (hb : hexOk b) : unhex (a :: b :: r) = (unhex r).map (fun x => (16 * hexVal a + hexVal b) :: x) := by rw [unhex, if_pos ⟨ha, hb⟩]
theorem unhex_no {a b : Int} {r : List Int} (h : ¬ (hexOk a ∧ hexOk b)) : unhex (a :: b :: r) = none := by rw [unhex, if_neg h]
theorem rhexG_step {acc : List Int} {a b : Int} {r : List Int} (ha : hexOk a) (hb : hexOk b) : rhexG acc (a :: b :: r) = rhexG (acc ++ [16 * hexVal a + hexVal b]) r := by
  unfold rhexG
  rw [unhex_two ha hb]
  cases unhex r with
  | none => rfl
  | some x => simp
theorem rhexG_no {acc : List Int} {a b : Int} {r : List Int} (h : ¬ (hexOk a ∧ hexOk b)) : rhexG acc (a :: b :: r) = ([], false) := by
  unfold rhexG
  rw [unhex_no h]
theorem ev_ReadHex_loop (s : ByteArray) (hs : s.size ≤ 140737488355000) : ∀ (d i : Nat) (acc : List Int), i + 2 * d = s.size → acc.length ≤ i →
    Ev (fun k => hex_ReadHex.l0 k s acc (i : Int)) (rhexG acc ((bytesOf s).drop i)) := by
  intro d
  induction d with
  | zero =>
    intro i acc hi ha
    refine Ev.step (fun k => by rw [hex_ReadHex.l0, if_neg (by omega)]) ?_
    rw [List.drop_of_length_le (by rw [bytesOf_len]; omega)]
    rw [show rhexG acc [] = (acc, true) by simp [rhexG, unhex]]
    exact Ev.now _
  | succ d ih =>
    intro i acc hi ha
    have hw1 : wrap64 ((i : Int) + 1) = ((i + 1 : Nat) : Int) := by rw [w64 (by omega)]; rfl
    have hw2 : wrap64 ((i : Int) + 2) = ((i + 2 : Nat) : Int) := by rw [w64 (by omega)]; rfl
    rw [drop_two s i (by omega)]
    generalize hb0 : bt s (i : Int) = a
    generalize hb1 : bt s ((i + 1 : Nat) : Int) = b
    by_cases h0 : hexOk a
    · have e0 := value_ok h0
      have v0 := hexVal_bd h0
      by_cases h1 : hexOk b
      · have e1 := value_ok h1
        have v1 := hexVal_bd h1
        have ho := or16 _ _ v0.1 v0.2 v1.1 v1.2
        refine Ev.step (fun k => by rw [hex_ReadHex.l0, hw1, hw2, hb0, hb1, if_pos (by omega), if_pos (by omega), e0, Option.bind_some, if_pos (by omega), if_pos (by omega), e1, Option.bind_some, if_pos rfl, if_pos rfl, if_pos (by omega), ho]) ?_
        rw [rhexG_step h0 h1]
        exact ih (i + 2) _ (by omega) (by simp; omega)
      · have e1 := value_no h1
        refine Ev.step (fun k => by rw [hex_ReadHex.l0, hw1, hw2, hb0, hb1, if_pos (by omega), if_pos (by omega), e0, Option.bind_some, if_pos (by omega), if_pos (by omega), e1, Option.bind_some, if_pos rfl, if_neg (by decide)]) ?_
        rw [rhexG_no (fun e => h1 e.2)]
        exact Ev.now _
    · have e0 := value_no h0
      obtain ⟨v, e1⟩ : ∃ v, hex_value.f b = some v := by
        by_cases h1 : hexOk b
        · exact ⟨_, value_ok h1⟩
        · exact ⟨_, value_no h1⟩
      refine Ev.step (fun k => by rw [hex_ReadHex.l0, hw1, hw2, hb0, hb1, if_pos (by omega), if_pos (by omega), e0, Option.bind_some, if_pos (by omega), if_pos (by omega), e1, Option.bind_some, if_neg (by decide)]) ?_
      rw [rhexG_no (fun e => h0 e.1)]
      exact Ev.now _
theorem unhex_odd : ∀ (n : Nat) (l : List Int), l.length = 2 * n + 1 → unhex l = none := by
  intro n
  induction n with
  | zero =>
    intro l h
    match l, h with
    | [_], _ => rfl
  | succ n ih =>
    intro l h
    match l, h with
    | a :: b :: r, h =>
      rw [unhex]
      rw [ih r (by simp at h; omega)]
      split <;> rfl
theorem ev_ReadHex (s : ByteArray) (hs : s.size ≤ 140737488355000) : Ev (fun k => hex_ReadHex.f k s) (rhex (bytesOf s)) := by
  by_cases h2 : (s.size : Int) % 2 = 0
  · refine Ev.congr (fun k => by rw [hex_ReadHex.f, if_pos h2]) ?_
    have := ev_ReadHex_loop s hs (s.size / 2) 0 [] (by omega) (by simp)
    exact this
  · refine Ev.congr (fun k => by rw [hex_ReadHex.f, if_neg h2]) ?_
    have hn := unhex_odd (s.size / 2) (bytesOf s) (by rw [bytesOf_len]; omega)
    rw [show rhex (bytesOf s) = ([], false) by unfold rhex; rw [hn]]
    exact Ev.now _
theorem ev_rReadHex_loop (s : ByteArray) (hs : s.size ≤ 140737488355000) : ∀ (d i : Nat) (acc : List Int), i + 2 * d = s.size → acc.length ≤ i →
    Ev (fun k => shadowboxref04_ReadHex.l0 k s acc (i : Int)) (rhexG acc ((bytesOf s).drop i)) := by
  intro d
  induction d with
  | zero =>
    intro i acc hi ha
    have hw1 : wrap64 ((i : Int) + 1) = ((i + 1 : Nat) : Int) := by rw [w64 (by omega)]; rfl
    refine Ev.step (fun k => by rw [shadowboxref04_ReadHex.l0, hw1, if_neg (by omega)]) ?_
    rw [List.drop_of_length_le (by rw [bytesOf_len]; omega)]
    rw [show rhexG acc [] = (acc, true) by simp [rhexG, unhex]]
    exact Ev.now _
  | succ d ih =>
    intro i acc hi ha
    have hw1 : wrap64 ((i : Int) + 1) = ((i + 1 : Nat) : Int) := by rw [w64 (by omega)]; rfl
    have hw2 : wrap64 ((i : Int) + 2) = ((i + 2 : Nat) : Int) := by rw [w64 (by omega)]; rfl
    rw [drop_two s i (by omega)]
    generalize hb0 : bt s (i : Int) = a
    generalize hb1 : bt s ((i + 1 : Nat) : Int) = b
    refine Ev.step (fun k => by rw [shadowboxref04_ReadHex.l0, hw1, hw2, hb0, hb1, if_pos (by omega), if_pos (by omega), if_pos (by omega)]) ?_
    by_cases h0 : hexOk a
    · refine Ev.bind (ev_rvalue_ok h0) ?_
      refine Ev.congr (fun k => by rw [if_pos (by omega)]) ?_
      have v0 := hexVal_bd h0
      by_cases h1 : hexOk b
      · refine Ev.bind (ev_rvalue_ok h1) ?_
        have v1 := hexVal_bd h1
        have hz : (wrap64 ((wrap64 (16 * hexVal a)) + hexVal b)) % 256 = 16 * hexVal a + hexVal b := by
          rw [w64 (n := 16 * hexVal a) (by omega), w64 (by omega)]; omega
        refine Ev.congr (fun k => by rw [if_neg (by omega), if_neg (by omega), if_pos (by omega), hz]) ?_
        rw [rhexG_step h0 h1]
        exact ih (i + 2) _ (by omega) (by simp; omega)
      · refine Ev.bind (ev_rvalue_no h1) ?_
        refine Ev.congr (fun k => by rw [if_neg (by omega), if_pos (by omega)]) ?_
        rw [rhexG_no (fun e => h1 e.2)]
        exact Ev.now _
    · refine Ev.bind (ev_rvalue_no h0) ?_
      refine Ev.congr (fun k => by rw [if_pos (by omega)]) ?_
      rw [rhexG_no (fun e => h0 e.1)]
      by_cases h1 : hexOk b
      · refine Ev.bind (ev_rvalue_ok h1) ?_
        exact Ev.congr (fun k => by rw [if_pos (by omega)]) (Ev.now _)
      · refine Ev.bind (ev_rvalue_no h1) ?_
        exact Ev.congr (fun k => by rw [if_pos (by omega)]) (Ev.now _)
theorem ev_rReadHex (s : ByteArray) (hs : s.size ≤ 140737488355000) : Ev (fun k => shadowboxref04_ReadHex.f k s) (rhex (bytesOf s)) := by
  by_cases h2 : (s.size : Int) % 2 = 0
  · refine Ev.congr (fun k => by rw [shadowboxref04_ReadHex.f, if_pos h2]) ?_
    have := ev_rReadHex_loop s hs (s.size / 2) 0 [] (by omega) (by simp)
    exact this
  · refine Ev.congr (fun k => by rw [shadowboxref04_ReadHex.f, if_neg h2]) ?_
    have hn := unhex_odd (s.size / 2) (bytesOf s) (by rw [bytesOf_len]; omega)
    rw [show rhex (bytesOf s) = ([], false) by unfold rhex; rw [hn]]
    exact Ev.now _
theorem unhex_bytes : ∀ (l x : List Int), unhex l = some x → Bytes x
  | [], x, h => by rw [unhex] at h; cases h; exact Bytes.nil
  | [_], x, h => by rw [unhex] at h; cases h
  | a :: b :: r, x, h => by
    rw [unhex] at h
    split at h
    · rename_i hh
      obtain ⟨y, hy, rfl⟩ := Option.map_eq_some_iff.1 h
      have v0 := hexVal_bd hh.1
      have v1 := hexVal_bd hh.2
      exact Bytes.cons (by omega) (unhex_bytes r y hy)
    · cases h
theorem rhex_bytes (l : List Int) : Bytes (rhex l).1 := by
  unfold rhex
  cases h : unhex l with
  | none => exact Bytes.nil
  | some x => exact unhex_bytes l x h
theorem hexD_ok (n : Int) (h0 : 0 ≤ n) (h1 : n < 16) : hexOk (hexD n) ∧ hexVal (hexD n) = n ∧ 0 ≤ hexD n ∧ hexD n ≤ 255 := by
  unfold hexD hexVal hexOk
  by_cases h : n < 10
  · rw [if_pos h]
    have k1 : kindOf (48 + n) = 1 := kind1_iff.2 (by omega)
    exact ⟨.inl k1, by rw [if_pos k1]; omega, by omega, by omega⟩
  · rw [if_neg h]
    have k2 : kindOf (87 + n) = 2 := kind2_iff.2 (by omega)
    exact ⟨.inr k2, by rw [if_neg (by omega)]; omega, by omega, by omega⟩
theorem unhex_hexL : ∀ l : List Int, Bytes l → unhex (hexL l) = some l
  | [], _ => rfl
  | a :: l, h => by
    have ha := h.head
    have h1 := hexD_ok (a / 16) (by omega) (by omega)
    have h2 := hexD_ok (a % 16) (by omega) (by omega)
    rw [show hexL (a :: l) = hexD (a / 16) :: hexD (a % 16) :: hexL l from rfl, unhex_two h1.1 h2.1, unhex_hexL l h.tail, h1.2.1, h2.2.1, Option.map_some, show 16 * (a / 16) + a % 16 = a by omega]
theorem hexL_bytes : ∀ l : List Int, Bytes l → Bytes (hexL l)
  | [], _ => Bytes.nil
  | a :: l, h => by
    have ha := h.head
    have h1 := hexD_ok (a / 16) (by omega) (by omega)
    have h2 := hexD_ok (a % 16) (by omega) (by omega)
    exact Bytes.cons h1.2.2 (Bytes.cons h2.2.2 (hexL_bytes l h.tail))
end Go.Proofs.Ytcnkndmegnfofaa.P

namespace Go.Proofs.Ytcnkndmegnfofaa.P
open Go.RowKit Go.Proofs.YtcnkndmegnfofaaW.PrintWords Go.Proofs.YtcnkndmegnfofaaW.PrintLast Go.Proofs.YtcnkndmegnfofaaW.PrintMore
attribute [local go_sem] max2_int min2_int max_two min_two max_three min_three max_four min_four   -- for this text's walks alone
set_option linter.unusedVariables false
set_option linter.unusedSimpArgs false

/-! ### utf_Count: function 47 -/
def utf_Count.l0 : Nat → ByteArray → Int → Option (Int)
  | 0, _, _ => none
  | k + 1, x0, x3 => if x0.toList = ([] : List UInt8) then (some x3) else ((utf_Next.f k x0).bind fun bt356 => (if bt356.2 = 0 then (some (-1)) else (if 0 ≤ bt356.2 then (if bt356.2 ≤ (x0.size : Int) then (utf_Count.l0 k (x0.extract (bt356.2 : Int).toNat x0.size) (wrap64 (x3 + 1))) else (none)) else (none))))
def utf_Count.f (k : Nat) (a0 : ByteArray) : Option (Int) := utf_Count.l0 k a0 0
theorem utf_Count.mono_l : ∀ k, (∀ y0 y1, LeO (utf_Count.l0 k y0 y1) (utf_Count.l0 (k + 1) y0 y1))
  | 0 => fun _ _ r h => by simp [utf_Count.l0] at h
  | k + 1 => by
    have ih0 := utf_Count.mono_l k
    · intro y0 y1
      unfold utf_Count.l0
      repeat' first
      | (with_reducible exact ih0 _ _)
      | (with_reducible exact utf_Next.mono _ _)
      | (with_reducible exact LeO.refl _)
      | (with_reducible exact LeO.none _)
      | (with_reducible refine LeO.ite ?_ ?_)
      | (with_reducible refine LeO.bind ?_ (fun _ => ?_))
      | exact ih0 _ _
      | exact utf_Next.mono _ _
      | exact LeO.none _
      | refine LeO.ite ?_ ?_
      | refine LeO.bind ?_ (fun _ => ?_)
theorem utf_Count.mono : ∀ a0 k, LeO (utf_Count.f k a0) (utf_Count.f (k + 1) a0) := by
  intro a0 k
  have ih0 := utf_Count.mono_l k
  unfold utf_Count.f
  repeat' first
      | (with_reducible exact ih0 _ _)
      | (with_reducible exact utf_Next.mono _ _)
      | (with_reducible exact LeO.refl _)
      | (with_reducible exact LeO.none _)
      | (with_reducible refine LeO.ite ?_ ?_)
      | (with_reducible refine LeO.bind ?_ (fun _ => ?_))
      | exact ih0 _ _
      | exact utf_Next.mono _ _
      | exact LeO.none _
      | refine LeO.ite ?_ ?_
      | refine LeO.bind ?_ (fun _ => ?_)
set_option maxHeartbeats 8000000 in
set_option maxRecDepth 100000 in
theorem utf_Count.calls (k : Nat) (a0 : ByteArray) (r : Int) (w : World) (h : utf_Count.f k a0 = some r) :
    Calls Try.prog 47 #[.string a0] w fun e w' => e = .returned (.int .i64 r) ∧ Below w.heap.size w w' := by
  have HB := Aside0.mk (Below.refl w.heap.size w)
  have H : (utf_Count.l0 k a0 0) = some r := h
  clear h
  have H' := Aside0.mk H
  clear H
  go_enter Try.func47, Try.ntmps47
  go_wp2
  go_loopg [0, 3] k (fun kq v0 v3 w' => ∃ (x0_1 : ByteArray) (x3_1 : Int), v0 = .string x0_1 ∧ v3 = .int .i64 x3_1 ∧ Aside0 (utf_Count.l0 kq x0_1 x3_1 = some r) ∧ Aside0 (kq ≤ k) ∧ Aside0 (Below w.heap.size w w'))
  case atStart => exact ⟨(a0), (0), (by first | rfl | (simp; done) | (simp [*]; done)), (by first | rfl | (simp; done) | (simp [*]; done)), H', ⟨Nat.le_refl _⟩, ⟨by repeat (first | (with_reducible first | exact HB.out | apply below_alloc | apply pw_below_drewN | apply below_drew1) | exact HB.out)⟩⟩
  case round =>
    clear H'
    obtain ⟨x0_1, x3_1, rfl, rfl, HA, HK1, HB⟩ := hrel
    cases gk with
    | zero => exact absurd HA.out (by simp [utf_Count.l0])
    | succ k1 =>
      have H := HA.out
      clear HA
      simp only [utf_Count.l0] at H
      by_cases c2 : x0_1.toList = ([] : List UInt8)
      · rw [if_pos c2] at H
        have c2b0 : (x0_1.toList == ([] : List UInt8)) = true := beq_iff_eq.mpr c2
        have c2b1 : (x0_1.toList != ([] : List UInt8)) = false := bne_eq_false_iff_eq.mpr c2
        clear c2
        obtain rfl := Option.some.inj H
        go_wp2
        go_ret
        exact ⟨by first | rfl | (simp [errW_none, errW_some] <;> rfl) | (simp [*, errW_none, errW_some] <;> rfl), by repeat (first | (with_reducible first | exact HB.out | apply below_alloc | apply pw_below_drewN | apply below_drew1) | exact HB.out)⟩
      · rw [if_neg c2] at H
        have c2b0 : (x0_1.toList == ([] : List UInt8)) = false := beq_eq_false_iff_ne.mpr c2
        have c2b1 : (x0_1.toList != ([] : List UInt8)) = true := bne_iff_ne.mpr c2
        replace H := Option.bind_eq_some_iff.mp H
        obtain ⟨⟨t356, t357⟩, A30, H⟩ := H
        replace H : (if t357 = 0 then (some (-1)) else (if 0 ≤ t357 then (if t357 ≤ (x0_1.size : Int) then (utf_Count.l0 k1 (x0_1.extract (t357 : Int).toNat x0_1.size) (wrap64 (x3_1 + 1))) else (none)) else (none))) = some r := H
        have A3 := Aside0.mk A30
        clear A30
        by_cases c4 : t357 = 0
        · rw [if_pos c4] at H
          have c4b0 : (t357 == 0) = true := beq_iff_eq.mpr c4
          have c4b1 : (t357 != 0) = false := bne_eq_false_iff_eq.mpr c4
          clear c4
          obtain rfl := Option.some.inj H
          go_wp2_with (first | ((with_reducible refine gate_callee (f := 33) rfl ?_); refine goesL_ (some 12) rfl rfl Try.func33 (by kernel_rfl) rfl #[.string x0_1] rfl (by (try simp only [List.map_toArray, List.map_cons, List.map_nil]); first | done | rfl | (simp only [List.length_drop, List.length_take]; rfl)) ?_; (with_reducible refine (utf_Next.calls k1 x0_1 t356 t357 _ A3.out).mono ?_); rintro e w5 ⟨rfl, hb⟩; refine ⟨_, rfl, ?_⟩; have n0_ := Aside0.mk (below_step (by repeat (first | (with_reducible first | exact HB.out | apply below_alloc | apply pw_below_drewN | apply below_drew1) | exact HB.out)) hb); clear HB; have HB := n0_; clear n0_; (try clear hb); (try clear hb2); (try clear hk); (try clear hi)))
          go_ret
          exact ⟨by first | rfl | (simp [errW_none, errW_some] <;> rfl) | (simp [*, errW_none, errW_some] <;> rfl), by repeat (first | (with_reducible first | exact HB.out | apply below_alloc | apply pw_below_drewN | apply below_drew1) | exact HB.out)⟩
        · rw [if_neg c4] at H
          have c4b0 : (t357 == 0) = false := beq_eq_false_iff_ne.mpr c4
          have c4b1 : (t357 != 0) = true := bne_iff_ne.mpr c4
          by_cases c6 : 0 ≤ t357
          · rw [if_pos c6] at H
            have c6b0 := eq_true c6
            have c6b1 : decide (0 ≤ t357) = true := decide_eq_true c6
            clear c6
            by_cases c7 : t357 ≤ (x0_1.size : Int)
            · rw [if_pos c7] at H
              have c7b0 := eq_true c7
              have c7b1 : decide (t357 ≤ (x0_1.size : Int)) = true := decide_eq_true c7
              clear c7
              have H' := Aside0.mk H
              clear H
              go_wp2_with (first | ((with_reducible refine gate_callee (f := 33) rfl ?_); refine goesL_ (some 12) rfl rfl Try.func33 (by kernel_rfl) rfl #[.string x0_1] rfl (by (try simp only [List.map_toArray, List.map_cons, List.map_nil]); first | done | rfl | (simp only [List.length_drop, List.length_take]; rfl)) ?_; (with_reducible refine (utf_Next.calls k1 x0_1 t356 t357 _ A3.out).mono ?_); rintro e w8 ⟨rfl, hb⟩; refine ⟨_, rfl, ?_⟩; have n0_ := Aside0.mk (below_step (by repeat (first | (with_reducible first | exact HB.out | apply below_alloc | apply pw_below_drewN | apply below_drew1) | exact HB.out)) hb); clear HB; have HB := n0_; clear n0_; (try clear hb); (try clear hb2); (try clear hk); (try clear hi)))
              go_roundg k1
              case measure => have := HK1.out; omega
              case rel => exact ⟨(x0_1.extract (t357 : Int).toNat x0_1.size), (wrap64 (x3_1 + 1)), (by first | rfl | (simp; done) | (simp [*]; done)), (by first | rfl | (simp; done) | (simp [*]; done)), H', ⟨by have := HK1.out; omega⟩, ⟨by repeat (first | (with_reducible first | exact HB.out | apply below_alloc | apply pw_below_drewN | apply below_drew1) | exact HB.out)⟩⟩
            · rw [if_neg c7] at H
              exact absurd H (by simp)
          · rw [if_neg c6] at H
            exact absurd H (by simp)

end Go.Proofs.Ytcnkndmegnfofaa.P

namespace Go.Proofs.Ytcnkndmegnfofaa.P
open Go.RowKit Go.Proofs.YtcnkndmegnfofaaW.PrintWords Go.Proofs.YtcnkndmegnfofaaW.PrintLast Go.Proofs.YtcnkndmegnfofaaW.PrintMore
attribute [local go_sem] max2_int min2_int max_two min_two max_three min_three max_four min_four   -- for this text's walks alone
set_option linter.unusedVariables false
set_option linter.unusedSimpArgs false

/-! ### utf_Right: function 45 -/
def utf_Right.f (k : Nat) (a0 : ByteArray) : Option (Bool) := (utf_Count.f k a0).bind fun t358 => (some (decide (t358 ≥ 0)))
theorem utf_Right.mono : ∀ a0 k, LeO (utf_Right.f k a0) (utf_Right.f (k + 1) a0) := by
  intro a0 k
  unfold utf_Right.f
  repeat' first
      | (with_reducible exact utf_Count.mono _ _)
      | (with_reducible exact LeO.refl _)
      | (with_reducible exact LeO.none _)
      | (with_reducible refine LeO.ite ?_ ?_)
      | (with_reducible refine LeO.bind ?_ (fun _ => ?_))
      | exact utf_Count.mono _ _
      | exact LeO.none _
      | refine LeO.ite ?_ ?_
      | refine LeO.bind ?_ (fun _ => ?_)
set_option maxHeartbeats 8000000 in
set_option maxRecDepth 100000 in
theorem utf_Right.calls (k : Nat) (a0 : ByteArray) (r : Bool) (w : World) (h : utf_Right.f k a0 = some r) :
    Calls Try.prog 45 #[.string a0] w fun e w' => e = .returned (.bool r) ∧ Below w.heap.size w w' := by
  have HB := Aside0.mk (Below.refl w.heap.size w)
  have H : ((utf_Count.f k a0).bind fun t358 => (some (decide (t358 ≥ 0)))) = some r := h
  clear h
  replace H := Option.bind_eq_some_iff.mp H
  obtain ⟨t358, A20, H⟩ := H
  replace H : (some (decide (t358 ≥ 0))) = some r := H
  have A2 := Aside0.mk A20
  clear A20
  obtain rfl := Option.some.inj H
  go_enter Try.func45, Try.ntmps45
  go_wp2_with (first | ((with_reducible refine gate_callee (f := 47) rfl ?_); refine goesL_ (some 4) rfl rfl Try.func47 (by kernel_rfl) rfl #[.string a0] rfl (by (try simp only [List.map_toArray, List.map_cons, List.map_nil]); first | done | rfl | (simp only [List.length_drop, List.length_take]; rfl)) ?_; (with_reducible refine (utf_Count.calls k a0 t358 _ A2.out).mono ?_); rintro e w3 ⟨rfl, hb⟩; refine ⟨_, rfl, ?_⟩; have n0_ := Aside0.mk (below_step (by repeat (first | (with_reducible first | exact HB.out | apply below_alloc | apply pw_below_drewN | apply below_drew1) | exact HB.out)) hb); clear HB; have HB := n0_; clear n0_; (try clear hb); (try clear hb2); (try clear hk); (try clear hi)))
  go_ret
  exact ⟨by first | rfl | (simp [errW_none, errW_some] <;> rfl) | (simp [*, errW_none, errW_some] <;> rfl), by repeat (first | (with_reducible first | exact HB.out | apply below_alloc | apply pw_below_drewN | apply below_drew1) | exact HB.out)⟩

end Go.Proofs.Ytcnkndmegnfofaa.P

namespace Go.Proofs.Ytcnkndmegnfofaa.P
open Go.RowKit Go.Proofs.YtcnkndmegnfofaaW.PrintWords Go.Proofs.YtcnkndmegnfofaaW.PrintLast Go.Proofs.YtcnkndmegnfofaaW.PrintMore
attribute [local go_sem] max2_int min2_int max_two min_two max_three min_three max_four min_four   -- for this text's walks alone
set_option linter.unusedVariables false
set_option linter.unusedSimpArgs false

/-! ### utf_Clean: function 48 -/
def utf_Clean.l0 : Nat → ByteArray → List Int → Option (ByteArray)
  | 0, _, _ => none
  | k + 1, x0, x3 => if x0.toList = ([] : List UInt8) then (some (strOfNums x3)) else ((utf_Next.f k x0).bind fun bt361 => (if bt361.2 = 0 then ((utf_Put.f k x3 65533).bind fun t363 => (if 1 ≤ (x0.size : Int) then (utf_Clean.l0 k (x0.extract 1 x0.size) t363) else (none))) else ((utf_Put.f k x3 bt361.1).bind fun t366 => (if 0 ≤ bt361.2 then (if bt361.2 ≤ (x0.size : Int) then (utf_Clean.l0 k (x0.extract (bt361.2 : Int).toNat x0.size) t366) else (none)) else (none)))))
def utf_Clean.f (k : Nat) (a0 : ByteArray) : Option (ByteArray) := utf_Clean.l0 k a0 ([] : List Int)
theorem utf_Clean.mono_l : ∀ k, (∀ y0 y1, LeO (utf_Clean.l0 k y0 y1) (utf_Clean.l0 (k + 1) y0 y1))
  | 0 => fun _ _ r h => by simp [utf_Clean.l0] at h
  | k + 1 => by
    have ih0 := utf_Clean.mono_l k
    · intro y0 y1
      unfold utf_Clean.l0
      repeat' first
      | (with_reducible exact ih0 _ _)
      | (with_reducible exact utf_Next.mono _ _)
      | (with_reducible exact utf_Put.mono _ _ _)
      | (with_reducible exact LeO.refl _)
      | (with_reducible exact LeO.none _)
      | (with_reducible refine LeO.ite ?_ ?_)
      | (with_reducible refine LeO.bind ?_ (fun _ => ?_))
      | exact ih0 _ _
      | exact utf_Next.mono _ _
      | exact utf_Put.mono _ _ _
      | exact LeO.none _
      | refine LeO.ite ?_ ?_
      | refine LeO.bind ?_ (fun _ => ?_)
theorem utf_Clean.mono : ∀ a0 k, LeO (utf_Clean.f k a0) (utf_Clean.f (k + 1) a0) := by
  intro a0 k
  have ih0 := utf_Clean.mono_l k
  unfold utf_Clean.f
  repeat' first
      | (with_reducible exact ih0 _ _)
      | (with_reducible exact utf_Next.mono _ _)
      | (with_reducible exact utf_Put.mono _ _ _)
      | (with_reducible exact LeO.refl _)
      | (with_reducible exact LeO.none _)
      | (with_reducible refine LeO.ite ?_ ?_)
      | (with_reducible refine LeO.bind ?_ (fun _ => ?_))
      | exact ih0 _ _
      | exact utf_Next.mono _ _
      | exact utf_Put.mono _ _ _
      | exact LeO.none _
      | refine LeO.ite ?_ ?_
      | refine LeO.bind ?_ (fun _ => ?_)
set_option maxHeartbeats 8000000 in
set_option maxRecDepth 100000 in
theorem utf_Clean.calls (k : Nat) (a0 : ByteArray) (r : ByteArray) (w : World) (h : utf_Clean.f k a0 = some r) :
    Calls Try.prog 48 #[.string a0] w fun e w' => e = .returned (.string r) ∧ Below w.heap.size w w' := by
  have HB := Aside0.mk (Below.refl w.heap.size w)
  have H : (utf_Clean.l0 k a0 ([] : List Int)) = some r := h
  clear h
  have H' := Aside0.mk H
  clear H
  go_enter Try.func48, Try.ntmps48
  go_wp2
  go_loopg [0, 3] k (fun kq v0 v3 w' => ∃ (x0_1 : ByteArray) (x3_1 : List Int), v0 = .string x0_1 ∧ Aside0 (utf_Clean.l0 kq x0_1 x3_1 = some r) ∧ Aside0 (kq ≤ k) ∧ Aside0 (Kd.R (Kd.int .u8) 5 w' w.heap.size (fun _ => True) v3 x3_1) ∧ Aside0 (Below w.heap.size w w'))
  case atStart => exact ⟨(a0), (([] : List Int)), (by first | rfl | (simp; done) | (simp [*]; done)), H', ⟨Nat.le_refl _⟩, ⟨by first | exact Kd.R_nil _ _ _ _ _ | exact Kd.N_nil _ _ _ _ _ | exact Kd.V_nil _ _ _ _ _ | exact Kd.Q_nil _ _ _ _ _ | exact Kd.S_nil _ _ _ _ _⟩, ⟨by repeat (first | (with_reducible first | exact HB.out | apply below_alloc | apply pw_below_drewN | apply below_drew1) | exact HB.out)⟩⟩
  case round =>
    clear H'
    obtain ⟨x0_1, x3_1, rfl, HA, HK1, HO_3, HB⟩ := hrel
    cases gk with
    | zero => exact absurd HA.out (by simp [utf_Clean.l0])
    | succ k1 =>
      have H := HA.out
      clear HA
      simp only [utf_Clean.l0] at H
      by_cases c2 : x0_1.toList = ([] : List UInt8)
      · rw [if_pos c2] at H
        have c2b0 : (x0_1.toList == ([] : List UInt8)) = true := beq_iff_eq.mpr c2
        have c2b1 : (x0_1.toList != ([] : List UInt8)) = false := bne_eq_false_iff_eq.mpr c2
        clear c2
        obtain rfl := Option.some.inj H
        have hcv3 := own_string (P := Try.prog) Try.underlying39 Try.underlying5 Try.underlying9 (Kd.own_of_R HO_3.out)
        go_wp2
        go_ret
        exact ⟨by first | rfl | (simp [errW_none, errW_some] <;> rfl) | (simp [*, errW_none, errW_some] <;> rfl), by repeat (first | (with_reducible first | exact HB.out | apply below_alloc | apply pw_below_drewN | apply below_drew1) | exact HB.out)⟩
      · rw [if_neg c2] at H
        have c2b0 : (x0_1.toList == ([] : List UInt8)) = false := beq_eq_false_iff_ne.mpr c2
        have c2b1 : (x0_1.toList != ([] : List UInt8)) = true := bne_iff_ne.mpr c2
        replace H := Option.bind_eq_some_iff.mp H
        obtain ⟨⟨t361, t362⟩, A40, H⟩ := H
        replace H : (if t362 = 0 then ((utf_Put.f k1 x3_1 65533).bind fun t363 => (if 1 ≤ (x0_1.size : Int) then (utf_Clean.l0 k1 (x0_1.extract 1 x0_1.size) t363) else (none))) else ((utf_Put.f k1 x3_1 t361).bind fun t366 => (if 0 ≤ t362 then (if t362 ≤ (x0_1.size : Int) then (utf_Clean.l0 k1 (x0_1.extract (t362 : Int).toNat x0_1.size) t366) else (none)) else (none)))) = some r := H
        have A4 := Aside0.mk A40
        clear A40
        by_cases c5 : t362 = 0
        · rw [if_pos c5] at H
          have c5b0 : (t362 == 0) = true := beq_iff_eq.mpr c5
          have c5b1 : (t362 != 0) = false := bne_eq_false_iff_eq.mpr c5
          clear c5
          replace H := Option.bind_eq_some_iff.mp H
          obtain ⟨t363, A60, H⟩ := H
          replace H : (if 1 ≤ (x0_1.size : Int) then (utf_Clean.l0 k1 (x0_1.extract 1 x0_1.size) t363) else (none)) = some r := H
          have A6 := Aside0.mk A60
          clear A60
          by_cases c7 : 1 ≤ (x0_1.size : Int)
          · rw [if_pos c7] at H
            have c7b0 := eq_true c7
            have c7b1 : decide (1 ≤ (x0_1.size : Int)) = true := decide_eq_true c7
            clear c7
            have H' := Aside0.mk H
            clear H
            go_wp2_with (first | ((with_reducible refine gate_callee (f := 33) rfl ?_); refine goesL_ (some 10) rfl rfl Try.func33 (by kernel_rfl) rfl #[.string x0_1] rfl (by (try simp only [List.map_toArray, List.map_cons, List.map_nil]); first | done | rfl | (simp only [List.length_drop, List.length_take]; rfl)) ?_; (with_reducible refine (utf_Next.calls k1 x0_1 t361 t362 _ A4.out).mono ?_); rintro e w8 ⟨rfl, hb⟩; refine ⟨_, rfl, ?_⟩; have n0_ := Aside0.mk (Kd.R_below (by (with_reducible repeat (first | apply Kd.R_alloc | apply Kd.R_drewN | apply Kd.R_drew)); exact HO_3.out) hb); have n1_ := Aside0.mk (below_step (by repeat (first | (with_reducible first | exact HB.out | apply below_alloc | apply pw_below_drewN | apply below_drew1) | exact HB.out)) hb); clear HO_3; clear HB; have HO_3 := n0_; have HB := n1_; clear n0_ n1_; (try clear hb); (try clear hb2); (try clear hk); (try clear hi); obtain ⟨Ao9, co9, eo9⟩ := Kd.R_slice HO_3.out; subst eo9) | ((with_reducible refine gate_callee (f := 21) rfl ?_); refine goesL_ (some 17) rfl rfl Try.func21 (by kernel_rfl) rfl #[.slice Ao9 x3_1.length co9, .int .i32 65533] rfl (by (try simp only [List.map_toArray, List.map_cons, List.map_nil]); first | done | rfl | (simp only [List.length_drop, List.length_take]; rfl)) ?_; (with_reducible refine (utf_Put.calls k1 _ _ x3_1 65533 t363 _ ?side1 ?side2 A6.out).mono ?_); (case side1 => repeat (first | exact (Kd.R_reads' HO_3.out).2.2 | (with_reducible refine Kd.C_alloc ?_ _) | (with_reducible refine Kd.C_drewN ?_ _) | (with_reducible refine Kd.C_drew ?_))); (case side2 => exact (Kd.R_reads' HO_3.out).2.1); rintro e w10 ⟨v364, rfl, ho0, hb⟩; refine ⟨_, rfl, ?_⟩; have n0_ := Aside0.mk (Kd.R_elder' (by (with_reducible repeat (first | apply Kd.R_alloc | apply Kd.R_drewN | apply Kd.R_drew)); exact HO_3.out) (Kd.R_base ho0) hb); have n1_ := Aside0.mk (Kd.R_lower (Kd.R_new' ho0 (Kd.R_lt (by (with_reducible repeat (first | apply Kd.R_alloc | apply Kd.R_drewN | apply Kd.R_drew)); exact HO_3.out))) (below_size (by repeat (first | (with_reducible first | exact HB.out | apply below_alloc | apply pw_below_drewN | apply below_drew1) | exact HB.out)))); have n2_ := Aside0.mk (below_step (by repeat (first | (with_reducible first | exact HB.out | apply below_alloc | apply pw_below_drewN | apply below_drew1) | exact HB.out)) hb); clear HO_3; clear HB; have HO_3 := n0_; have HO365 := n1_; have HB := n2_; clear n0_ n1_ n2_; (try clear hb); (try clear hb2); (try clear hk); (try clear hi); (try clear ho0)))
            go_roundg k1
            case measure => have := HK1.out; omega
            case rel => exact ⟨(x0_1.extract 1 x0_1.size), (t363), (by first | rfl | (simp; done) | (simp [*]; done)), H', ⟨by have := HK1.out; omega⟩, ⟨by (with_reducible repeat (first | apply Kd.R_alloc | apply Kd.R_drewN | apply Kd.R_drew)); exact Kd.R_mono HO365.out (fun _ hk => trivial)⟩, ⟨by repeat (first | (with_reducible first | exact HB.out | apply below_alloc | apply pw_below_drewN | apply below_drew1) | exact HB.out)⟩⟩
          · rw [if_neg c7] at H
            exact absurd H (by simp)
        · rw [if_neg c5] at H
          have c5b0 : (t362 == 0) = false := beq_eq_false_iff_ne.mpr c5
          have c5b1 : (t362 != 0) = true := bne_iff_ne.mpr c5
          replace H := Option.bind_eq_some_iff.mp H
          obtain ⟨t366, A110, H⟩ := H
          replace H : (if 0 ≤ t362 then (if t362 ≤ (x0_1.size : Int) then (utf_Clean.l0 k1 (x0_1.extract (t362 : Int).toNat x0_1.size) t366) else (none)) else (none)) = some r := H
          have A11 := Aside0.mk A110
          clear A110
          by_cases c12 : 0 ≤ t362
          · rw [if_pos c12] at H
            have c12b0 := eq_true c12
            have c12b1 : decide (0 ≤ t362) = true := decide_eq_true c12
            clear c12
            by_cases c13 : t362 ≤ (x0_1.size : Int)
            · rw [if_pos c13] at H
              have c13b0 := eq_true c13
              have c13b1 : decide (t362 ≤ (x0_1.size : Int)) = true := decide_eq_true c13
              clear c13
              have H' := Aside0.mk H
              clear H
              go_wp2_with (first | ((with_reducible refine gate_callee (f := 33) rfl ?_); refine goesL_ (some 10) rfl rfl Try.func33 (by kernel_rfl) rfl #[.string x0_1] rfl (by (try simp only [List.map_toArray, List.map_cons, List.map_nil]); first | done | rfl | (simp only [List.length_drop, List.length_take]; rfl)) ?_; (with_reducible refine (utf_Next.calls k1 x0_1 t361 t362 _ A4.out).mono ?_); rintro e w14 ⟨rfl, hb⟩; refine ⟨_, rfl, ?_⟩; have n0_ := Aside0.mk (Kd.R_below (by (with_reducible repeat (first | apply Kd.R_alloc | apply Kd.R_drewN | apply Kd.R_drew)); exact HO_3.out) hb); have n1_ := Aside0.mk (below_step (by repeat (first | (with_reducible first | exact HB.out | apply below_alloc | apply pw_below_drewN | apply below_drew1) | exact HB.out)) hb); clear HO_3; clear HB; have HO_3 := n0_; have HB := n1_; clear n0_ n1_; (try clear hb); (try clear hb2); (try clear hk); (try clear hi); obtain ⟨Ao15, co15, eo15⟩ := Kd.R_slice HO_3.out; subst eo15) | ((with_reducible refine gate_callee (f := 21) rfl ?_); refine goesL_ (some 17) rfl rfl Try.func21 (by kernel_rfl) rfl #[.slice Ao15 x3_1.length co15, .int .i32 t361] rfl (by (try simp only [List.map_toArray, List.map_cons, List.map_nil]); first | done | rfl | (simp only [List.length_drop, List.length_take]; rfl)) ?_; (with_reducible refine (utf_Put.calls k1 _ _ x3_1 t361 t366 _ ?side1 ?side2 A11.out).mono ?_); (case side1 => repeat (first | exact (Kd.R_reads' HO_3.out).2.2 | (with_reducible refine Kd.C_alloc ?_ _) | (with_reducible refine Kd.C_drewN ?_ _) | (with_reducible refine Kd.C_drew ?_))); (case side2 => exact (Kd.R_reads' HO_3.out).2.1); rintro e w16 ⟨v367, rfl, ho0, hb⟩; refine ⟨_, rfl, ?_⟩; have n0_ := Aside0.mk (Kd.R_elder' (by (with_reducible repeat (first | apply Kd.R_alloc | apply Kd.R_drewN | apply Kd.R_drew)); exact HO_3.out) (Kd.R_base ho0) hb); have n1_ := Aside0.mk (Kd.R_lower (Kd.R_new' ho0 (Kd.R_lt (by (with_reducible repeat (first | apply Kd.R_alloc | apply Kd.R_drewN | apply Kd.R_drew)); exact HO_3.out))) (below_size (by repeat (first | (with_reducible first | exact HB.out | apply below_alloc | apply pw_below_drewN | apply below_drew1) | exact HB.out)))); have n2_ := Aside0.mk (below_step (by repeat (first | (with_reducible first | exact HB.out | apply below_alloc | apply pw_below_drewN | apply below_drew1) | exact HB.out)) hb); clear HO_3; clear HB; have HO_3 := n0_; have HO368 := n1_; have HB := n2_; clear n0_ n1_ n2_; (try clear hb); (try clear hb2); (try clear hk); (try clear hi); (try clear ho0)))
              go_roundg k1
              case measure => have := HK1.out; omega
              case rel => exact ⟨(x0_1.extract (t362 : Int).toNat x0_1.size), (t366), (by first | rfl | (simp; done) | (simp [*]; done)), H', ⟨by have := HK1.out; omega⟩, ⟨by (with_reducible repeat (first | apply Kd.R_alloc | apply Kd.R_drewN | apply Kd.R_drew)); exact Kd.R_mono HO368.out (fun _ hk => trivial)⟩, ⟨by repeat (first | (with_reducible first | exact HB.out | apply below_alloc | apply pw_below_drewN | apply below_drew1) | exact HB.out)⟩⟩
            · rw [if_neg c13] at H
              exact absurd H (by simp)
          · rw [if_neg c12] at H
            exact absurd H (by simp)

end Go.Proofs.Ytcnkndmegnfofaa.P

namespace Go.Proofs.Ytcnkndmegnfofaa.P
open Go.RowKit Go.Proofs.YtcnkndmegnfofaaW.PrintWords Go.Proofs.YtcnkndmegnfofaaW.PrintLast Go.Proofs.YtcnkndmegnfofaaW.PrintMore
attribute [local go_sem] max2_int min2_int max_two min_two max_three min_three max_four min_four   -- for this text's walks alone
set_option linter.unusedVariables false
set_option linter.unusedSimpArgs false

/-! ### shadowboxref14_Put: function 22 -/
def shadowboxref14_Put.j0 : Nat → List Int → Int → Bool → Option (List Int)
  | 0, _, _, _ => none
  | k + 1, x5, x6, x25 => if x25 = true then (some x5) else (if x6 < 128 then (if x5.length < 140737488355328 then (some (x5 ++ [(x6) % 256])) else (none)) else (if x6 < 2048 then ((some (([(wrap64 (192 + (wrap64 (Int.tdiv x6 64)))) % 256, (wrap64 (128 + (Int.tmod x6 64))) % 256] : List Int) : List Int)).bind fun y195 => (if x5.length + y195.length < 140737488355328 then (some (x5 ++ y195)) else (none))) else (if x6 < 65536 then ((some (([(wrap64 (224 + (wrap64 (Int.tdiv x6 4096)))) % 256, (wrap64 (128 + (Int.tmod (wrap64 (Int.tdiv x6 64)) 64))) % 256, (wrap64 (128 + (Int.tmod x6 64))) % 256] : List Int) : List Int)).bind fun y201 => (if x5.length + y201.length < 140737488355328 then (some (x5 ++ y201)) else (none))) else ((some (([(wrap64 (240 + (wrap64 (Int.tdiv x6 262144)))) % 256, (wrap64 (128 + (Int.tmod (wrap64 (Int.tdiv x6 4096)) 64))) % 256, (wrap64 (128 + (Int.tmod (wrap64 (Int.tdiv x6 64)) 64))) % 256, (wrap64 (128 + (Int.tmod x6 64))) % 256] : List Int) : List Int)).bind fun y207 => (if x5.length + y207.length < 140737488355328 then (some (x5 ++ y207)) else (none))))))
def shadowboxref14_Put.f (k : Nat) (l0 : List Int) (a1 : Int) : Option (List Int) := (some (([] : List Int) : List Int)).bind fun y186 => (if y186.length + l0.length < 140737488355328 then ((some (y186 ++ l0 : List Int)).bind fun y189 => (if (wrap64 (a1)) < 0 then (shadowboxref14_Put.j0 k y189 (wrap64 (a1)) true) else (if (wrap64 (a1)) > 1114111 then (shadowboxref14_Put.j0 k y189 (wrap64 (a1)) true) else (if (wrap64 (a1)) ≥ 55296 then (shadowboxref14_Put.j0 k y189 (wrap64 (a1)) (decide ((wrap64 (a1)) ≤ 57343))) else (shadowboxref14_Put.j0 k y189 (wrap64 (a1)) false))))) else (none))
theorem shadowboxref14_Put.mono_l : ∀ k, (∀ y0 y1 y2, LeO (shadowboxref14_Put.j0 k y0 y1 y2) (shadowboxref14_Put.j0 (k + 1) y0 y1 y2))
  | 0 => fun _ _ _ r h => by simp [shadowboxref14_Put.j0] at h
  | k + 1 => by
    have ih0 := shadowboxref14_Put.mono_l k
    · intro y0 y1 y2
      unfold shadowboxref14_Put.j0
      repeat' first
      | (with_reducible exact ih0 _ _ _)
      | (with_reducible exact LeO.refl _)
      | (with_reducible exact LeO.none _)
      | (with_reducible refine LeO.ite ?_ ?_)
      | (with_reducible refine LeO.bind ?_ (fun _ => ?_))
      | exact ih0 _ _ _
      | exact LeO.none _
      | refine LeO.ite ?_ ?_
      | refine LeO.bind ?_ (fun _ => ?_)
theorem shadowboxref14_Put.mono : ∀ a0 a1 k, LeO (shadowboxref14_Put.f k a0 a1) (shadowboxref14_Put.f (k + 1) a0 a1) := by
  intro a0 a1 k
  have ih0 := shadowboxref14_Put.mono_l k
  unfold shadowboxref14_Put.f
  repeat' first
      | (with_reducible exact ih0 _ _ _)
      | (with_reducible exact LeO.refl _)
      | (with_reducible exact LeO.none _)
      | (with_reducible refine LeO.ite ?_ ?_)
      | (with_reducible refine LeO.bind ?_ (fun _ => ?_))
      | exact ih0 _ _ _
      | exact LeO.none _
      | refine LeO.ite ?_ ?_
      | refine LeO.bind ?_ (fun _ => ?_)
set_option maxHeartbeats 8000000 in
set_option maxRecDepth 100000 in
theorem shadowboxref14_Put.calls (k : Nat) (A0 : Option Addr) (c0 : Nat) (l0 : List Int) (a1 : Int) (r : List Int) (w : World) (hr0 : Kd.C (Kd.int .u8) w A0 l0.length l0) (hc0 : l0.length ≤ c0) (h : shadowboxref14_Put.f k l0 a1 = some r) :
    Calls Try.prog 22 #[.slice A0 l0.length c0, .int .i32 a1] w fun e w' => ∃ v0_ : Value, e = .returned (v0_) ∧ Kd.R (Kd.int .u8) 5 w' w.heap.size (fun _ => True) v0_ r ∧ Below w.heap.size w w' := by
  have HR0 := Aside0.mk hr0
  have HC0 := Aside0.mk hc0
  clear hr0 hc0
  have HB := Aside0.mk (Below.refl w.heap.size w)
  have H : ((some (([] : List Int) : List Int)).bind fun y186 => (if y186.length + l0.length < 140737488355328 then ((some (y186 ++ l0 : List Int)).bind fun y189 => (if (wrap64 (a1)) < 0 then (shadowboxref14_Put.j0 k y189 (wrap64 (a1)) true) else (if (wrap64 (a1)) > 1114111 then (shadowboxref14_Put.j0 k y189 (wrap64 (a1)) true) else (if (wrap64 (a1)) ≥ 55296 then (shadowboxref14_Put.j0 k y189 (wrap64 (a1)) (decide ((wrap64 (a1)) ≤ 57343))) else (shadowboxref14_Put.j0 k y189 (wrap64 (a1)) false))))) else (none))) = some r := h
  clear h
  obtain ⟨y186, hy186⟩ : ∃ y_ : List Int, y_ = (([] : List Int)) := ⟨_, rfl⟩
  replace H : (if y186.length + l0.length < 140737488355328 then ((some (y186 ++ l0 : List Int)).bind fun y189 => (if (wrap64 (a1)) < 0 then (shadowboxref14_Put.j0 k y189 (wrap64 (a1)) true) else (if (wrap64 (a1)) > 1114111 then (shadowboxref14_Put.j0 k y189 (wrap64 (a1)) true) else (if (wrap64 (a1)) ≥ 55296 then (shadowboxref14_Put.j0 k y189 (wrap64 (a1)) (decide ((wrap64 (a1)) ≤ 57343))) else (shadowboxref14_Put.j0 k y189 (wrap64 (a1)) false))))) else (none)) = some r := by first | (rw [hy186]; with_reducible exact H) | (have H2_ := (Option.bind_some _ _).symm.trans H; rw [hy186]; with_reducible exact H2_) | (have H2_ := (Option.bind_some _ _).symm.trans H; with_reducible exact H2_) | with_reducible exact H | (rw [hy186]; exact H) | exact H
  have Ny186 := Aside0.mk hy186
  clear hy186
  by_cases c3 : y186.length + l0.length < 140737488355328
  · rw [if_pos c3] at H
    have LMc3 := Aside0.mk c3
    clear c3
    obtain ⟨y189, hy189⟩ : ∃ y_ : List Int, y_ = (y186 ++ l0) := ⟨_, rfl⟩
    replace H : (if (wrap64 (a1)) < 0 then (shadowboxref14_Put.j0 k y189 (wrap64 (a1)) true) else (if (wrap64 (a1)) > 1114111 then (shadowboxref14_Put.j0 k y189 (wrap64 (a1)) true) else (if (wrap64 (a1)) ≥ 55296 then (shadowboxref14_Put.j0 k y189 (wrap64 (a1)) (decide ((wrap64 (a1)) ≤ 57343))) else (shadowboxref14_Put.j0 k y189 (wrap64 (a1)) false)))) = some r := by first | (rw [hy189]; with_reducible exact H) | (have H2_ := (Option.bind_some _ _).symm.trans H; rw [hy189]; with_reducible exact H2_) | (have H2_ := (Option.bind_some _ _).symm.trans H; with_reducible exact H2_) | with_reducible exact H | (rw [hy189]; exact H) | exact H
    have Ny189 := Aside0.mk hy189
    clear hy189
    have HC4 := Aside0.mk H
    clear H
    go_enter Try.func22, Try.ntmps22
    go_upto_region 3 with (first | ((with_reducible refine gate_dst (N := 7) rfl ?_); refine Kd.R_lit (Kd.int .u8) _ 5 ?hg (N := 7) ?hd (xs := ([] : List Int)) (inner := []) (ok := fun _ => True) (okp := fun _ => True) ?hr ?hp (fun _ hk => hk) trivial (Below.refl _ _) (Nat.le_refl _) (by simp) ?_; (case hd => rfl); (case hg => rfl); (case hr => first | (go_simp; done) | (go_simp; rfl)); (case hp => exact (Reps.none _ _)); intro v187 w5 ho6 hb hg_ hnew_; clear hg_ hnew_; (first | rw [← Ny186.out] at ho6 | (simp only [Int.reduceToNat] at ho6; rw [← Ny186.out] at ho6)); have n0_ := Aside0.mk (Kd.R_lower ho6 (below_size (by repeat (first | (with_reducible first | exact HB.out | apply below_alloc | apply pw_below_drewN | apply below_drew1) | exact HB.out)))); have n1_ := Aside0.mk (below_step (by repeat (first | (with_reducible first | exact HB.out | apply below_alloc | apply pw_below_drewN | apply below_drew1) | exact HB.out)) hb); clear HB; have HO188 := n0_; have HB := n1_; clear n0_ n1_; clear hb ho6) | ((with_reducible refine gate_builtin (b := .append) (xs := #[.tmp 7, .tmp 8]) rfl ?_); at_builtin; refine Kd.R_append_rows (Kd.int .u8) (w0 := w) w.heap.size rfl (.tmp 7) (.tmp 8) 39 5 (.int .u8 0) 1 rfl Try.underlying39 info5 rfl (by decide) (by omega) v187 y186 l0 _ _ _ (fun _ => True) (fun _ => False) rfl rfl ?aO ?aR (fun _ _ h => h) (fun _ h => h.elim) ?aF ?aB ?aS ?aL ?_; (case aR => repeat (first | exact (Kd.C_below HR0.out HB.out) | (with_reducible refine Kd.C_alloc ?_ _) | (with_reducible refine Kd.C_drewN ?_ _) | (with_reducible refine Kd.C_drew ?_))); (case aB => exact (by repeat (first | (with_reducible first | exact HB.out | apply below_alloc | apply pw_below_drewN | apply below_drew1) | exact HB.out))); (case aF => exact (fun _ _ => trivial)); (case aO => exact (by (with_reducible repeat (first | apply Kd.R_alloc | apply Kd.R_drewN | apply Kd.R_drew)); exact HO188.out)); (case aS => exact (below_size (by repeat (first | (with_reducible first | exact HB.out | apply below_alloc | apply pw_below_drewN | apply below_drew1) | exact HB.out)))); (case aL => have := LMc3.out; omega); intro v190 w7 ho hb hg hat; rw [← Ny189.out] at ho; have n0_ := Aside0.mk (hb); have n1_ := Aside0.mk (ho); clear HB; clear HO188; have HB := n0_; have HO191 := n1_; clear n0_ n1_; clear ho hb hg hat))
    (try simp only [Act.put, List.setIfInBounds_toArray, List.set_cons_zero, List.set_cons_succ])
    go_cut [25] (fun v25 wc => ∃ (kq : Nat) (x25_3 : Bool), v25 = .bool x25_3 ∧ Aside0 (shadowboxref14_Put.j0 kq y189 (wrap64 (a1)) x25_3 = some r) ∧ Aside0 (kq ≤ k) ∧ Aside0 (Kd.R (Kd.int .u8) 5 wc w.heap.size (fun _ => True) v190 y189) ∧ Aside0 (Below w.heap.size w wc))
    case first =>
      have H := HC4.out
      clear HC4
      by_cases c8 : (wrap64 (a1)) < 0
      · rw [if_pos c8] at H
        have c8b0 : decide ((wrap64 (a1)) < 0) = true := decide_eq_true c8
        clear c8
        (first | rw [c8b0] | (simp only [i64_w, i32_w]; rw [c8b0]) | skip)
        have H' := Aside0.mk H
        clear H
        go_wp2
        go_meet
        case rel => exact ⟨_, (true), (by first | rfl | (simp; done) | (simp [*]; done)), H', ⟨by first | omega | exact Nat.le_refl _⟩, ⟨by (with_reducible repeat (first | apply Kd.R_alloc | apply Kd.R_drewN | apply Kd.R_drew)); exact HO191.out⟩, ⟨by repeat (first | (with_reducible first | exact HB.out | apply below_alloc | apply pw_below_drewN | apply below_drew1) | exact HB.out)⟩⟩
      · rw [if_neg c8] at H
        have c8b0 : decide ((wrap64 (a1)) < 0) = false := decide_eq_false c8
        clear c8
        (first | rw [c8b0] | (simp only [i64_w, i32_w]; rw [c8b0]) | skip)
        by_cases c9 : (wrap64 (a1)) > 1114111
        · rw [if_pos c9] at H
          have c9b0 : decide (1114111 < (wrap64 (a1))) = true := decide_eq_true c9
          clear c9
          have H' := Aside0.mk H
          clear H
          go_wp2
          go_meet
          case rel => exact ⟨_, (true), (by first | rfl | (simp; done) | (simp [*]; done)), H', ⟨by first | omega | exact Nat.le_refl _⟩, ⟨by (with_reducible repeat (first | apply Kd.R_alloc | apply Kd.R_drewN | apply Kd.R_drew)); exact HO191.out⟩, ⟨by repeat (first | (with_reducible first | exact HB.out | apply below_alloc | apply pw_below_drewN | apply below_drew1) | exact HB.out)⟩⟩
        · rw [if_neg c9] at H
          have c9b0 : decide (1114111 < (wrap64 (a1))) = false := decide_eq_false c9
          clear c9
          by_cases c10 : (wrap64 (a1)) ≥ 55296
          · rw [if_pos c10] at H
            have c10b0 : decide (55296 ≤ (wrap64 (a1))) = true := decide_eq_true c10
            clear c10
            have H' := Aside0.mk H
            clear H
            go_wp2
            go_meet
            case rel => exact ⟨_, (decide ((wrap64 (a1)) ≤ 57343)), (by first | rfl | (simp; done) | (simp [*]; done)), H', ⟨by first | omega | exact Nat.le_refl _⟩, ⟨by (with_reducible repeat (first | apply Kd.R_alloc | apply Kd.R_drewN | apply Kd.R_drew)); exact HO191.out⟩, ⟨by repeat (first | (with_reducible first | exact HB.out | apply below_alloc | apply pw_below_drewN | apply below_drew1) | exact HB.out)⟩⟩
          · rw [if_neg c10] at H
            have c10b0 : decide (55296 ≤ (wrap64 (a1))) = false := decide_eq_false c10
            clear c10
            have H' := Aside0.mk H
            clear H
            go_wp2
            go_meet
            case rel => exact ⟨_, (false), (by first | rfl | (simp; done) | (simp [*]; done)), H', ⟨by first | omega | exact Nat.le_refl _⟩, ⟨by (with_reducible repeat (first | apply Kd.R_alloc | apply Kd.R_drewN | apply Kd.R_drew)); exact HO191.out⟩, ⟨by repeat (first | (with_reducible first | exact HB.out | apply below_alloc | apply pw_below_drewN | apply below_drew1) | exact HB.out)⟩⟩
    case rest =>
      clear HC4
      try clear c1
      try clear c2
      try clear p2
      try clear c3
      try clear p6
      try clear c8
      try clear c8b0
      try clear c9
      try clear c9b0
      try clear c10
      try clear c10b0
      obtain ⟨kq, x25_3, rfl, HA, HJ3, HO_5, HB⟩ := hcut
      cases kq with
      | zero => exact absurd HA.out (by simp [shadowboxref14_Put.j0])
      | succ kj3 =>
        have H := HA.out
        clear HA
        simp only [shadowboxref14_Put.j0] at H
        by_cases c11 : x25_3 = true
        · subst c11
          have H1 : (some y189) = some r := by rw [if_pos rfl] at H; exact H
          clear H
          have H := H1
          clear H1
          obtain rfl := Option.some.inj H
          go_wp2
          go_ret
          exact ⟨_, by first | rfl | (simp [errW_none, errW_some] <;> rfl) | (simp [*, errW_none, errW_some] <;> rfl), by (with_reducible repeat (first | apply Kd.R_alloc | apply Kd.R_drewN | apply Kd.R_drew)); exact HO_5.out, by repeat (first | (with_reducible first | exact HB.out | apply below_alloc | apply pw_below_drewN | apply below_drew1) | exact HB.out)⟩
        · replace c11 := Bool.eq_false_iff.mpr c11
          subst c11
          have H1 : (if (wrap64 (a1)) < 128 then (if y189.length < 140737488355328 then (some (y189 ++ [((wrap64 (a1))) % 256])) else (none)) else (if (wrap64 (a1)) < 2048 then ((some (([(wrap64 (192 + (wrap64 (Int.tdiv (wrap64 (a1)) 64)))) % 256, (wrap64 (128 + (Int.tmod (wrap64 (a1)) 64))) % 256] : List Int) : List Int)).bind fun y195 => (if y189.length + y195.length < 140737488355328 then (some (y189 ++ y195)) else (none))) else (if (wrap64 (a1)) < 65536 then ((some (([(wrap64 (224 + (wrap64 (Int.tdiv (wrap64 (a1)) 4096)))) % 256, (wrap64 (128 + (Int.tmod (wrap64 (Int.tdiv (wrap64 (a1)) 64)) 64))) % 256, (wrap64 (128 + (Int.tmod (wrap64 (a1)) 64))) % 256] : List Int) : List Int)).bind fun y201 => (if y189.length + y201.length < 140737488355328 then (some (y189 ++ y201)) else (none))) else ((some (([(wrap64 (240 + (wrap64 (Int.tdiv (wrap64 (a1)) 262144)))) % 256, (wrap64 (128 + (Int.tmod (wrap64 (Int.tdiv (wrap64 (a1)) 4096)) 64))) % 256, (wrap64 (128 + (Int.tmod (wrap64 (Int.tdiv (wrap64 (a1)) 64)) 64))) % 256, (wrap64 (128 + (Int.tmod (wrap64 (a1)) 64))) % 256] : List Int) : List Int)).bind fun y207 => (if y189.length + y207.length < 140737488355328 then (some (y189 ++ y207)) else (none)))))) = some r := by rw [if_neg (show ¬ (false = true) by decide)] at H; exact H
          clear H
          have H := H1
          clear H1
          by_cases c12 : (wrap64 (a1)) < 128
          · rw [if_pos c12] at H
            have c12b0 : decide ((wrap64 (a1)) < 128) = true := decide_eq_true c12
            clear c12
            by_cases c13 : y189.length < 140737488355328
            · rw [if_pos c13] at H
              have LMc13 := Aside0.mk c13
              clear c13
              obtain ⟨y192, hy192⟩ : ∃ y_ : List Int, y_ = (y189 ++ [((wrap64 (a1))) % 256]) := ⟨_, rfl⟩
              replace H : (some y192) = some r := by first | (rw [hy192]; with_reducible exact H) | (have H2_ := (Option.bind_some _ _).symm.trans H; rw [hy192]; with_reducible exact H2_) | (have H2_ := (Option.bind_some _ _).symm.trans H; with_reducible exact H2_) | with_reducible exact H | (rw [hy192]; exact H) | exact H
              have Ny192 := Aside0.mk hy192
              clear hy192
              obtain rfl := Option.some.inj H
              go_wp2_with (first | ((with_reducible refine gate_builtin (b := .append) (xs := #[.tmp 29, .tmp 32]) rfl ?_); at_builtin; refine Kd.R_append (Kd.int .u8) (w0 := w) w.heap.size rfl (.tmp 29) (.tmp 32) 39 5 (.int .u8 0) 1 rfl Try.underlying39 info5 rfl (by decide) (by omega) v190 y189 (((wrap64 (a1))) % 256) [.int .u8 (((wrap64 (a1))) % 256)] (fun _ => True) (fun _ => False) rfl rfl ?aP (fun _ hk => hk.elim) ?aF ?aO ?aB ?aS ?aL ?_; (case aP => exact rfl); (case aB => exact (by repeat (first | (with_reducible first | exact HB.out | apply below_alloc | apply pw_below_drewN | apply below_drew1) | exact HB.out))); (case aF => exact (fun _ _ => trivial)); (case aO => exact (by (with_reducible repeat (first | apply Kd.R_alloc | apply Kd.R_drewN | apply Kd.R_drew)); exact HO_5.out)); (case aS => exact (below_size (by repeat (first | (with_reducible first | exact HB.out | apply below_alloc | apply pw_below_drewN | apply below_drew1) | exact HB.out)))); (case aL => have := LMc13.out; omega); intro v193 w14 ho hb hg hat; rw [← Ny192.out] at ho; have n0_ := Aside0.mk (hb); have n1_ := Aside0.mk (ho); clear HB; clear HO_5; have HB := n0_; have HO194 := n1_; clear n0_ n1_; clear ho hb hg hat))
              go_ret
              exact ⟨_, by first | rfl | (simp [errW_none, errW_some] <;> rfl) | (simp [*, errW_none, errW_some] <;> rfl), by (with_reducible repeat (first | apply Kd.R_alloc | apply Kd.R_drewN | apply Kd.R_drew)); exact HO194.out, by repeat (first | (with_reducible first | exact HB.out | apply below_alloc | apply pw_below_drewN | apply below_drew1) | exact HB.out)⟩
            · rw [if_neg c13] at H
              exact absurd H (by simp)
          · rw [if_neg c12] at H
            have c12b0 : decide ((wrap64 (a1)) < 128) = false := decide_eq_false c12
            clear c12
            by_cases c15 : (wrap64 (a1)) < 2048
            · rw [if_pos c15] at H
              have c15b0 : decide ((wrap64 (a1)) < 2048) = true := decide_eq_true c15
              clear c15
              obtain ⟨y195, hy195⟩ : ∃ y_ : List Int, y_ = (([(wrap64 (192 + (wrap64 (Int.tdiv (wrap64 (a1)) 64)))) % 256, (wrap64 (128 + (Int.tmod (wrap64 (a1)) 64))) % 256] : List Int)) := ⟨_, rfl⟩
              replace H : (if y189.length + y195.length < 140737488355328 then (some (y189 ++ y195)) else (none)) = some r := by first | (rw [hy195]; with_reducible exact H) | (have H2_ := (Option.bind_some _ _).symm.trans H; rw [hy195]; with_reducible exact H2_) | (have H2_ := (Option.bind_some _ _).symm.trans H; with_reducible exact H2_) | with_reducible exact H | (rw [hy195]; exact H) | exact H
              have Ny195 := Aside0.mk hy195
              clear hy195
              by_cases c16 : y189.length + y195.length < 140737488355328
              · rw [if_pos c16] at H
                have LMc16 := Aside0.mk c16
                clear c16
                obtain ⟨y198, hy198⟩ : ∃ y_ : List Int, y_ = (y189 ++ y195) := ⟨_, rfl⟩
                replace H : (some y198) = some r := by first | (rw [hy198]; with_reducible exact H) | (have H2_ := (Option.bind_some _ _).symm.trans H; rw [hy198]; with_reducible exact H2_) | (have H2_ := (Option.bind_some _ _).symm.trans H; with_reducible exact H2_) | with_reducible exact H | (rw [hy198]; exact H) | exact H
                have Ny198 := Aside0.mk hy198
                clear hy198
                obtain rfl := Option.some.inj H
                go_wp2_with (first | ((with_reducible refine gate_dst (N := 45) rfl ?_); refine Kd.R_lit (Kd.int .u8) _ 5 ?hg (N := 45) ?hd (xs := ([(wrap64 (192 + (wrap64 (Int.tdiv (wrap64 (a1)) 64)))) % 256, (wrap64 (128 + (Int.tmod (wrap64 (a1)) 64))) % 256] : List Int)) (inner := [.int .u8 ((wrap64 (192 + (wrap64 (Int.tdiv (wrap64 (a1)) 64)))) % 256), .int .u8 ((wrap64 (128 + (Int.tmod (wrap64 (a1)) 64))) % 256)]) (ok := fun _ => True) (okp := fun _ => True) ?hr ?hp (fun _ hk => hk) trivial (Below.refl _ _) (Nat.le_refl _) (by simp) ?_; (case hd => rfl); (case hg => rfl); (case hr => first | (go_simp; done) | (go_simp; rfl)); (case hp => exact (Reps.one (show Kd.M (Kd.int .u8) _ _ _ ((wrap64 (192 + (wrap64 (Int.tdiv (wrap64 (a1)) 64)))) % 256) [.int .u8 ((wrap64 (192 + (wrap64 (Int.tdiv (wrap64 (a1)) 64)))) % 256)] from rfl) (Reps.one (show Kd.M (Kd.int .u8) _ _ _ ((wrap64 (128 + (Int.tmod (wrap64 (a1)) 64))) % 256) [.int .u8 ((wrap64 (128 + (Int.tmod (wrap64 (a1)) 64))) % 256)] from rfl) (Reps.none _ _)))); intro v196 w17 ho18 hb hg_ hnew_; clear hg_ hnew_; (first | rw [← Ny195.out] at ho18 | (simp only [Int.reduceToNat] at ho18; rw [← Ny195.out] at ho18)); have n0_ := Aside0.mk (Kd.R_elder' (by (with_reducible repeat (first | apply Kd.R_alloc | apply Kd.R_drewN | apply Kd.R_drew)); exact HO_5.out) (Kd.R_base ho18) hb); have n1_ := Aside0.mk (Kd.R_lower (Kd.R_new' ho18 (Kd.R_lt (by (with_reducible repeat (first | apply Kd.R_alloc | apply Kd.R_drewN | apply Kd.R_drew)); exact HO_5.out))) (below_size (by repeat (first | (with_reducible first | exact HB.out | apply below_alloc | apply pw_below_drewN | apply below_drew1) | exact HB.out)))); have n2_ := Aside0.mk (below_step (by repeat (first | (with_reducible first | exact HB.out | apply below_alloc | apply pw_below_drewN | apply below_drew1) | exact HB.out)) hb); clear HO_5; clear HB; have HO_5 := n0_; have HO197 := n1_; have HB := n2_; clear n0_ n1_ n2_; clear hb ho18; obtain ⟨Ao20, co20, eo20⟩ := Kd.R_slice HO197.out; subst eo20) | ((with_reducible refine gate_builtin (b := .append) (xs := #[.tmp 36, .tmp 45]) rfl ?_); at_builtin; refine Kd.R_append_rows (Kd.int .u8) (w0 := w) w.heap.size rfl (.tmp 36) (.tmp 45) 39 5 (.int .u8 0) 1 rfl Try.underlying39 info5 rfl (by decide) (by omega) v190 y189 y195 _ _ _ (fun k_ => some k_ ≠ (.slice Ao20 y195.length co20 : Value).ownBlock) (fun _ => False) rfl rfl ?aO ?aR (fun _ _ h => h) (fun _ h => h.elim) ?aF ?aB ?aS ?aL ?_; (case aR => repeat (first | exact (Kd.R_reads' HO197.out).2.2 | (with_reducible refine Kd.C_alloc ?_ _) | (with_reducible refine Kd.C_drewN ?_ _) | (with_reducible refine Kd.C_drew ?_))); (case aB => exact (by repeat (first | (with_reducible first | exact HB.out | apply below_alloc | apply pw_below_drewN | apply below_drew1) | exact HB.out))); (case aF => exact (fun k_ hk => Kd.fresh' (Kd.R_lt (by (with_reducible repeat (first | apply Kd.R_alloc | apply Kd.R_drewN | apply Kd.R_drew)); exact HO197.out)) k_ hk)); (case aO => exact (by (with_reducible repeat (first | apply Kd.R_alloc | apply Kd.R_drewN | apply Kd.R_drew)); exact Kd.R_mono HO_5.out (fun _ hk => hk.2))); (case aS => exact (below_size (by repeat (first | (with_reducible first | exact HB.out | apply below_alloc | apply pw_below_drewN | apply below_drew1) | exact HB.out)))); (case aL => have := LMc16.out; omega); intro v199 w19 ho hb hg hat; rw [← Ny198.out] at ho; have n0_ := Aside0.mk (Kd.R_after (ok := (fun _ => True)) (by (with_reducible repeat (first | apply Kd.R_alloc | apply Kd.R_drewN | apply Kd.R_drew)); exact HO197.out) hg hat); have n1_ := Aside0.mk (hb); have n2_ := Aside0.mk (ho); clear HO197; clear HB; clear HO_5; have HO197 := n0_; have HB := n1_; have HO200 := n2_; clear n0_ n1_ n2_; clear ho hb hg hat))
                go_ret
                exact ⟨_, by first | rfl | (simp [errW_none, errW_some] <;> rfl) | (simp [*, errW_none, errW_some] <;> rfl), by (with_reducible repeat (first | apply Kd.R_alloc | apply Kd.R_drewN | apply Kd.R_drew)); exact Kd.R_mono HO200.out (fun _ hk => trivial), by repeat (first | (with_reducible first | exact HB.out | apply below_alloc | apply pw_below_drewN | apply below_drew1) | exact HB.out)⟩
              · rw [if_neg c16] at H
                exact absurd H (by simp)
            · rw [if_neg c15] at H
              have c15b0 : decide ((wrap64 (a1)) < 2048) = false := decide_eq_false c15
              clear c15
              by_cases c21 : (wrap64 (a1)) < 65536
              · rw [if_pos c21] at H
                have c21b0 : decide ((wrap64 (a1)) < 65536) = true := decide_eq_true c21
                clear c21
                obtain ⟨y201, hy201⟩ : ∃ y_ : List Int, y_ = (([(wrap64 (224 + (wrap64 (Int.tdiv (wrap64 (a1)) 4096)))) % 256, (wrap64 (128 + (Int.tmod (wrap64 (Int.tdiv (wrap64 (a1)) 64)) 64))) % 256, (wrap64 (128 + (Int.tmod (wrap64 (a1)) 64))) % 256] : List Int)) := ⟨_, rfl⟩
                replace H : (if y189.length + y201.length < 140737488355328 then (some (y189 ++ y201)) else (none)) = some r := by first | (rw [hy201]; with_reducible exact H) | (have H2_ := (Option.bind_some _ _).symm.trans H; rw [hy201]; with_reducible exact H2_) | (have H2_ := (Option.bind_some _ _).symm.trans H; with_reducible exact H2_) | with_reducible exact H | (rw [hy201]; exact H) | exact H
                have Ny201 := Aside0.mk hy201
                clear hy201
                by_cases c22 : y189.length + y201.length < 140737488355328
                · rw [if_pos c22] at H
                  have LMc22 := Aside0.mk c22
                  clear c22
                  obtain ⟨y204, hy204⟩ : ∃ y_ : List Int, y_ = (y189 ++ y201) := ⟨_, rfl⟩
                  replace H : (some y204) = some r := by first | (rw [hy204]; with_reducible exact H) | (have H2_ := (Option.bind_some _ _).symm.trans H; rw [hy204]; with_reducible exact H2_) | (have H2_ := (Option.bind_some _ _).symm.trans H; with_reducible exact H2_) | with_reducible exact H | (rw [hy204]; exact H) | exact H
                  have Ny204 := Aside0.mk hy204
                  clear hy204
                  obtain rfl := Option.some.inj H
                  go_wp2_with (first | ((with_reducible refine gate_dst (N := 63) rfl ?_); refine Kd.R_lit (Kd.int .u8) _ 5 ?hg (N := 63) ?hd (xs := ([(wrap64 (224 + (wrap64 (Int.tdiv (wrap64 (a1)) 4096)))) % 256, (wrap64 (128 + (Int.tmod (wrap64 (Int.tdiv (wrap64 (a1)) 64)) 64))) % 256, (wrap64 (128 + (Int.tmod (wrap64 (a1)) 64))) % 256] : List Int)) (inner := [.int .u8 ((wrap64 (224 + (wrap64 (Int.tdiv (wrap64 (a1)) 4096)))) % 256), .int .u8 ((wrap64 (128 + (Int.tmod (wrap64 (Int.tdiv (wrap64 (a1)) 64)) 64))) % 256), .int .u8 ((wrap64 (128 + (Int.tmod (wrap64 (a1)) 64))) % 256)]) (ok := fun _ => True) (okp := fun _ => True) ?hr ?hp (fun _ hk => hk) trivial (Below.refl _ _) (Nat.le_refl _) (by simp) ?_; (case hd => rfl); (case hg => rfl); (case hr => first | (go_simp; done) | (go_simp; rfl)); (case hp => exact (Reps.one (show Kd.M (Kd.int .u8) _ _ _ ((wrap64 (224 + (wrap64 (Int.tdiv (wrap64 (a1)) 4096)))) % 256) [.int .u8 ((wrap64 (224 + (wrap64 (Int.tdiv (wrap64 (a1)) 4096)))) % 256)] from rfl) (Reps.one (show Kd.M (Kd.int .u8) _ _ _ ((wrap64 (128 + (Int.tmod (wrap64 (Int.tdiv (wrap64 (a1)) 64)) 64))) % 256) [.int .u8 ((wrap64 (128 + (Int.tmod (wrap64 (Int.tdiv (wrap64 (a1)) 64)) 64))) % 256)] from rfl) (Reps.one (show Kd.M (Kd.int .u8) _ _ _ ((wrap64 (128 + (Int.tmod (wrap64 (a1)) 64))) % 256) [.int .u8 ((wrap64 (128 + (Int.tmod (wrap64 (a1)) 64))) % 256)] from rfl) (Reps.none _ _))))); intro v202 w23 ho24 hb hg_ hnew_; clear hg_ hnew_; (first | rw [← Ny201.out] at ho24 | (simp only [Int.reduceToNat] at ho24; rw [← Ny201.out] at ho24)); have n0_ := Aside0.mk (Kd.R_elder' (by (with_reducible repeat (first | apply Kd.R_alloc | apply Kd.R_drewN | apply Kd.R_drew)); exact HO_5.out) (Kd.R_base ho24) hb); have n1_ := Aside0.mk (Kd.R_lower (Kd.R_new' ho24 (Kd.R_lt (by (with_reducible repeat (first | apply Kd.R_alloc | apply Kd.R_drewN | apply Kd.R_drew)); exact HO_5.out))) (below_size (by repeat (first | (with_reducible first | exact HB.out | apply below_alloc | apply pw_below_drewN | apply below_drew1) | exact HB.out)))); have n2_ := Aside0.mk (below_step (by repeat (first | (with_reducible first | exact HB.out | apply below_alloc | apply pw_below_drewN | apply below_drew1) | exact HB.out)) hb); clear HO_5; clear HB; have HO_5 := n0_; have HO203 := n1_; have HB := n2_; clear n0_ n1_ n2_; clear hb ho24; obtain ⟨Ao26, co26, eo26⟩ := Kd.R_slice HO203.out; subst eo26) | ((with_reducible refine gate_builtin (b := .append) (xs := #[.tmp 49, .tmp 63]) rfl ?_); at_builtin; refine Kd.R_append_rows (Kd.int .u8) (w0 := w) w.heap.size rfl (.tmp 49) (.tmp 63) 39 5 (.int .u8 0) 1 rfl Try.underlying39 info5 rfl (by decide) (by omega) v190 y189 y201 _ _ _ (fun k_ => some k_ ≠ (.slice Ao26 y201.length co26 : Value).ownBlock) (fun _ => False) rfl rfl ?aO ?aR (fun _ _ h => h) (fun _ h => h.elim) ?aF ?aB ?aS ?aL ?_; (case aR => repeat (first | exact (Kd.R_reads' HO203.out).2.2 | (with_reducible refine Kd.C_alloc ?_ _) | (with_reducible refine Kd.C_drewN ?_ _) | (with_reducible refine Kd.C_drew ?_))); (case aB => exact (by repeat (first | (with_reducible first | exact HB.out | apply below_alloc | apply pw_below_drewN | apply below_drew1) | exact HB.out))); (case aF => exact (fun k_ hk => Kd.fresh' (Kd.R_lt (by (with_reducible repeat (first | apply Kd.R_alloc | apply Kd.R_drewN | apply Kd.R_drew)); exact HO203.out)) k_ hk)); (case aO => exact (by (with_reducible repeat (first | apply Kd.R_alloc | apply Kd.R_drewN | apply Kd.R_drew)); exact Kd.R_mono HO_5.out (fun _ hk => hk.2))); (case aS => exact (below_size (by repeat (first | (with_reducible first | exact HB.out | apply below_alloc | apply pw_below_drewN | apply below_drew1) | exact HB.out)))); (case aL => have := LMc22.out; omega); intro v205 w25 ho hb hg hat; rw [← Ny204.out] at ho; have n0_ := Aside0.mk (Kd.R_after (ok := (fun _ => True)) (by (with_reducible repeat (first | apply Kd.R_alloc | apply Kd.R_drewN | apply Kd.R_drew)); exact HO203.out) hg hat); have n1_ := Aside0.mk (hb); have n2_ := Aside0.mk (ho); clear HO203; clear HB; clear HO_5; have HO203 := n0_; have HB := n1_; have HO206 := n2_; clear n0_ n1_ n2_; clear ho hb hg hat))
                  go_ret
                  exact ⟨_, by first | rfl | (simp [errW_none, errW_some] <;> rfl) | (simp [*, errW_none, errW_some] <;> rfl), by (with_reducible repeat (first | apply Kd.R_alloc | apply Kd.R_drewN | apply Kd.R_drew)); exact Kd.R_mono HO206.out (fun _ hk => trivial), by repeat (first | (with_reducible first | exact HB.out | apply below_alloc | apply pw_below_drewN | apply below_drew1) | exact HB.out)⟩
                · rw [if_neg c22] at H
                  exact absurd H (by simp)
              · rw [if_neg c21] at H
                have c21b0 : decide ((wrap64 (a1)) < 65536) = false := decide_eq_false c21
                clear c21
                obtain ⟨y207, hy207⟩ : ∃ y_ : List Int, y_ = (([(wrap64 (240 + (wrap64 (Int.tdiv (wrap64 (a1)) 262144)))) % 256, (wrap64 (128 + (Int.tmod (wrap64 (Int.tdiv (wrap64 (a1)) 4096)) 64))) % 256, (wrap64 (128 + (Int.tmod (wrap64 (Int.tdiv (wrap64 (a1)) 64)) 64))) % 256, (wrap64 (128 + (Int.tmod (wrap64 (a1)) 64))) % 256] : List Int)) := ⟨_, rfl⟩
                replace H : (if y189.length + y207.length < 140737488355328 then (some (y189 ++ y207)) else (none)) = some r := by first | (rw [hy207]; with_reducible exact H) | (have H2_ := (Option.bind_some _ _).symm.trans H; rw [hy207]; with_reducible exact H2_) | (have H2_ := (Option.bind_some _ _).symm.trans H; with_reducible exact H2_) | with_reducible exact H | (rw [hy207]; exact H) | exact H
                have Ny207 := Aside0.mk hy207
                clear hy207
                by_cases c27 : y189.length + y207.length < 140737488355328
                · rw [if_pos c27] at H
                  have LMc27 := Aside0.mk c27
                  clear c27
                  obtain ⟨y210, hy210⟩ : ∃ y_ : List Int, y_ = (y189 ++ y207) := ⟨_, rfl⟩
                  replace H : (some y210) = some r := by first | (rw [hy210]; with_reducible exact H) | (have H2_ := (Option.bind_some _ _).symm.trans H; rw [hy210]; with_reducible exact H2_) | (have H2_ := (Option.bind_some _ _).symm.trans H; with_reducible exact H2_) | with_reducible exact H | (rw [hy210]; exact H) | exact H
                  have Ny210 := Aside0.mk hy210
                  clear hy210
                  obtain rfl := Option.some.inj H
                  go_wp2_with (first | ((with_reducible refine gate_dst (N := 84) rfl ?_); refine Kd.R_lit (Kd.int .u8) _ 5 ?hg (N := 84) ?hd (xs := ([(wrap64 (240 + (wrap64 (Int.tdiv (wrap64 (a1)) 262144)))) % 256, (wrap64 (128 + (Int.tmod (wrap64 (Int.tdiv (wrap64 (a1)) 4096)) 64))) % 256, (wrap64 (128 + (Int.tmod (wrap64 (Int.tdiv (wrap64 (a1)) 64)) 64))) % 256, (wrap64 (128 + (Int.tmod (wrap64 (a1)) 64))) % 256] : List Int)) (inner := [.int .u8 ((wrap64 (240 + (wrap64 (Int.tdiv (wrap64 (a1)) 262144)))) % 256), .int .u8 ((wrap64 (128 + (Int.tmod (wrap64 (Int.tdiv (wrap64 (a1)) 4096)) 64))) % 256), .int .u8 ((wrap64 (128 + (Int.tmod (wrap64 (Int.tdiv (wrap64 (a1)) 64)) 64))) % 256), .int .u8 ((wrap64 (128 + (Int.tmod (wrap64 (a1)) 64))) % 256)]) (ok := fun _ => True) (okp := fun _ => True) ?hr ?hp (fun _ hk => hk) trivial (Below.refl _ _) (Nat.le_refl _) (by simp) ?_; (case hd => rfl); (case hg => rfl); (case hr => first | (go_simp; done) | (go_simp; rfl)); (case hp => exact (Reps.one (show Kd.M (Kd.int .u8) _ _ _ ((wrap64 (240 + (wrap64 (Int.tdiv (wrap64 (a1)) 262144)))) % 256) [.int .u8 ((wrap64 (240 + (wrap64 (Int.tdiv (wrap64 (a1)) 262144)))) % 256)] from rfl) (Reps.one (show Kd.M (Kd.int .u8) _ _ _ ((wrap64 (128 + (Int.tmod (wrap64 (Int.tdiv (wrap64 (a1)) 4096)) 64))) % 256) [.int .u8 ((wrap64 (128 + (Int.tmod (wrap64 (Int.tdiv (wrap64 (a1)) 4096)) 64))) % 256)] from rfl) (Reps.one (show Kd.M (Kd.int .u8) _ _ _ ((wrap64 (128 + (Int.tmod (wrap64 (Int.tdiv (wrap64 (a1)) 64)) 64))) % 256) [.int .u8 ((wrap64 (128 + (Int.tmod (wrap64 (Int.tdiv (wrap64 (a1)) 64)) 64))) % 256)] from rfl) (Reps.one (show Kd.M (Kd.int .u8) _ _ _ ((wrap64 (128 + (Int.tmod (wrap64 (a1)) 64))) % 256) [.int .u8 ((wrap64 (128 + (Int.tmod (wrap64 (a1)) 64))) % 256)] from rfl) (Reps.none _ _)))))); intro v208 w28 ho29 hb hg_ hnew_; clear hg_ hnew_; (first | rw [← Ny207.out] at ho29 | (simp only [Int.reduceToNat] at ho29; rw [← Ny207.out] at ho29)); have n0_ := Aside0.mk (Kd.R_elder' (by (with_reducible repeat (first | apply Kd.R_alloc | apply Kd.R_drewN | apply Kd.R_drew)); exact HO_5.out) (Kd.R_base ho29) hb); have n1_ := Aside0.mk (Kd.R_lower (Kd.R_new' ho29 (Kd.R_lt (by (with_reducible repeat (first | apply Kd.R_alloc | apply Kd.R_drewN | apply Kd.R_drew)); exact HO_5.out))) (below_size (by repeat (first | (with_reducible first | exact HB.out | apply below_alloc | apply pw_below_drewN | apply below_drew1) | exact HB.out)))); have n2_ := Aside0.mk (below_step (by repeat (first | (with_reducible first | exact HB.out | apply below_alloc | apply pw_below_drewN | apply below_drew1) | exact HB.out)) hb); clear HO_5; clear HB; have HO_5 := n0_; have HO209 := n1_; have HB := n2_; clear n0_ n1_ n2_; clear hb ho29; obtain ⟨Ao31, co31, eo31⟩ := Kd.R_slice HO209.out; subst eo31) | ((with_reducible refine gate_builtin (b := .append) (xs := #[.tmp 65, .tmp 84]) rfl ?_); at_builtin; refine Kd.R_append_rows (Kd.int .u8) (w0 := w) w.heap.size rfl (.tmp 65) (.tmp 84) 39 5 (.int .u8 0) 1 rfl Try.underlying39 info5 rfl (by decide) (by omega) v190 y189 y207 _ _ _ (fun k_ => some k_ ≠ (.slice Ao31 y207.length co31 : Value).ownBlock) (fun _ => False) rfl rfl ?aO ?aR (fun _ _ h => h) (fun _ h => h.elim) ?aF ?aB ?aS ?aL ?_; (case aR => repeat (first | exact (Kd.R_reads' HO209.out).2.2 | (with_reducible refine Kd.C_alloc ?_ _) | (with_reducible refine Kd.C_drewN ?_ _) | (with_reducible refine Kd.C_drew ?_))); (case aB => exact (by repeat (first | (with_reducible first | exact HB.out | apply below_alloc | apply pw_below_drewN | apply below_drew1) | exact HB.out))); (case aF => exact (fun k_ hk => Kd.fresh' (Kd.R_lt (by (with_reducible repeat (first | apply Kd.R_alloc | apply Kd.R_drewN | apply Kd.R_drew)); exact HO209.out)) k_ hk)); (case aO => exact (by (with_reducible repeat (first | apply Kd.R_alloc | apply Kd.R_drewN | apply Kd.R_drew)); exact Kd.R_mono HO_5.out (fun _ hk => hk.2))); (case aS => exact (below_size (by repeat (first | (with_reducible first | exact HB.out | apply below_alloc | apply pw_below_drewN | apply below_drew1) | exact HB.out)))); (case aL => have := LMc27.out; omega); intro v211 w30 ho hb hg hat; rw [← Ny210.out] at ho; have n0_ := Aside0.mk (Kd.R_after (ok := (fun _ => True)) (by (with_reducible repeat (first | apply Kd.R_alloc | apply Kd.R_drewN | apply Kd.R_drew)); exact HO209.out) hg hat); have n1_ := Aside0.mk (hb); have n2_ := Aside0.mk (ho); clear HO209; clear HB; clear HO_5; have HO209 := n0_; have HB := n1_; have HO212 := n2_; clear n0_ n1_ n2_; clear ho hb hg hat))
                  go_ret
                  exact ⟨_, by first | rfl | (simp [errW_none, errW_some] <;> rfl) | (simp [*, errW_none, errW_some] <;> rfl), by (with_reducible repeat (first | apply Kd.R_alloc | apply Kd.R_drewN | apply Kd.R_drew)); exact Kd.R_mono HO212.out (fun _ hk => trivial), by repeat (first | (with_reducible first | exact HB.out | apply below_alloc | apply pw_below_drewN | apply below_drew1) | exact HB.out)⟩
                · rw [if_neg c27] at H
                  exact absurd H (by simp)
  · rw [if_neg c3] at H
    exact absurd H (by simp)

end Go.Proofs.Ytcnkndmegnfofaa.P

namespace Go.Proofs.Ytcnkndmegnfofaa.P
open Go.RowKit Go.Proofs.YtcnkndmegnfofaaW.PrintWords Go.Proofs.YtcnkndmegnfofaaW.PrintLast Go.Proofs.YtcnkndmegnfofaaW.PrintMore
attribute [local go_sem] max2_int min2_int max_two min_two max_three min_three max_four min_four   -- for this text's walks alone
set_option linter.unusedVariables false
set_option linter.unusedSimpArgs false

/-! ### shadowboxref14_Next: function 44 -/
mutual
def shadowboxref14_Next.l0 : Nat → ByteArray → Int → Int → Option (Int × Int)
  | 0, _, _, _ => none
  | k + 1, x0, x4, x5 => if x5 ≤ 4 then (shadowboxref14_Next.j1 k x0 x4 x5 (decide (x5 ≤ (x0.size : Int)))) else (shadowboxref14_Next.j1 k x0 x4 x5 false)
def shadowboxref14_Next.j1 : Nat → ByteArray → Int → Int → Bool → Option (Int × Int)
  | 0, _, _, _, _ => none
  | k + 1, x0, x4, x5, x14 => if x14 = true then (if 0 ≤ (wrap64 (x5 - 1)) then (if (wrap64 (x5 - 1)) < (x0.size : Int) then (if x5 = 1 then (if (wrap64 (bt x0 (wrap64 (x5 - 1)))) ≥ 240 then (shadowboxref14_Next.j2 k x0 (wrap64 ((wrap64 (bt x0 (wrap64 (x5 - 1)))) - 240)) x5) else (if (wrap64 (bt x0 (wrap64 (x5 - 1)))) ≥ 224 then (shadowboxref14_Next.j2 k x0 (wrap64 ((wrap64 (bt x0 (wrap64 (x5 - 1)))) - 224)) x5) else (if (wrap64 (bt x0 (wrap64 (x5 - 1)))) ≥ 192 then (shadowboxref14_Next.j2 k x0 (wrap64 ((wrap64 (bt x0 (wrap64 (x5 - 1)))) - 192)) x5) else (shadowboxref14_Next.j2 k x0 (wrap64 (bt x0 (wrap64 (x5 - 1)))) x5)))) else (shadowboxref14_Next.j2 k x0 (wrap64 ((wrap64 (x4 * 64)) + (Int.tmod (wrap64 ((wrap64 (bt x0 (wrap64 (x5 - 1)))) + 128)) 256))) x5)) else (none)) else (none)) else (some (0, 0))
def shadowboxref14_Next.j2 : Nat → ByteArray → Int → Int → Option (Int × Int)
  | 0, _, _, _ => none
  | k + 1, x0, x4, x5 => if x4 ≤ 1114111 then ((shadowboxref14_Put.f k ([] : List Int) (wrap32 (x4))).bind fun t353 => (if 0 ≤ x5 then (if x5 ≤ (x0.size : Int) then (shadowboxref14_Next.j3 k x0 x4 x5 ((strOfNums t353).toList == (x0.extract 0 (x5 : Int).toNat).toList)) else (none)) else (none))) else (shadowboxref14_Next.j3 k x0 x4 x5 false)
def shadowboxref14_Next.j3 : Nat → ByteArray → Int → Int → Bool → Option (Int × Int)
  | 0, _, _, _, _ => none
  | k + 1, x0, x4, x5, x54 => if x54 = true then (some (wrap32 (x4), x5)) else (shadowboxref14_Next.l0 k x0 x4 (wrap64 (x5 + 1)))
end
def shadowboxref14_Next.f (k : Nat) (a0 : ByteArray) : Option (Int × Int) := shadowboxref14_Next.l0 k a0 0 1
theorem shadowboxref14_Next.mono_l : ∀ k, (∀ y0 y1 y2, LeO (shadowboxref14_Next.l0 k y0 y1 y2) (shadowboxref14_Next.l0 (k + 1) y0 y1 y2)) ∧ (∀ y0 y1 y2 y3, LeO (shadowboxref14_Next.j1 k y0 y1 y2 y3) (shadowboxref14_Next.j1 (k + 1) y0 y1 y2 y3)) ∧ (∀ y0 y1 y2, LeO (shadowboxref14_Next.j2 k y0 y1 y2) (shadowboxref14_Next.j2 (k + 1) y0 y1 y2)) ∧ (∀ y0 y1 y2 y3, LeO (shadowboxref14_Next.j3 k y0 y1 y2 y3) (shadowboxref14_Next.j3 (k + 1) y0 y1 y2 y3))
  | 0 => ⟨fun _ _ _ r h => by simp [shadowboxref14_Next.l0] at h, fun _ _ _ _ r h => by simp [shadowboxref14_Next.j1] at h, fun _ _ _ r h => by simp [shadowboxref14_Next.j2] at h, fun _ _ _ _ r h => by simp [shadowboxref14_Next.j3] at h⟩
  | k + 1 => by
    obtain ⟨ih0, ih1, ih2, ih3⟩ := shadowboxref14_Next.mono_l k
    refine ⟨?_, ?_, ?_, ?_⟩
    · intro y0 y1 y2
      unfold shadowboxref14_Next.l0
      repeat' first
      | (with_reducible exact ih0 _ _ _)
      | (with_reducible exact ih1 _ _ _ _)
      | (with_reducible exact ih2 _ _ _)
      | (with_reducible exact ih3 _ _ _ _)
      | (with_reducible exact shadowboxref14_Put.mono _ _ _)
      | (with_reducible exact LeO.refl _)
      | (with_reducible exact LeO.none _)
      | (with_reducible refine LeO.ite ?_ ?_)
      | (with_reducible refine LeO.bind ?_ (fun _ => ?_))
      | exact ih0 _ _ _
      | exact ih1 _ _ _ _
      | exact ih2 _ _ _
      | exact ih3 _ _ _ _
      | exact shadowboxref14_Put.mono _ _ _
      | exact LeO.none _
      | refine LeO.ite ?_ ?_
      | refine LeO.bind ?_ (fun _ => ?_)
    · intro y0 y1 y2 y3
      unfold shadowboxref14_Next.j1
      repeat' first
      | (with_reducible exact ih0 _ _ _)
      | (with_reducible exact ih1 _ _ _ _)
      | (with_reducible exact ih2 _ _ _)
      | (with_reducible exact ih3 _ _ _ _)
      | (with_reducible exact shadowboxref14_Put.mono _ _ _)
      | (with_reducible exact LeO.refl _)
      | (with_reducible exact LeO.none _)
      | (with_reducible refine LeO.ite ?_ ?_)
      | (with_reducible refine LeO.bind ?_ (fun _ => ?_))
      | exact ih0 _ _ _
      | exact ih1 _ _ _ _
      | exact ih2 _ _ _
      | exact ih3 _ _ _ _
      | exact shadowboxref14_Put.mono _ _ _
      | exact LeO.none _
      | refine LeO.ite ?_ ?_
      | refine LeO.bind ?_ (fun _ => ?_)
    · intro y0 y1 y2
      unfold shadowboxref14_Next.j2
      repeat' first
      | (with_reducible exact ih0 _ _ _)
      | (with_reducible exact ih1 _ _ _ _)
      | (with_reducible exact ih2 _ _ _)
      | (with_reducible exact ih3 _ _ _ _)
      | (with_reducible exact shadowboxref14_Put.mono _ _ _)
      | (with_reducible exact LeO.refl _)
      | (with_reducible exact LeO.none _)
      | (with_reducible refine LeO.ite ?_ ?_)
      | (with_reducible refine LeO.bind ?_ (fun _ => ?_))
      | exact ih0 _ _ _
      | exact ih1 _ _ _ _
      | exact ih2 _ _ _
      | exact ih3 _ _ _ _
      | exact shadowboxref14_Put.mono _ _ _
      | exact LeO.none _
      | refine LeO.ite ?_ ?_
      | refine LeO.bind ?_ (fun _ => ?_)
    · intro y0 y1 y2 y3
      unfold shadowboxref14_Next.j3
      repeat' first
      | (with_reducible exact ih0 _ _ _)
      | (with_reducible exact ih1 _ _ _ _)
      | (with_reducible exact ih2 _ _ _)
      | (with_reducible exact ih3 _ _ _ _)
      | (with_reducible exact shadowboxref14_Put.mono _ _ _)
      | (with_reducible exact LeO.refl _)
      | (with_reducible exact LeO.none _)
      | (with_reducible refine LeO.ite ?_ ?_)
      | (with_reducible refine LeO.bind ?_ (fun _ => ?_))
      | exact ih0 _ _ _
      | exact ih1 _ _ _ _
      | exact ih2 _ _ _
      | exact ih3 _ _ _ _
      | exact shadowboxref14_Put.mono _ _ _
      | exact LeO.none _
      | refine LeO.ite ?_ ?_
      | refine LeO.bind ?_ (fun _ => ?_)
theorem shadowboxref14_Next.mono : ∀ a0 k, LeO (shadowboxref14_Next.f k a0) (shadowboxref14_Next.f (k + 1) a0) := by
  intro a0 k
  obtain ⟨ih0, ih1, ih2, ih3⟩ := shadowboxref14_Next.mono_l k
  unfold shadowboxref14_Next.f
  repeat' first
      | (with_reducible exact ih0 _ _ _)
      | (with_reducible exact ih1 _ _ _ _)
      | (with_reducible exact ih2 _ _ _)
      | (with_reducible exact ih3 _ _ _ _)
      | (with_reducible exact shadowboxref14_Put.mono _ _ _)
      | (with_reducible exact LeO.refl _)
      | (with_reducible exact LeO.none _)
      | (with_reducible refine LeO.ite ?_ ?_)
      | (with_reducible refine LeO.bind ?_ (fun _ => ?_))
      | exact ih0 _ _ _
      | exact ih1 _ _ _ _
      | exact ih2 _ _ _
      | exact ih3 _ _ _ _
      | exact shadowboxref14_Put.mono _ _ _
      | exact LeO.none _
      | refine LeO.ite ?_ ?_
      | refine LeO.bind ?_ (fun _ => ?_)
def shadowboxref14_Next.T15 : Bool × List (List Nat × List Nat) := (true, [([], []), ([0], [0]), ([1], [1]), ([2], [2]), ([3, 2], [2, 3]), ([4, 2, 2], [2, 4]), ([5, 2], [2, 5]), ([2], [2]), ([2], [2]), ([7, 8, 2], [2, 7, 8]), ([6, 9, 2], [2, 6, 9]), ([2, 10], [2, 10])])
def shadowboxref14_Next.B15 : List Nat := [0, 1, 3, 7, 15, 31, 63, 7, 7, 391, 1023, 2047]
theorem shadowboxref14_Next.tab15 : rtab .any (opsOf Try.f44 15) = shadowboxref14_Next.T15 := by kernel_rfl
theorem shadowboxref14_Next.bits15 : waitsOk shadowboxref14_Next.T15.2 shadowboxref14_Next.B15 = true := by kernel_rfl
set_option maxHeartbeats 8000000 in
set_option maxRecDepth 100000 in
theorem shadowboxref14_Next.calls (k : Nat) (a0 : ByteArray) (r1 : Int) (r2 : Int) (w : World) (h : shadowboxref14_Next.f k a0 = some (r1, r2)) :
    Calls Try.prog 44 #[.string a0] w fun e w' => e = .returned (.tuple #[.int .i32 r1, .int .i64 r2]) ∧ Below w.heap.size w w' := by
  have HB := Aside0.mk (Below.refl w.heap.size w)
  have H : (shadowboxref14_Next.l0 k a0 0 1) = some (r1, r2) := h
  clear h
  have H' := Aside0.mk H
  clear H
  go_enter Try.func44, Try.ntmps44
  go_wp2
  go_loopg [4, 5] k (fun kq v4 v5 w' => ∃ (x4_1 : Int) (x5_1 : Int), v4 = .int .i64 x4_1 ∧ v5 = .int .i64 x5_1 ∧ Aside0 (shadowboxref14_Next.l0 kq a0 x4_1 x5_1 = some (r1, r2)) ∧ Aside0 (kq ≤ k) ∧ Aside0 (Below w.heap.size w w'))
  case atStart => exact ⟨(0), (1), (by first | rfl | (simp; done) | (simp [*]; done)), (by first | rfl | (simp; done) | (simp [*]; done)), H', ⟨Nat.le_refl _⟩, ⟨by repeat (first | (with_reducible first | exact HB.out | apply below_alloc | apply pw_below_drewN | apply below_drew1) | exact HB.out)⟩⟩
  case round =>
    clear H'
    obtain ⟨x4_1, x5_1, rfl, rfl, HA, HK1, HB⟩ := hrel
    cases gk with
    | zero => exact absurd HA.out (by simp [shadowboxref14_Next.l0])
    | succ k1 =>
      have H := HA.out
      clear HA
      simp only [shadowboxref14_Next.l0] at H
      have HC2 := Aside0.mk H
      clear H
      go_upto_region 3 with (fail)
      go_cut [14] (fun v14 wc => ∃ (kq : Nat) (x14_1 : Bool), v14 = .bool x14_1 ∧ Aside0 (shadowboxref14_Next.j1 kq a0 x4_1 x5_1 x14_1 = some (r1, r2)) ∧ Aside0 (kq ≤ k1) ∧ Aside0 (Below w.heap.size w wc))
      case first =>
        have H := HC2.out
        clear HC2
        by_cases c3 : x5_1 ≤ 4
        · rw [if_pos c3] at H
          have c3b0 : decide (x5_1 ≤ 4) = true := decide_eq_true c3
          clear c3
          (first | rw [c3b0] | (simp only [i64_w, i32_w]; rw [c3b0]) | skip)
          have H' := Aside0.mk H
          clear H
          go_wp2
          go_meet
          case rel => exact ⟨_, (decide (x5_1 ≤ (a0.size : Int))), (by first | rfl | (simp; done) | (simp [*]; done)), H', ⟨by have := HK1.out; first | omega | exact Nat.le_refl _⟩, ⟨by repeat (first | (with_reducible first | exact HB.out | apply below_alloc | apply pw_below_drewN | apply below_drew1) | exact HB.out)⟩⟩
        · rw [if_neg c3] at H
          have c3b0 : decide (x5_1 ≤ 4) = false := decide_eq_false c3
          clear c3
          (first | rw [c3b0] | (simp only [i64_w, i32_w]; rw [c3b0]) | skip)
          have H' := Aside0.mk H
          clear H
          go_wp2
          go_meet
          case rel => exact ⟨_, (false), (by first | rfl | (simp; done) | (simp [*]; done)), H', ⟨by have := HK1.out; first | omega | exact Nat.le_refl _⟩, ⟨by repeat (first | (with_reducible first | exact HB.out | apply below_alloc | apply pw_below_drewN | apply below_drew1) | exact HB.out)⟩⟩
      case rest =>
        clear HC2
        try clear p2
        try clear c3
        try clear c3b0
        obtain ⟨kq, x14_1, rfl, HA, HJ1, HB⟩ := hcut
        cases kq with
        | zero => exact absurd HA.out (by simp [shadowboxref14_Next.j1])
        | succ kj1 =>
          have H := HA.out
          clear HA
          simp only [shadowboxref14_Next.j1] at H
          by_cases c4 : x14_1 = true
          · subst c4
            have H1 : (if 0 ≤ (wrap64 (x5_1 - 1)) then (if (wrap64 (x5_1 - 1)) < (a0.size : Int) then (if x5_1 = 1 then (if (wrap64 (bt a0 (wrap64 (x5_1 - 1)))) ≥ 240 then (shadowboxref14_Next.j2 kj1 a0 (wrap64 ((wrap64 (bt a0 (wrap64 (x5_1 - 1)))) - 240)) x5_1) else (if (wrap64 (bt a0 (wrap64 (x5_1 - 1)))) ≥ 224 then (shadowboxref14_Next.j2 kj1 a0 (wrap64 ((wrap64 (bt a0 (wrap64 (x5_1 - 1)))) - 224)) x5_1) else (if (wrap64 (bt a0 (wrap64 (x5_1 - 1)))) ≥ 192 then (shadowboxref14_Next.j2 kj1 a0 (wrap64 ((wrap64 (bt a0 (wrap64 (x5_1 - 1)))) - 192)) x5_1) else (shadowboxref14_Next.j2 kj1 a0 (wrap64 (bt a0 (wrap64 (x5_1 - 1)))) x5_1)))) else (shadowboxref14_Next.j2 kj1 a0 (wrap64 ((wrap64 (x4_1 * 64)) + (Int.tmod (wrap64 ((wrap64 (bt a0 (wrap64 (x5_1 - 1)))) + 128)) 256))) x5_1)) else (none)) else (none)) = some (r1, r2) := by rw [if_pos rfl] at H; exact H
            clear H
            have H := H1
            clear H1
            obtain ⟨ji5, hji5⟩ : ∃ j_ : Int, (wrap64 (x5_1 - 1)) = j_ := ⟨_, rfl⟩
            replace H : (if 0 ≤ (ji5) then (if (ji5) < (a0.size : Int) then (if x5_1 = 1 then (if (wrap64 (bt a0 (ji5))) ≥ 240 then (shadowboxref14_Next.j2 kj1 a0 (wrap64 ((wrap64 (bt a0 (ji5))) - 240)) x5_1) else (if (wrap64 (bt a0 (ji5))) ≥ 224 then (shadowboxref14_Next.j2 kj1 a0 (wrap64 ((wrap64 (bt a0 (ji5))) - 224)) x5_1) else (if (wrap64 (bt a0 (ji5))) ≥ 192 then (shadowboxref14_Next.j2 kj1 a0 (wrap64 ((wrap64 (bt a0 (ji5))) - 192)) x5_1) else (shadowboxref14_Next.j2 kj1 a0 (wrap64 (bt a0 (ji5))) x5_1)))) else (shadowboxref14_Next.j2 kj1 a0 (wrap64 ((wrap64 (x4_1 * 64)) + (Int.tmod (wrap64 ((wrap64 (bt a0 (ji5))) + 128)) 256))) x5_1)) else (none)) else (none)) = some (r1, r2) := by first | (rw [hji5] at H; exact H) | (simp only [hji5] at H ⊢; exact H)
            have hji5w : (IntKind.i64.wrap (x5_1 - 1)) = ji5 := (i64_w _).trans hji5
            by_cases c6 : 0 ≤ (ji5)
            · rw [if_pos c6] at H
              have c6b0 : decide (0 ≤ (ji5)) = true := decide_eq_true c6
              clear c6
              by_cases c7 : (ji5) < (a0.size : Int)
              · rw [if_pos c7] at H
                have c7b0 : decide ((ji5) < (a0.size : Int)) = true := decide_eq_true c7
                clear c7
                have HC9 := Aside0.mk H
                clear H
                have p8 : 0 ≤ ((ji5) : Int) := of_decide_eq_true (by first | (with_reducible assumption) | assumption)
                have q8 : (ji5) < (a0.size : Int) := of_decide_eq_true (by first | (with_reducible assumption) | assumption)
                have hx8 := bt_at a0 (ji5)
                replace p8 := eq_true p8
                replace q8 := eq_true q8
                go_upto_if 23 with (fail)
                go_cut [4] (fun v4 wc => ∃ (kq : Nat) (x4_8 : Int), v4 = .int .i64 x4_8 ∧ Aside0 (shadowboxref14_Next.j2 kq a0 x4_8 x5_1 = some (r1, r2)) ∧ Aside0 (kq ≤ kj1) ∧ Aside0 (Below w.heap.size w wc))
                case first =>
                  have H := HC9.out
                  clear HC9
                  by_cases c10 : x5_1 = 1
                  · rw [if_pos c10] at H
                    have c10b0 : (x5_1 == 1) = true := beq_iff_eq.mpr c10
                    have c10b1 : (x5_1 != 1) = false := bne_eq_false_iff_eq.mpr c10
                    clear c10
                    (first | rw [c10b0] | (simp only [i64_w, i32_w]; rw [c10b0]) | skip)
                    by_cases c11 : (wrap64 (bt a0 (ji5))) ≥ 240
                    · rw [if_pos c11] at H
                      have c11b0 : decide (240 ≤ (wrap64 (bt a0 (ji5)))) = true := decide_eq_true c11
                      clear c11
                      have H' := Aside0.mk H
                      clear H
                      go_wp2
                      go_meet
                      case rel => exact ⟨_, (wrap64 ((wrap64 (bt a0 (ji5))) - 240)), (by first | rfl | (simp; done) | (simp only [← hji5] <;> (first | rfl | simp)) | (simp [*]; done)), H', ⟨by have := HK1.out; have := HJ1.out; first | omega | exact Nat.le_refl _⟩, ⟨by repeat (first | (with_reducible first | exact HB.out | apply below_alloc | apply pw_below_drewN | apply below_drew1) | exact HB.out)⟩⟩
                    · rw [if_neg c11] at H
                      have c11b0 : decide (240 ≤ (wrap64 (bt a0 (ji5)))) = false := decide_eq_false c11
                      clear c11
                      by_cases c12 : (wrap64 (bt a0 (ji5))) ≥ 224
                      · rw [if_pos c12] at H
                        have c12b0 : decide (224 ≤ (wrap64 (bt a0 (ji5)))) = true := decide_eq_true c12
                        clear c12
                        have H' := Aside0.mk H
                        clear H
                        go_wp2
                        go_meet
                        case rel => exact ⟨_, (wrap64 ((wrap64 (bt a0 (ji5))) - 224)), (by first | rfl | (simp; done) | (simp only [← hji5] <;> (first | rfl | simp)) | (simp [*]; done)), H', ⟨by have := HK1.out; have := HJ1.out; first | omega | exact Nat.le_refl _⟩, ⟨by repeat (first | (with_reducible first | exact HB.out | apply below_alloc | apply pw_below_drewN | apply below_drew1) | exact HB.out)⟩⟩
                      · rw [if_neg c12] at H
                        have c12b0 : decide (224 ≤ (wrap64 (bt a0 (ji5)))) = false := decide_eq_false c12
                        clear c12
                        by_cases c13 : (wrap64 (bt a0 (ji5))) ≥ 192
                        · rw [if_pos c13] at H
                          have c13b0 : decide (192 ≤ (wrap64 (bt a0 (ji5)))) = true := decide_eq_true c13
                          clear c13
                          have H' := Aside0.mk H
                          clear H
                          go_wp2
                          go_meet
                          case rel => exact ⟨_, (wrap64 ((wrap64 (bt a0 (ji5))) - 192)), (by first | rfl | (simp; done) | (simp only [← hji5] <;> (first | rfl | simp)) | (simp [*]; done)), H', ⟨by have := HK1.out; have := HJ1.out; first | omega | exact Nat.le_refl _⟩, ⟨by repeat (first | (with_reducible first | exact HB.out | apply below_alloc | apply pw_below_drewN | apply below_drew1) | exact HB.out)⟩⟩
                        · rw [if_neg c13] at H
                          have c13b0 : decide (192 ≤ (wrap64 (bt a0 (ji5)))) = false := decide_eq_false c13
                          clear c13
                          have H' := Aside0.mk H
                          clear H
                          go_wp2
                          go_meet
                          case rel => exact ⟨_, (wrap64 (bt a0 (ji5))), (by first | rfl | (simp; done) | (simp only [← hji5] <;> (first | rfl | simp)) | (simp [*]; done)), H', ⟨by have := HK1.out; have := HJ1.out; first | omega | exact Nat.le_refl _⟩, ⟨by repeat (first | (with_reducible first | exact HB.out | apply below_alloc | apply pw_below_drewN | apply below_drew1) | exact HB.out)⟩⟩
                  · rw [if_neg c10] at H
                    have c10b0 : (x5_1 == 1) = false := beq_eq_false_iff_ne.mpr c10
                    have c10b1 : (x5_1 != 1) = true := bne_iff_ne.mpr c10
                    (first | rw [c10b0] | (simp only [i64_w, i32_w]; rw [c10b0]) | skip)
                    have H' := Aside0.mk H
                    clear H
                    go_wp2
                    go_meet
                    case rel => exact ⟨_, (wrap64 ((wrap64 (x4_1 * 64)) + (Int.tmod (wrap64 ((wrap64 (bt a0 (ji5))) + 128)) 256))), (by first | rfl | (simp; done) | (simp only [← hji5] <;> (first | rfl | simp)) | (simp [*]; done)), H', ⟨by have := HK1.out; have := HJ1.out; first | omega | exact Nat.le_refl _⟩, ⟨by repeat (first | (with_reducible first | exact HB.out | apply below_alloc | apply pw_below_drewN | apply below_drew1) | exact HB.out)⟩⟩
                case rest =>
                  clear HC9
                  try clear c1
                  try clear p2
                  try clear c3
                  try clear c3b0
                  try clear c4
                  try clear c6
                  try clear c6b0
                  try clear p6
                  try clear c7
                  try clear c7b0
                  try clear p8
                  try clear q8
                  try clear hx8
                  try clear c10
                  try clear c10b0
                  try clear c10b1
                  try clear c11
                  try clear c11b0
                  try clear c12
                  try clear c12b0
                  try clear c13
                  try clear c13b0
                  try clear p2
                  try clear p8
                  try clear q8
                  obtain ⟨kq, x4_8, rfl, HA, HJ8, HB⟩ := hcut
                  cases kq with
                  | zero => exact absurd HA.out (by simp [shadowboxref14_Next.j2])
                  | succ kj8 =>
                    have H := HA.out
                    clear HA
                    simp only [shadowboxref14_Next.j2] at H
                    have HC14 := Aside0.mk H
                    clear H
                    go_upto_region 15 with (fail)
                    go_cut [54] (fun v54 wc => ∃ (kq : Nat) (x54_13 : Bool), v54 = .bool x54_13 ∧ Aside0 (shadowboxref14_Next.j3 kq a0 x4_8 x5_1 x54_13 = some (r1, r2)) ∧ Aside0 (kq ≤ kj8) ∧ Aside0 (Below w.heap.size w wc))
                    case first =>
                      have H := HC14.out
                      clear HC14
                      by_cases c15 : x4_8 ≤ 1114111
                      · rw [if_pos c15] at H
                        have c15b0 : decide (x4_8 ≤ 1114111) = true := decide_eq_true c15
                        clear c15
                        (first | rw [c15b0] | (simp only [i64_w, i32_w]; rw [c15b0]) | skip)
                        replace H := Option.bind_eq_some_iff.mp H
                        obtain ⟨t353, A160, H⟩ := H
                        replace H : (if 0 ≤ x5_1 then (if x5_1 ≤ (a0.size : Int) then (shadowboxref14_Next.j3 kj8 a0 x4_8 x5_1 ((strOfNums t353).toList == (a0.extract 0 (x5_1 : Int).toNat).toList)) else (none)) else (none)) = some (r1, r2) := H
                        have A16 := Aside0.mk A160
                        clear A160
                        by_cases c17 : 0 ≤ x5_1
                        · rw [if_pos c17] at H
                          have c17b0 := eq_true c17
                          have c17b1 : decide (0 ≤ x5_1) = true := decide_eq_true c17
                          clear c17
                          by_cases c18 : x5_1 ≤ (a0.size : Int)
                          · rw [if_pos c18] at H
                            have c18b0 := eq_true c18
                            have c18b1 : decide (x5_1 ≤ (a0.size : Int)) = true := decide_eq_true c18
                            clear c18
                            have H' := Aside0.mk H
                            clear H
                            try go_wp2
                            have n0_ := Aside0.mk (below_drew1 HB.out)
                            clear HB
                            have HB := n0_
                            clear n0_
                            refine start_ (n := 12) (S := fun w' => True) (ds := []) #[false, false, false, false, false, false, false, false, false, false, false, false] (by kernel_rfl) rfl rfl trivial (fun hHeld => ?_); refine with_tabW shadowboxref14_Next.tab15 shadowboxref14_Next.bits15 (fun HT_ HW_ => ?_)
                            generalize wc.drew = w19 at HB hHeld ⊢
                            refine pure_ (i := 0) (N := some 43) (v := ?_) (a' := ?_) #[true, false, false, false, false, false, false, false, false, false, false, false] rfl rfl (any_of HT_.out (by kernel_rfl)) (fun _ _ _ h => h) (Or.inl ⟨by rfl, ?_⟩) ?_ ?_
                            rotate_left
                            · intro w'
                              go_simp
                              with_reducible rfl
                            rotate_left
                            · simp only [Act.put, List.setIfInBounds_toArray, List.set_cons_zero, List.set_cons_succ, i64_w, i32_w]
                              rfl
                            refine pure_ (i := 1) (N := some 44) (v := ?_) (a' := ?_) #[true, true, false, false, false, false, false, false, false, false, false, false] rfl rfl (any_of HT_.out (by kernel_rfl)) (fun _ _ _ h => h) (Or.inl ⟨by rfl, ?_⟩) ?_ ?_
                            rotate_left
                            · intro w'
                              go_simp
                              with_reducible rfl
                            rotate_left
                            · simp only [Act.put, List.setIfInBounds_toArray, List.set_cons_zero, List.set_cons_succ, i64_w, i32_w]
                              rfl
                            refine pure_ (i := 2) (N := some 45) (v := ?_) (a' := ?_) #[true, true, true, false, false, false, false, false, false, false, false, false] rfl rfl (any_of HT_.out (by kernel_rfl)) (fun _ _ _ h => h) (Or.inl ⟨by rfl, ?_⟩) ?_ ?_
                            rotate_left
                            · intro w'
                              go_simp
                              with_reducible rfl
                            rotate_left
                            · simp only [Act.put, List.setIfInBounds_toArray, List.set_cons_zero, List.set_cons_succ, i64_w, i32_w]
                              rfl
                            refine pure_ (i := 3) (N := some 46) (v := ?_) (a' := ?_) #[true, true, true, true, false, false, false, false, false, false, false, false] rfl rfl (any_of HT_.out (by kernel_rfl)) (fun _ _ _ h => h) (Or.inl ⟨by rfl, ?_⟩) ?_ ?_
                            rotate_left
                            · intro w'
                              go_simp
                              with_reducible rfl
                            rotate_left
                            · simp only [Act.put, List.setIfInBounds_toArray, List.set_cons_zero, List.set_cons_succ, i64_w, i32_w]
                              rfl
                            refine pure_ (i := 4) (N := some 47) (v := ?_) (a' := ?_) #[true, true, true, true, true, false, false, false, false, false, false, false] rfl rfl (any_of HT_.out (by kernel_rfl)) (fun _ _ _ h => h) (Or.inl ⟨by rfl, ?_⟩) ?_ ?_
                            rotate_left
                            · intro w'
                              go_simp
                              with_reducible rfl
                            rotate_left
                            · simp only [Act.put, List.setIfInBounds_toArray, List.set_cons_zero, List.set_cons_succ, i64_w, i32_w]
                              rfl
                            refine pure_ (i := 7) (N := some 50) (v := ?_) (a' := ?_) #[true, true, true, true, true, false, false, true, false, false, false, false] rfl rfl (any_of HT_.out (by kernel_rfl)) (fun _ _ _ h => h) (Or.inl ⟨by rfl, ?_⟩) ?_ ?_
                            rotate_left
                            · intro w'
                              go_simp
                              with_reducible rfl
                            rotate_left
                            · simp only [Act.put, List.setIfInBounds_toArray, List.set_cons_zero, List.set_cons_succ, i64_w, i32_w]
                              rfl
                            refine pure_ (i := 8) (N := some 51) (v := ?_) (a' := ?_) #[true, true, true, true, true, false, false, true, true, false, false, false] rfl rfl (any_of HT_.out (by kernel_rfl)) (fun _ _ _ h => h) (Or.inl ⟨by rfl, ?_⟩) ?_ ?_
                            rotate_left
                            · intro w'
                              go_simp
                              with_reducible rfl
                            rotate_left
                            · simp only [Act.put, List.setIfInBounds_toArray, List.set_cons_zero, List.set_cons_succ, i64_w, i32_w]
                              rfl
                            refine pure_ (i := 9) (N := some 52) (v := ?_) (a' := ?_) #[true, true, true, true, true, false, false, true, true, true, false, false] rfl rfl (any_of HT_.out (by kernel_rfl)) (fun _ _ _ h => h) (Or.inl ⟨by rfl, ?_⟩) ?_ ?_
                            rotate_left
                            · intro w'
                              go_simp
                              with_reducible rfl
                            rotate_left
                            · simp only [Act.put, List.setIfInBounds_toArray, List.set_cons_zero, List.set_cons_succ, i64_w, i32_w]
                              rfl
                            refine one_ (i := 5) (N := some 48) #[true, true, true, true, true, true, false, true, true, true, false, false] rfl rfl (one_of HT_.out (by kernel_rfl)) (by decide) (fun K hK => ?_)
                            refine goes_ Try.func22 (by kernel_rfl) rfl #[.slice none 0 0, .int .i32 (wrap32 (x4_8))] (by rfl) rfl rfl (by (try simp only [List.map_toArray, List.map_cons, List.map_nil]); first | done | rfl | (simp only [List.length_drop, List.length_take]; rfl)) ?_
                            refine (shadowboxref14_Put.calls kj8 _ _ ([] : List Int) (wrap32 (x4_8)) t353 _ ?side1 ?side2 A16.out).mono ?_
                            (case side1 => exact Kd.C_nil _ _)
                            (case side2 => exact Nat.le_refl _)
                            rintro e w20 ⟨v354, rfl, ho0, hb⟩
                            refine ⟨_, rfl, ?_⟩
                            have n0_ := Aside0.mk (Kd.R_lower ho0 (below_size (by repeat (first | (with_reducible first | exact HB.out | apply below_alloc | apply pw_below_drewN | apply below_drew1) | exact HB.out))))
                            have n1_ := Aside0.mk (below_step (by repeat (first | (with_reducible first | exact HB.out | apply below_alloc | apply pw_below_drewN | apply below_drew1) | exact HB.out)) hb)
                            clear HB
                            have HO355 := n0_
                            have HB := n1_
                            clear n0_ n1_
                            (try clear hb)
                            (try clear hb2)
                            (try clear hk)
                            (try clear hi)
                            (try clear ho0)
                            refine hK.out _ _ trivial (fun hHeld => ?_)
                            clear hK K
                            refine norm_ (a' := ?_) ?_ ?_
                            rotate_left
                            · show Act.put _ (some 48) _ = _
                              simp only [Act.put, List.setIfInBounds_toArray, List.set_cons_zero, List.set_cons_succ, i64_w, i32_w]
                              rfl
                            refine one_ (i := 6) (N := some 49) #[true, true, true, true, true, true, true, true, true, true, false, false] rfl rfl (one_of HT_.out (by kernel_rfl)) (by decide) (fun K hK => ?_)
                            have hcv21 := own_string (P := Try.prog) Try.underlying39 Try.underlying5 Try.underlying9 (Kd.own_of_R HO355.out)
                            refine value_ (w1 := ?_) (v := ?_) (by rfl) rfl ?_ ?_
                            rotate_left 2
                            · go_simp
                              constructor
                              · rfl
                              · rfl
                            clear hcv21
                            refine hK.out _ _ trivial (fun hHeld => ?_)
                            clear hK K
                            refine norm_ (a' := ?_) ?_ ?_
                            rotate_left
                            · show Act.put _ (some 49) _ = _
                              simp only [Act.put, List.setIfInBounds_toArray, List.set_cons_zero, List.set_cons_succ, i64_w, i32_w]
                              rfl
                            refine pure_ (i := 10) (N := some 53) (v := ?_) (a' := ?_) #[true, true, true, true, true, true, true, true, true, true, true, false] rfl rfl (any_of HT_.out (by kernel_rfl)) (fun _ _ _ h => h) (Or.inl ⟨by rfl, ?_⟩) ?_ ?_
                            rotate_left
                            · intro w'
                              go_simp
                              with_reducible rfl
                            rotate_left
                            · simp only [Act.put, List.setIfInBounds_toArray, List.set_cons_zero, List.set_cons_succ, i64_w, i32_w]
                              rfl
                            refine pure_ (i := 11) (N := some 54) (v := ?_) (a' := ?_) #[true, true, true, true, true, true, true, true, true, true, true, true] rfl rfl (any_of HT_.out (by kernel_rfl)) (fun _ _ _ h => h) (Or.inl ⟨by rfl, ?_⟩) ?_ ?_
                            rotate_left
                            · intro w'
                              go_simp
                              with_reducible rfl
                            rotate_left
                            · simp only [Act.put, List.setIfInBounds_toArray, List.set_cons_zero, List.set_cons_succ, i64_w, i32_w]
                              rfl
                            refine done_ (done_of HT_.out (by kernel_rfl)) ?_
                            try go_wp2
                            go_meet
                            case rel => exact ⟨_, (((strOfNums t353).toList == (a0.extract 0 (x5_1 : Int).toNat).toList)), (by first | rfl | (simp; done) | (simp [*]; done)), H', ⟨by have := HK1.out; have := HJ1.out; have := HJ8.out; first | omega | exact Nat.le_refl _⟩, ⟨by repeat (first | (with_reducible first | exact HB.out | apply below_alloc | apply pw_below_drewN | apply below_drew1) | exact HB.out)⟩⟩
                          · rw [if_neg c18] at H
                            exact absurd H (by simp)
                        · rw [if_neg c17] at H
                          exact absurd H (by simp)
                      · rw [if_neg c15] at H
                        have c15b0 : decide (x4_8 ≤ 1114111) = false := decide_eq_false c15
                        clear c15
                        (first | rw [c15b0] | (simp only [i64_w, i32_w]; rw [c15b0]) | skip)
                        have H' := Aside0.mk H
                        clear H
                        try go_wp2
                        have n0_ := Aside0.mk (below_drew1 HB.out)
                        clear HB
                        have HB := n0_
                        clear n0_
                        refine start_ (n := 12) (S := fun w' => True) (ds := []) #[false, false, false, false, false, false, false, false, false, false, false, false] (by kernel_rfl) rfl rfl trivial (fun hHeld => ?_); refine with_tabW shadowboxref14_Next.tab15 shadowboxref14_Next.bits15 (fun HT_ HW_ => ?_)
                        generalize wc.drew = w22 at HB hHeld ⊢
                        refine pure_ (i := 0) (N := some 43) (v := ?_) (a' := ?_) #[true, false, false, false, false, false, false, false, false, false, false, false] rfl rfl (any_of HT_.out (by kernel_rfl)) (fun _ _ _ h => h) (Or.inl ⟨by rfl, ?_⟩) ?_ ?_
                        rotate_left
                        · intro w'
                          go_simp
                          with_reducible rfl
                        rotate_left
                        · simp only [Act.put, List.setIfInBounds_toArray, List.set_cons_zero, List.set_cons_succ, i64_w, i32_w]
                          rfl
                        refine pure_ (i := 1) (N := some 44) (v := ?_) (a' := ?_) #[true, true, false, false, false, false, false, false, false, false, false, false] rfl rfl (any_of HT_.out (by kernel_rfl)) (fun _ _ _ h => h) (Or.inl ⟨by rfl, ?_⟩) ?_ ?_
                        rotate_left
                        · intro w'
                          go_simp
                          with_reducible rfl
                        rotate_left
                        · simp only [Act.put, List.setIfInBounds_toArray, List.set_cons_zero, List.set_cons_succ, i64_w, i32_w]
                          rfl
                        refine pure_ (i := 2) (N := some 45) (v := ?_) (a' := ?_) #[true, true, true, false, false, false, false, false, false, false, false, false] rfl rfl (any_of HT_.out (by kernel_rfl)) (fun _ _ _ h => h) (Or.inl ⟨by rfl, ?_⟩) ?_ ?_
                        rotate_left
                        · intro w'
                          go_simp
                          with_reducible rfl
                        rotate_left
                        · simp only [Act.put, List.setIfInBounds_toArray, List.set_cons_zero, List.set_cons_succ, i64_w, i32_w]
                          rfl
                        refine pure_ (i := 3) (N := some 46) (v := undef) (a' := ?_) #[true, true, true, true, false, false, false, false, false, false, false, false] rfl rfl (any_of HT_.out (by kernel_rfl)) (fun _ _ _ h => h) (Or.inr ⟨by rfl, rfl⟩) ?_ ?_
                        rotate_left
                        · simp only [Act.put, List.setIfInBounds_toArray, List.set_cons_zero, List.set_cons_succ, i64_w, i32_w]
                          rfl
                        refine pure_ (i := 4) (N := some 47) (v := undef) (a' := ?_) #[true, true, true, true, true, false, false, false, false, false, false, false] rfl rfl (any_of HT_.out (by kernel_rfl)) (fun _ _ _ h => h) (Or.inr ⟨by rfl, rfl⟩) ?_ ?_
                        rotate_left
                        · simp only [Act.put, List.setIfInBounds_toArray, List.set_cons_zero, List.set_cons_succ, i64_w, i32_w]
                          rfl
                        refine pure_ (i := 5) (N := some 48) (v := undef) (a' := ?_) #[true, true, true, true, true, true, false, false, false, false, false, false] rfl rfl (any_of HT_.out (by kernel_rfl)) (fun _ _ _ h => h) (Or.inr ⟨by rfl, rfl⟩) ?_ ?_
                        rotate_left
                        · simp only [Act.put, List.setIfInBounds_toArray, List.set_cons_zero, List.set_cons_succ, i64_w, i32_w]
                          rfl
                        refine pure_ (i := 6) (N := some 49) (v := undef) (a' := ?_) #[true, true, true, true, true, true, true, false, false, false, false, false] rfl rfl (any_of HT_.out (by kernel_rfl)) (fun _ _ _ h => h) (Or.inr ⟨by rfl, rfl⟩) ?_ ?_
                        rotate_left
                        · simp only [Act.put, List.setIfInBounds_toArray, List.set_cons_zero, List.set_cons_succ, i64_w, i32_w]
                          rfl
                        refine pure_ (i := 7) (N := some 50) (v := undef) (a' := ?_) #[true, true, true, true, true, true, true, true, false, false, false, false] rfl rfl (any_of HT_.out (by kernel_rfl)) (fun _ _ _ h => h) (Or.inr ⟨by rfl, rfl⟩) ?_ ?_
                        rotate_left
                        · simp only [Act.put, List.setIfInBounds_toArray, List.set_cons_zero, List.set_cons_succ, i64_w, i32_w]
                          rfl
                        refine pure_ (i := 8) (N := some 51) (v := undef) (a' := ?_) #[true, true, true, true, true, true, true, true, true, false, false, false] rfl rfl (any_of HT_.out (by kernel_rfl)) (fun _ _ _ h => h) (Or.inr ⟨by rfl, rfl⟩) ?_ ?_
                        rotate_left
                        · simp only [Act.put, List.setIfInBounds_toArray, List.set_cons_zero, List.set_cons_succ, i64_w, i32_w]
                          rfl
                        refine pure_ (i := 9) (N := some 52) (v := undef) (a' := ?_) #[true, true, true, true, true, true, true, true, true, true, false, false] rfl rfl (any_of HT_.out (by kernel_rfl)) (fun _ _ _ h => h) (Or.inr ⟨by rfl, rfl⟩) ?_ ?_
                        rotate_left
                        · simp only [Act.put, List.setIfInBounds_toArray, List.set_cons_zero, List.set_cons_succ, i64_w, i32_w]
                          rfl
                        refine pure_ (i := 10) (N := some 53) (v := undef) (a' := ?_) #[true, true, true, true, true, true, true, true, true, true, true, false] rfl rfl (any_of HT_.out (by kernel_rfl)) (fun _ _ _ h => h) (Or.inr ⟨by rfl, rfl⟩) ?_ ?_
                        rotate_left
                        · simp only [Act.put, List.setIfInBounds_toArray, List.set_cons_zero, List.set_cons_succ, i64_w, i32_w]
                          rfl
                        refine pure_ (i := 11) (N := some 54) (v := ?_) (a' := ?_) #[true, true, true, true, true, true, true, true, true, true, true, true] rfl rfl (any_of HT_.out (by kernel_rfl)) (fun _ _ _ h => h) (Or.inl ⟨by rfl, ?_⟩) ?_ ?_
                        rotate_left
                        · intro w'
                          go_simp
                          with_reducible rfl
                        rotate_left
                        · simp only [Act.put, List.setIfInBounds_toArray, List.set_cons_zero, List.set_cons_succ, i64_w, i32_w]
                          rfl
                        refine done_ (done_of HT_.out (by kernel_rfl)) ?_
                        try go_wp2
                        go_meet
                        case rel => exact ⟨_, (false), (by first | rfl | (simp; done) | (simp [*]; done)), H', ⟨by have := HK1.out; have := HJ1.out; have := HJ8.out; first | omega | exact Nat.le_refl _⟩, ⟨by repeat (first | (with_reducible first | exact HB.out | apply below_alloc | apply pw_below_drewN | apply below_drew1) | exact HB.out)⟩⟩
                    case rest =>
                      clear HC14
                      try clear c1
                      try clear c2
                      try clear p2
                      try clear hcv2
                      try clear c3
                      try clear c3b0
                      try clear p3
                      try clear c4
                      try clear c6
                      try clear c6b0
                      try clear p6
                      try clear c7
                      try clear c7b0
                      try clear p8
                      try clear q8
                      try clear hx8
                      try clear c10
                      try clear c10b0
                      try clear c10b1
                      try clear c11
                      try clear c11b0
                      try clear c12
                      try clear c12b0
                      try clear c13
                      try clear c13b0
                      try clear c15
                      try clear c15b0
                      try clear c17
                      try clear c17b0
                      try clear c17b1
                      try clear c18
                      try clear c18b0
                      try clear c18b1
                      try clear hcv21
                      try clear c22
                      try clear p2
                      try clear p6
                      try clear p8
                      try clear q8
                      obtain ⟨kq, x54_13, rfl, HA, HJ13, HB⟩ := hcut
                      cases kq with
                      | zero => exact absurd HA.out (by simp [shadowboxref14_Next.j3])
                      | succ kj13 =>
                        have H := HA.out
                        clear HA
                        simp only [shadowboxref14_Next.j3] at H
                        by_cases c23 : x54_13 = true
                        · subst c23
                          have H1 : (some (wrap32 (x4_8), x5_1)) = some (r1, r2) := by rw [if_pos rfl] at H; exact H
                          clear H
                          have H := H1
                          clear H1
                          simp only [Option.some.injEq, Prod.mk.injEq] at H
                          obtain ⟨rfl, rfl⟩ := H
                          go_wp2
                          go_ret2
                          exact ⟨by first | rfl | (simp [errW_none, errW_some] <;> rfl) | (simp only [← hji5]; first | rfl | (simp [errW_none, errW_some] <;> rfl)) | (simp [*, errW_none, errW_some] <;> rfl), by repeat (first | (with_reducible first | exact HB.out | apply below_alloc | apply pw_below_drewN | apply below_drew1) | exact HB.out)⟩
                        · replace c23 := Bool.eq_false_iff.mpr c23
                          subst c23
                          have H1 : (shadowboxref14_Next.l0 kj13 a0 x4_8 (wrap64 (x5_1 + 1))) = some (r1, r2) := by rw [if_neg (show ¬ (false = true) by decide)] at H; exact H
                          clear H
                          have H := H1
                          clear H1
                          have H' := Aside0.mk H
                          clear H
                          go_wp2
                          go_roundg kj13
                          case measure => have := HK1.out; have := HJ1.out; have := HJ8.out; have := HJ13.out; omega
                          case rel => exact ⟨(x4_8), (wrap64 (x5_1 + 1)), (by first | rfl | (simp; done) | (simp [*]; done)), (by first | rfl | (simp; done) | (simp [*]; done)), H', ⟨by have := HK1.out; have := HJ1.out; have := HJ8.out; have := HJ13.out; omega⟩, ⟨by repeat (first | (with_reducible first | exact HB.out | apply below_alloc | apply pw_below_drewN | apply below_drew1) | exact HB.out)⟩⟩
              · rw [if_neg c7] at H
                exact absurd H (by simp)
            · rw [if_neg c6] at H
              exact absurd H (by simp)
          · replace c4 := Bool.eq_false_iff.mpr c4
            subst c4
            have H1 : (some (0, 0)) = some (r1, r2) := by rw [if_neg (show ¬ (false = true) by decide)] at H; exact H
            clear H
            have H := H1
            clear H1
            simp only [Option.some.injEq, Prod.mk.injEq] at H
            obtain ⟨rfl, rfl⟩ := H
            go_wp2
            go_ret2
            exact ⟨by first | rfl | (simp [errW_none, errW_some] <;> rfl) | (simp [*, errW_none, errW_some] <;> rfl), by repeat (first | (with_reducible first | exact HB.out | apply below_alloc | apply pw_below_drewN | apply below_drew1) | exact HB.out)⟩

end Go.Proofs.Ytcnkndmegnfofaa.P

namespace Go.Proofs.Ytcnkndmegnfofaa.P
open Go.RowKit Go.Proofs.YtcnkndmegnfofaaW.PrintWords Go.Proofs.YtcnkndmegnfofaaW.PrintLast Go.Proofs.YtcnkndmegnfofaaW.PrintMore
attribute [local go_sem] max2_int min2_int max_two min_two max_three min_three max_four min_four   -- for this text's walks alone
set_option linter.unusedVariables false
set_option linter.unusedSimpArgs false

/-! ### shadowboxref14_Count: function 46 -/
def shadowboxref14_Count.l0 : Nat → ByteArray → Int → Option (Int)
  | 0, _, _ => none
  | k + 1, x0, x3 => if (x0.size : Int) > 0 then ((shadowboxref14_Next.f k x0).bind fun bt359 => (if bt359.2 = 0 then (some (-1)) else (if 0 ≤ bt359.2 then (if bt359.2 ≤ (x0.size : Int) then (shadowboxref14_Count.l0 k (x0.extract (bt359.2 : Int).toNat x0.size) (wrap64 (x3 + 1))) else (none)) else (none)))) else (some x3)
def shadowboxref14_Count.f (k : Nat) (a0 : ByteArray) : Option (Int) := shadowboxref14_Count.l0 k a0 0
theorem shadowboxref14_Count.mono_l : ∀ k, (∀ y0 y1, LeO (shadowboxref14_Count.l0 k y0 y1) (shadowboxref14_Count.l0 (k + 1) y0 y1))
  | 0 => fun _ _ r h => by simp [shadowboxref14_Count.l0] at h
  | k + 1 => by
    have ih0 := shadowboxref14_Count.mono_l k
    · intro y0 y1
      unfold shadowboxref14_Count.l0
      repeat' first
      | (with_reducible exact ih0 _ _)
      | (with_reducible exact shadowboxref14_Next.mono _ _)
      | (with_reducible exact LeO.refl _)
      | (with_reducible exact LeO.none _)
      | (with_reducible refine LeO.ite ?_ ?_)
      | (with_reducible refine LeO.bind ?_ (fun _ => ?_))
      | exact ih0 _ _
      | exact shadowboxref14_Next.mono _ _
      | exact LeO.none _
      | refine LeO.ite ?_ ?_
      | refine LeO.bind ?_ (fun _ => ?_)
theorem shadowboxref14_Count.mono : ∀ a0 k, LeO (shadowboxref14_Count.f k a0) (shadowboxref14_Count.f (k + 1) a0) := by
  intro a0 k
  have ih0 := shadowboxref14_Count.mono_l k
  unfold shadowboxref14_Count.f
  repeat' first
      | (with_reducible exact ih0 _ _)
      | (with_reducible exact shadowboxref14_Next.mono _ _)
      | (with_reducible exact LeO.refl _)
      | (with_reducible exact LeO.none _)
      | (with_reducible refine LeO.ite ?_ ?_)
      | (with_reducible refine LeO.bind ?_ (fun _ => ?_))
      | exact ih0 _ _
      | exact shadowboxref14_Next.mono _ _
      | exact LeO.none _
      | refine LeO.ite ?_ ?_
      | refine LeO.bind ?_ (fun _ => ?_)
set_option maxHeartbeats 8000000 in
set_option maxRecDepth 100000 in
theorem shadowboxref14_Count.calls (k : Nat) (a0 : ByteArray) (r : Int) (w : World) (h : shadowboxref14_Count.f k a0 = some r) :
    Calls Try.prog 46 #[.string a0] w fun e w' => e = .returned (.int .i64 r) ∧ Below w.heap.size w w' := by
  have HB := Aside0.mk (Below.refl w.heap.size w)
  have H : (shadowboxref14_Count.l0 k a0 0) = some r := h
  clear h
  have H' := Aside0.mk H
  clear H
  go_enter Try.func46, Try.ntmps46
  go_wp2
  go_loopg [0, 3] k (fun kq v0 v3 w' => ∃ (x0_1 : ByteArray) (x3_1 : Int), v0 = .string x0_1 ∧ v3 = .int .i64 x3_1 ∧ Aside0 (shadowboxref14_Count.l0 kq x0_1 x3_1 = some r) ∧ Aside0 (kq ≤ k) ∧ Aside0 (Below w.heap.size w w'))
  case atStart => exact ⟨(a0), (0), (by first | rfl | (simp; done) | (simp [*]; done)), (by first | rfl | (simp; done) | (simp [*]; done)), H', ⟨Nat.le_refl _⟩, ⟨by repeat (first | (with_reducible first | exact HB.out | apply below_alloc | apply pw_below_drewN | apply below_drew1) | exact HB.out)⟩⟩
  case round =>
    clear H'
    obtain ⟨x0_1, x3_1, rfl, rfl, HA, HK1, HB⟩ := hrel
    cases gk with
    | zero => exact absurd HA.out (by simp [shadowboxref14_Count.l0])
    | succ k1 =>
      have H := HA.out
      clear HA
      simp only [shadowboxref14_Count.l0] at H
      by_cases c2 : (x0_1.size : Int) > 0
      · rw [if_pos c2] at H
        have c2b0 : decide (0 < (x0_1.size : Int)) = true := decide_eq_true c2
        have c2b1 : decide (0 < x0_1.size) = true := decide_eq_true (by omega)
        clear c2
        replace H := Option.bind_eq_some_iff.mp H
        obtain ⟨⟨t359, t360⟩, A30, H⟩ := H
        replace H : (if t360 = 0 then (some (-1)) else (if 0 ≤ t360 then (if t360 ≤ (x0_1.size : Int) then (shadowboxref14_Count.l0 k1 (x0_1.extract (t360 : Int).toNat x0_1.size) (wrap64 (x3_1 + 1))) else (none)) else (none))) = some r := H
        have A3 := Aside0.mk A30
        clear A30
        by_cases c4 : t360 = 0
        · rw [if_pos c4] at H
          have c4b0 : (t360 == 0) = true := beq_iff_eq.mpr c4
          have c4b1 : (t360 != 0) = false := bne_eq_false_iff_eq.mpr c4
          clear c4
          obtain rfl := Option.some.inj H
          go_wp2_with (first | ((with_reducible refine gate_callee (f := 44) rfl ?_); refine goesL_ (some 11) rfl rfl Try.func44 (by kernel_rfl) rfl #[.string x0_1] rfl (by (try simp only [List.map_toArray, List.map_cons, List.map_nil]); first | done | rfl | (simp only [List.length_drop, List.length_take]; rfl)) ?_; (with_reducible refine (shadowboxref14_Next.calls k1 x0_1 t359 t360 _ A3.out).mono ?_); rintro e w5 ⟨rfl, hb⟩; refine ⟨_, rfl, ?_⟩; have n0_ := Aside0.mk (below_step (by repeat (first | (with_reducible first | exact HB.out | apply below_alloc | apply pw_below_drewN | apply below_drew1) | exact HB.out)) hb); clear HB; have HB := n0_; clear n0_; (try clear hb); (try clear hb2); (try clear hk); (try clear hi)))
          go_ret
          exact ⟨by first | rfl | (simp [errW_none, errW_some] <;> rfl) | (simp [*, errW_none, errW_some] <;> rfl), by repeat (first | (with_reducible first | exact HB.out | apply below_alloc | apply pw_below_drewN | apply below_drew1) | exact HB.out)⟩
        · rw [if_neg c4] at H
          have c4b0 : (t360 == 0) = false := beq_eq_false_iff_ne.mpr c4
          have c4b1 : (t360 != 0) = true := bne_iff_ne.mpr c4
          by_cases c6 : 0 ≤ t360
          · rw [if_pos c6] at H
            have c6b0 := eq_true c6
            have c6b1 : decide (0 ≤ t360) = true := decide_eq_true c6
            clear c6
            by_cases c7 : t360 ≤ (x0_1.size : Int)
            · rw [if_pos c7] at H
              have c7b0 := eq_true c7
              have c7b1 : decide (t360 ≤ (x0_1.size : Int)) = true := decide_eq_true c7
              clear c7
              have H' := Aside0.mk H
              clear H
              go_wp2_with (first | ((with_reducible refine gate_callee (f := 44) rfl ?_); refine goesL_ (some 11) rfl rfl Try.func44 (by kernel_rfl) rfl #[.string x0_1] rfl (by (try simp only [List.map_toArray, List.map_cons, List.map_nil]); first | done | rfl | (simp only [List.length_drop, List.length_take]; rfl)) ?_; (with_reducible refine (shadowboxref14_Next.calls k1 x0_1 t359 t360 _ A3.out).mono ?_); rintro e w8 ⟨rfl, hb⟩; refine ⟨_, rfl, ?_⟩; have n0_ := Aside0.mk (below_step (by repeat (first | (with_reducible first | exact HB.out | apply below_alloc | apply pw_below_drewN | apply below_drew1) | exact HB.out)) hb); clear HB; have HB := n0_; clear n0_; (try clear hb); (try clear hb2); (try clear hk); (try clear hi)))
              go_roundg k1
              case measure => have := HK1.out; omega
              case rel => exact ⟨(x0_1.extract (t360 : Int).toNat x0_1.size), (wrap64 (x3_1 + 1)), (by first | rfl | (simp; done) | (simp [*]; done)), (by first | rfl | (simp; done) | (simp [*]; done)), H', ⟨by have := HK1.out; omega⟩, ⟨by repeat (first | (with_reducible first | exact HB.out | apply below_alloc | apply pw_below_drewN | apply below_drew1) | exact HB.out)⟩⟩
            · rw [if_neg c7] at H
              exact absurd H (by simp)
          · rw [if_neg c6] at H
            exact absurd H (by simp)
      · rw [if_neg c2] at H
        have c2b0 : decide (0 < (x0_1.size : Int)) = false := decide_eq_false c2
        have c2b1 : decide (0 < x0_1.size) = false := decide_eq_false (by omega)
        clear c2
        obtain rfl := Option.some.inj H
        go_wp2
        go_ret
        exact ⟨by first | rfl | (simp [errW_none, errW_some] <;> rfl) | (simp [*, errW_none, errW_some] <;> rfl), by repeat (first | (with_reducible first | exact HB.out | apply below_alloc | apply pw_below_drewN | apply below_drew1) | exact HB.out)⟩

end Go.Proofs.Ytcnkndmegnfofaa.P

namespace Go.Proofs.Ytcnkndmegnfofaa.P
open Go.RowKit Go.Proofs.YtcnkndmegnfofaaW.PrintWords Go.Proofs.YtcnkndmegnfofaaW.PrintLast Go.Proofs.YtcnkndmegnfofaaW.PrintMore
attribute [local go_sem] max2_int min2_int max_two min_two max_three min_three max_four min_four   -- for this text's walks alone
set_option linter.unusedVariables false
set_option linter.unusedSimpArgs false

/-! ### shadowboxref14_Clean: function 49 -/
def shadowboxref14_Clean.l0 : Nat → ByteArray → List Int → Option (ByteArray)
  | 0, _, _ => none
  | k + 1, x0, x3 => if (x0.size : Int) > 0 then ((shadowboxref14_Next.f k x0).bind fun bt369 => (if bt369.2 = 0 then ((some (([239, 191, 189] : List Int) : List Int)).bind fun y371 => (if x3.length + y371.length < 140737488355328 then (if 1 ≤ (x0.size : Int) then (shadowboxref14_Clean.l0 k (x0.extract 1 x0.size) (x3 ++ y371)) else (none)) else (none))) else (if 0 ≤ bt369.2 then (if bt369.2 ≤ (x0.size : Int) then (if x3.length + (x0.extract 0 (bt369.2 : Int).toNat).size < 140737488355328 then (shadowboxref14_Clean.l0 k (x0.extract (bt369.2 : Int).toNat x0.size) (x3 ++ bytesOf (x0.extract 0 (bt369.2 : Int).toNat))) else (none)) else (none)) else (none)))) else (some (strOfNums x3))
def shadowboxref14_Clean.f (k : Nat) (a0 : ByteArray) : Option (ByteArray) := shadowboxref14_Clean.l0 k a0 ([] : List Int)
theorem shadowboxref14_Clean.mono_l : ∀ k, (∀ y0 y1, LeO (shadowboxref14_Clean.l0 k y0 y1) (shadowboxref14_Clean.l0 (k + 1) y0 y1))
  | 0 => fun _ _ r h => by simp [shadowboxref14_Clean.l0] at h
  | k + 1 => by
    have ih0 := shadowboxref14_Clean.mono_l k
    · intro y0 y1
      unfold shadowboxref14_Clean.l0
      repeat' first
      | (with_reducible exact ih0 _ _)
      | (with_reducible exact shadowboxref14_Next.mono _ _)
      | (with_reducible exact LeO.refl _)
      | (with_reducible exact LeO.none _)
      | (with_reducible refine LeO.ite ?_ ?_)
      | (with_reducible refine LeO.bind ?_ (fun _ => ?_))
      | exact ih0 _ _
      | exact shadowboxref14_Next.mono _ _
      | exact LeO.none _
      | refine LeO.ite ?_ ?_
      | refine LeO.bind ?_ (fun _ => ?_)
theorem shadowboxref14_Clean.mono : ∀ a0 k, LeO (shadowboxref14_Clean.f k a0) (shadowboxref14_Clean.f (k + 1) a0) := by
  intro a0 k
  have ih0 := shadowboxref14_Clean.mono_l k
  unfold shadowboxref14_Clean.f
  repeat' first
      | (with_reducible exact ih0 _ _)
      | (with_reducible exact shadowboxref14_Next.mono _ _)
      | (with_reducible exact LeO.refl _)
      | (with_reducible exact LeO.none _)
      | (with_reducible refine LeO.ite ?_ ?_)
      | (with_reducible refine LeO.bind ?_ (fun _ => ?_))
      | exact ih0 _ _
      | exact shadowboxref14_Next.mono _ _
      | exact LeO.none _
      | refine LeO.ite ?_ ?_
      | refine LeO.bind ?_ (fun _ => ?_)
set_option maxHeartbeats 8000000 in
set_option maxRecDepth 100000 in
theorem shadowboxref14_Clean.calls (k : Nat) (a0 : ByteArray) (r : ByteArray) (w : World) (h : shadowboxref14_Clean.f k a0 = some r) :
    Calls Try.prog 49 #[.string a0] w fun e w' => e = .returned (.string r) ∧ Below w.heap.size w w' := by
  have HB := Aside0.mk (Below.refl w.heap.size w)
  have H : (shadowboxref14_Clean.l0 k a0 ([] : List Int)) = some r := h
  clear h
  have H' := Aside0.mk H
  clear H
  go_enter Try.func49, Try.ntmps49
  go_wp2
  go_loopg [0, 3] k (fun kq v0 v3 w' => ∃ (x0_1 : ByteArray) (x3_1 : List Int), v0 = .string x0_1 ∧ Aside0 (shadowboxref14_Clean.l0 kq x0_1 x3_1 = some r) ∧ Aside0 (kq ≤ k) ∧ Aside0 (Kd.R (Kd.int .u8) 5 w' w.heap.size (fun _ => True) v3 x3_1) ∧ Aside0 (Below w.heap.size w w'))
  case atStart => exact ⟨(a0), (([] : List Int)), (by first | rfl | (simp; done) | (simp [*]; done)), H', ⟨Nat.le_refl _⟩, ⟨by first | exact Kd.R_nil _ _ _ _ _ | exact Kd.N_nil _ _ _ _ _ | exact Kd.V_nil _ _ _ _ _ | exact Kd.Q_nil _ _ _ _ _ | exact Kd.S_nil _ _ _ _ _⟩, ⟨by repeat (first | (with_reducible first | exact HB.out | apply below_alloc | apply pw_below_drewN | apply below_drew1) | exact HB.out)⟩⟩
  case round =>
    clear H'
    obtain ⟨x0_1, x3_1, rfl, HA, HK1, HO_3, HB⟩ := hrel
    cases gk with
    | zero => exact absurd HA.out (by simp [shadowboxref14_Clean.l0])
    | succ k1 =>
      have H := HA.out
      clear HA
      simp only [shadowboxref14_Clean.l0] at H
      by_cases c2 : (x0_1.size : Int) > 0
      · rw [if_pos c2] at H
        have c2b0 : decide (0 < (x0_1.size : Int)) = true := decide_eq_true c2
        have c2b1 : decide (0 < x0_1.size) = true := decide_eq_true (by omega)
        clear c2
        replace H := Option.bind_eq_some_iff.mp H
        obtain ⟨⟨t369, t370⟩, A30, H⟩ := H
        replace H : (if t370 = 0 then ((some (([239, 191, 189] : List Int) : List Int)).bind fun y371 => (if x3_1.length + y371.length < 140737488355328 then (if 1 ≤ (x0_1.size : Int) then (shadowboxref14_Clean.l0 k1 (x0_1.extract 1 x0_1.size) (x3_1 ++ y371)) else (none)) else (none))) else (if 0 ≤ t370 then (if t370 ≤ (x0_1.size : Int) then (if x3_1.length + (x0_1.extract 0 (t370 : Int).toNat).size < 140737488355328 then (shadowboxref14_Clean.l0 k1 (x0_1.extract (t370 : Int).toNat x0_1.size) (x3_1 ++ bytesOf (x0_1.extract 0 (t370 : Int).toNat))) else (none)) else (none)) else (none))) = some r := H
        have A3 := Aside0.mk A30
        clear A30
        by_cases c4 : t370 = 0
        · rw [if_pos c4] at H
          have c4b0 : (t370 == 0) = true := beq_iff_eq.mpr c4
          have c4b1 : (t370 != 0) = false := bne_eq_false_iff_eq.mpr c4
          clear c4
          obtain ⟨y371, hy371⟩ : ∃ y_ : List Int, y_ = (([239, 191, 189] : List Int)) := ⟨_, rfl⟩
          replace H : (if x3_1.length + y371.length < 140737488355328 then (if 1 ≤ (x0_1.size : Int) then (shadowboxref14_Clean.l0 k1 (x0_1.extract 1 x0_1.size) (x3_1 ++ y371)) else (none)) else (none)) = some r := by first | (rw [hy371]; with_reducible exact H) | (have H2_ := (Option.bind_some _ _).symm.trans H; rw [hy371]; with_reducible exact H2_) | (have H2_ := (Option.bind_some _ _).symm.trans H; with_reducible exact H2_) | with_reducible exact H | (rw [hy371]; exact H) | exact H
          have Ny371 := Aside0.mk hy371
          clear hy371
          by_cases c5 : x3_1.length + y371.length < 140737488355328
          · rw [if_pos c5] at H
            have LMc5 := Aside0.mk c5
            clear c5
            obtain ⟨y374, hy374⟩ : ∃ y_ : List Int, y_ = (x3_1 ++ y371) := ⟨_, rfl⟩
            replace H : (if 1 ≤ (x0_1.size : Int) then (shadowboxref14_Clean.l0 k1 (x0_1.extract 1 x0_1.size) y374) else (none)) = some r := by first | (rw [hy374]; with_reducible exact H) | (have H2_ := (Option.bind_some _ _).symm.trans H; rw [hy374]; with_reducible exact H2_) | (have H2_ := (Option.bind_some _ _).symm.trans H; with_reducible exact H2_) | with_reducible exact H | (rw [hy374]; exact H) | exact H
            have Ny374 := Aside0.mk hy374
            clear hy374
            by_cases c6 : 1 ≤ (x0_1.size : Int)
            · rw [if_pos c6] at H
              have c6b0 := eq_true c6
              have c6b1 : decide (1 ≤ (x0_1.size : Int)) = true := decide_eq_true c6
              clear c6
              have H' := Aside0.mk H
              clear H
              go_wp2_with (first | ((with_reducible refine gate_callee (f := 44) rfl ?_); refine goesL_ (some 11) rfl rfl Try.func44 (by kernel_rfl) rfl #[.string x0_1] rfl (by (try simp only [List.map_toArray, List.map_cons, List.map_nil]); first | done | rfl | (simp only [List.length_drop, List.length_take]; rfl)) ?_; (with_reducible refine (shadowboxref14_Next.calls k1 x0_1 t369 t370 _ A3.out).mono ?_); rintro e w7 ⟨rfl, hb⟩; refine ⟨_, rfl, ?_⟩; have n0_ := Aside0.mk (Kd.R_below (by (with_reducible repeat (first | apply Kd.R_alloc | apply Kd.R_drewN | apply Kd.R_drew)); exact HO_3.out) hb); have n1_ := Aside0.mk (below_step (by repeat (first | (with_reducible first | exact HB.out | apply below_alloc | apply pw_below_drewN | apply below_drew1) | exact HB.out)) hb); clear HO_3; clear HB; have HO_3 := n0_; have HB := n1_; clear n0_ n1_; (try clear hb); (try clear hb2); (try clear hk); (try clear hi)) | ((with_reducible refine gate_dst (N := 17) rfl ?_); refine Kd.R_lit (Kd.int .u8) _ 5 ?hg (N := 17) ?hd (xs := ([239, 191, 189] : List Int)) (inner := [.int .u8 239, .int .u8 191, .int .u8 189]) (ok := fun _ => True) (okp := fun _ => True) ?hr ?hp (fun _ hk => hk) trivial (Below.refl _ _) (Nat.le_refl _) (by simp) ?_; (case hd => rfl); (case hg => rfl); (case hr => first | (go_simp; done) | (go_simp; rfl)); (case hp => exact (Reps.one (show Kd.M (Kd.int .u8) _ _ _ 239 [.int .u8 239] from rfl) (Reps.one (show Kd.M (Kd.int .u8) _ _ _ 191 [.int .u8 191] from rfl) (Reps.one (show Kd.M (Kd.int .u8) _ _ _ 189 [.int .u8 189] from rfl) (Reps.none _ _))))); intro v372 w8 ho9 hb hg_ hnew_; clear hg_ hnew_; (first | rw [← Ny371.out] at ho9 | (simp only [Int.reduceToNat] at ho9; rw [← Ny371.out] at ho9)); have n0_ := Aside0.mk (Kd.R_elder' (by (with_reducible repeat (first | apply Kd.R_alloc | apply Kd.R_drewN | apply Kd.R_drew)); exact HO_3.out) (Kd.R_base ho9) hb); have n1_ := Aside0.mk (Kd.R_lower (Kd.R_new' ho9 (Kd.R_lt (by (with_reducible repeat (first | apply Kd.R_alloc | apply Kd.R_drewN | apply Kd.R_drew)); exact HO_3.out))) (below_size (by repeat (first | (with_reducible first | exact HB.out | apply below_alloc | apply pw_below_drewN | apply below_drew1) | exact HB.out)))); have n2_ := Aside0.mk (below_step (by repeat (first | (with_reducible first | exact HB.out | apply below_alloc | apply pw_below_drewN | apply below_drew1) | exact HB.out)) hb); clear HO_3; clear HB; have HO_3 := n0_; have HO373 := n1_; have HB := n2_; clear n0_ n1_ n2_; clear hb ho9; obtain ⟨Ao11, co11, eo11⟩ := Kd.R_slice HO373.out; subst eo11) | ((with_reducible refine gate_builtin (b := .append) (xs := #[.tmp 16, .tmp 17]) rfl ?_); at_builtin; refine Kd.R_append_rows (Kd.int .u8) (w0 := w) w.heap.size rfl (.tmp 16) (.tmp 17) 39 5 (.int .u8 0) 1 rfl Try.underlying39 info5 rfl (by decide) (by omega) u3 x3_1 y371 _ _ _ (fun k_ => some k_ ≠ (.slice Ao11 y371.length co11 : Value).ownBlock) (fun _ => False) rfl rfl ?aO ?aR (fun _ _ h => h) (fun _ h => h.elim) ?aF ?aB ?aS ?aL ?_; (case aR => repeat (first | exact (Kd.R_reads' HO373.out).2.2 | (with_reducible refine Kd.C_alloc ?_ _) | (with_reducible refine Kd.C_drewN ?_ _) | (with_reducible refine Kd.C_drew ?_))); (case aB => exact (by repeat (first | (with_reducible first | exact HB.out | apply below_alloc | apply pw_below_drewN | apply below_drew1) | exact HB.out))); (case aF => exact (fun k_ hk => Kd.fresh' (Kd.R_lt (by (with_reducible repeat (first | apply Kd.R_alloc | apply Kd.R_drewN | apply Kd.R_drew)); exact HO373.out)) k_ hk)); (case aO => exact (by (with_reducible repeat (first | apply Kd.R_alloc | apply Kd.R_drewN | apply Kd.R_drew)); exact Kd.R_mono HO_3.out (fun _ hk => hk.2))); (case aS => exact (below_size (by repeat (first | (with_reducible first | exact HB.out | apply below_alloc | apply pw_below_drewN | apply below_drew1) | exact HB.out)))); (case aL => have := LMc5.out; omega); intro v375 w10 ho hb hg hat; rw [← Ny374.out] at ho; have n0_ := Aside0.mk (Kd.R_after (ok := (fun _ => True)) (by (with_reducible repeat (first | apply Kd.R_alloc | apply Kd.R_drewN | apply Kd.R_drew)); exact HO373.out) hg hat); have n1_ := Aside0.mk (hb); have n2_ := Aside0.mk (ho); clear HO373; clear HB; clear HO_3; have HO373 := n0_; have HB := n1_; have HO376 := n2_; clear n0_ n1_ n2_; clear ho hb hg hat))
              go_roundg k1
              case measure => have := HK1.out; omega
              case rel => exact ⟨(x0_1.extract 1 x0_1.size), (y374), (by first | rfl | (simp; done) | (simp [*]; done)), H', ⟨by have := HK1.out; omega⟩, ⟨by (with_reducible repeat (first | apply Kd.R_alloc | apply Kd.R_drewN | apply Kd.R_drew)); exact Kd.R_mono HO376.out (fun _ hk => trivial)⟩, ⟨by repeat (first | (with_reducible first | exact HB.out | apply below_alloc | apply pw_below_drewN | apply below_drew1) | exact HB.out)⟩⟩
            · rw [if_neg c6] at H
              exact absurd H (by simp)
          · rw [if_neg c5] at H
            exact absurd H (by simp)
        · rw [if_neg c4] at H
          have c4b0 : (t370 == 0) = false := beq_eq_false_iff_ne.mpr c4
          have c4b1 : (t370 != 0) = true := bne_iff_ne.mpr c4
          by_cases c12 : 0 ≤ t370
          · rw [if_pos c12] at H
            have c12b0 := eq_true c12
            have c12b1 : decide (0 ≤ t370) = true := decide_eq_true c12
            clear c12
            by_cases c13 : t370 ≤ (x0_1.size : Int)
            · rw [if_pos c13] at H
              have c13b0 := eq_true c13
              have c13b1 : decide (t370 ≤ (x0_1.size : Int)) = true := decide_eq_true c13
              clear c13
              by_cases c14 : x3_1.length + (x0_1.extract 0 (t370 : Int).toNat).size < 140737488355328
              · rw [if_pos c14] at H
                have LMc14 := Aside0.mk c14
                clear c14
                obtain ⟨y377, hy377⟩ : ∃ y_ : List Int, y_ = (x3_1 ++ bytesOf (x0_1.extract 0 (t370 : Int).toNat)) := ⟨_, rfl⟩
                replace H : (shadowboxref14_Clean.l0 k1 (x0_1.extract (t370 : Int).toNat x0_1.size) y377) = some r := by first | (rw [hy377]; with_reducible exact H) | (have H2_ := (Option.bind_some _ _).symm.trans H; rw [hy377]; with_reducible exact H2_) | (have H2_ := (Option.bind_some _ _).symm.trans H; with_reducible exact H2_) | with_reducible exact H | (rw [hy377]; exact H) | exact H
                have Ny377 := Aside0.mk hy377
                clear hy377
                have c15b0 := eq_true (of_decide_eq_true (by first | (with_reducible assumption) | assumption) : 0 ≤ t370)
                have c16b0 := eq_true (of_decide_eq_true (by first | (with_reducible assumption) | assumption) : t370 ≤ (x0_1.size : Int))
                have H' := Aside0.mk H
                clear H
                go_wp2_with (first | ((with_reducible refine gate_callee (f := 44) rfl ?_); refine goesL_ (some 11) rfl rfl Try.func44 (by kernel_rfl) rfl #[.string x0_1] rfl (by (try simp only [List.map_toArray, List.map_cons, List.map_nil]); first | done | rfl | (simp only [List.length_drop, List.length_take]; rfl)) ?_; (with_reducible refine (shadowboxref14_Next.calls k1 x0_1 t369 t370 _ A3.out).mono ?_); rintro e w17 ⟨rfl, hb⟩; refine ⟨_, rfl, ?_⟩; have n0_ := Aside0.mk (Kd.R_below (by (with_reducible repeat (first | apply Kd.R_alloc | apply Kd.R_drewN | apply Kd.R_drew)); exact HO_3.out) hb); have n1_ := Aside0.mk (below_step (by repeat (first | (with_reducible first | exact HB.out | apply below_alloc | apply pw_below_drewN | apply below_drew1) | exact HB.out)) hb); clear HO_3; clear HB; have HO_3 := n0_; have HB := n1_; clear n0_ n1_; (try clear hb); (try clear hb2); (try clear hk); (try clear hi)) | (at_builtin; refine print_append_str (w0 := w) w.heap.size rfl (.tmp 19) _ 39 9 5 rfl Try.underlying39 Try.underlying9 info5 u3 x3_1 (x0_1.extract 0 (t370 : Int).toNat) rfl rfl ?aO ?aB ?aS ?aL ?_; (case aB => exact (by repeat (first | (with_reducible first | exact HB.out | apply below_alloc | apply pw_below_drewN | apply below_drew1) | exact HB.out))); (case aO => exact (Kd.own_of_R (by (with_reducible repeat (first | apply Kd.R_alloc | apply Kd.R_drewN | apply Kd.R_drew)); exact HO_3.out))); (case aS => exact (below_size (by repeat (first | (with_reducible first | exact HB.out | apply below_alloc | apply pw_below_drewN | apply below_drew1) | exact HB.out)))); (case aL => have := LMc14.out; omega); intro v378 w18 ho0 hb hg; have ho := Kd.R_of_own (h1 := fun _ => rfl) (ok := fun _ => True) ho0 (fun _ _ => trivial); clear ho0; have hat := True.intro; rw [← Ny377.out] at ho; change Kd.R (Kd.int .u8) 5 w18 w.heap.size (fun _ => True) v378 y377 at ho; have n0_ := Aside0.mk (hb); have n1_ := Aside0.mk (ho); clear HB; clear HO_3; have HB := n0_; have HO379 := n1_; clear n0_ n1_; clear ho hb hg hat))
                go_roundg k1
                case measure => have := HK1.out; omega
                case rel => exact ⟨(x0_1.extract (t370 : Int).toNat x0_1.size), (y377), (by first | rfl | (simp; done) | (simp [*]; done)), H', ⟨by have := HK1.out; omega⟩, ⟨by (with_reducible repeat (first | apply Kd.R_alloc | apply Kd.R_drewN | apply Kd.R_drew)); exact HO379.out⟩, ⟨by repeat (first | (with_reducible first | exact HB.out | apply below_alloc | apply pw_below_drewN | apply below_drew1) | exact HB.out)⟩⟩
              · rw [if_neg c14] at H
                exact absurd H (by simp)
            · rw [if_neg c13] at H
              exact absurd H (by simp)
          · rw [if_neg c12] at H
            exact absurd H (by simp)
      · rw [if_neg c2] at H
        have c2b0 : decide (0 < (x0_1.size : Int)) = false := decide_eq_false c2
        have c2b1 : decide (0 < x0_1.size) = false := decide_eq_false (by omega)
        clear c2
        obtain rfl := Option.some.inj H
        have hcv19 := own_string (P := Try.prog) Try.underlying39 Try.underlying5 Try.underlying9 (Kd.own_of_R HO_3.out)
        go_wp2
        go_ret
        exact ⟨by first | rfl | (simp [errW_none, errW_some] <;> rfl) | (simp [*, errW_none, errW_some] <;> rfl), by repeat (first | (with_reducible first | exact HB.out | apply below_alloc | apply pw_below_drewN | apply below_drew1) | exact HB.out)⟩

end Go.Proofs.Ytcnkndmegnfofaa.P

/- Characters: what the functions of utf, and the reference's, come to. -/
namespace Go.Proofs.Ytcnkndmegnfofaa.P
open Go.RowKit Go.Proofs.YtcnkndmegnfofaaW.PrintWords Go.Proofs.YtcnkndmegnfofaaW.PrintLast Go.Proofs.YtcnkndmegnfofaaW.PrintMore
set_option linter.unusedVariables false
set_option linter.unusedSimpArgs false

def rightU (c : Int) : Prop := 0 ≤ c ∧ c ≤ 1114111 ∧ (c < 55296 ∨ 57343 < c)
instance (c : Int) : Decidable (rightU c) := by unfold rightU; exact inferInstance
/-- A character's bytes. -/
def putU (c : Int) : List Int :=
  if ¬ rightU c then [] else if c < 128 then [c] else if c < 2048 then [192 + c / 64, 128 + c % 64]
  else if c < 65536 then [224 + c / 4096, 128 + c / 64 % 64, 128 + c % 64]
  else [240 + c / 262144, 128 + c / 4096 % 64, 128 + c / 64 % 64, 128 + c % 64]
def lenU (a : Int) : Nat := if a < 128 then 1 else if a < 192 then 0 else if a < 224 then 2 else if a < 240 then 3 else if a < 248 then 4 else 0
def leadU (n : Nat) : Int := if n = 1 then 0 else if n = 2 then 192 else if n = 3 then 224 else 240
def finU (n : Nat) (c : Int) : Int × Int := if rightU c ∧ utfSize c = (n : Int) then (c, (n : Int)) else (0, 0)
def contU (n : Nat) : Int → List Int → Nat → Int × Int
  | c, _, 0 => finU n c
  | c, b :: r, m + 1 => if 128 ≤ b ∧ b ≤ 191 then contU n (c * 64 + b % 64) r m else (0, 0)
  | _, [], _ + 1 => (0, 0)
/-- The character that bytes begin with, and how many bytes it has. -/
def nextU : List Int → Int × Int
  | [] => (0, 0)
  | a :: r => if lenU a = 0 ∨ lenU a > (a :: r).length then (0, 0) else contU (lenU a) (a - leadU (lenU a)) r (lenU a - 1)

theorem putU_1 {c : Int} (h : rightU c) (h1 : c < 128) : putU c = [c] := by unfold putU; rw [if_neg (fun e => e h), if_pos h1]
theorem putU_2 {c : Int} (h : rightU c) (h0 : 128 ≤ c) (h1 : c < 2048) : putU c = [192 + c / 64, 128 + c % 64] := by unfold putU; rw [if_neg (fun e => e h), if_neg (by omega), if_pos h1]
theorem putU_3 {c : Int} (h : rightU c) (h0 : 2048 ≤ c) (h1 : c < 65536) : putU c = [224 + c / 4096, 128 + c / 64 % 64, 128 + c % 64] := by unfold putU; rw [if_neg (fun e => e h), if_neg (by omega), if_neg (by omega), if_pos h1]
theorem putU_4 {c : Int} (h : rightU c) (h0 : 65536 ≤ c) : putU c = [240 + c / 262144, 128 + c / 4096 % 64, 128 + c / 64 % 64, 128 + c % 64] := by unfold putU; rw [if_neg (fun e => e h), if_neg (by omega), if_neg (by omega), if_neg (by omega)]
theorem putU_no {c : Int} (h : ¬ rightU c) : putU c = [] := by unfold putU; rw [if_pos h]
theorem size_1 {c : Int} (h : c < 128) : utfSize c = 1 := by unfold utfSize; rw [if_pos h]
theorem size_2 {c : Int} (h0 : 128 ≤ c) (h : c < 2048) : utfSize c = 2 := by unfold utfSize; rw [if_neg (by omega), if_pos h]
theorem size_3 {c : Int} (h0 : 2048 ≤ c) (h : c < 65536) : utfSize c = 3 := by unfold utfSize; rw [if_neg (by omega), if_neg (by omega), if_pos h]
theorem size_4 {c : Int} (h0 : 65536 ≤ c) : utfSize c = 4 := by unfold utfSize; rw [if_neg (by omega), if_neg (by omega), if_neg (by omega)]
theorem len_1 {a : Int} (h : a < 128) : lenU a = 1 := by unfold lenU; rw [if_pos h]
theorem len_2 {a : Int} (h0 : 192 ≤ a) (h : a < 224) : lenU a = 2 := by unfold lenU; rw [if_neg (by omega), if_neg (by omega), if_pos h]
theorem len_3 {a : Int} (h0 : 224 ≤ a) (h : a < 240) : lenU a = 3 := by unfold lenU; rw [if_neg (by omega), if_neg (by omega), if_neg (by omega), if_pos h]
theorem len_4 {a : Int} (h0 : 240 ≤ a) (h : a < 248) : lenU a = 4 := by unfold lenU; rw [if_neg (by omega), if_neg (by omega), if_neg (by omega), if_neg (by omega), if_pos h]
theorem len_0 {a : Int} (h : (128 ≤ a ∧ a < 192) ∨ 248 ≤ a) : lenU a = 0 := by
  unfold lenU
  rcases h with h | h
  · rw [if_neg (by omega), if_pos (by omega)]
  · rw [if_neg (by omega), if_neg (by omega), if_neg (by omega), if_neg (by omega), if_neg (by omega)]
theorem contU_step {n m : Nat} {c b : Int} {r : List Int} (h : 128 ≤ b ∧ b ≤ 191) : contU n c (b :: r) (m + 1) = contU n (c * 64 + b % 64) r m := by rw [contU, if_pos h]
theorem contU_no {n m : Nat} {c b : Int} {r : List Int} (h : ¬ (128 ≤ b ∧ b ≤ 191)) : contU n c (b :: r) (m + 1) = (0, 0) := by rw [contU, if_neg h]
theorem contU_fin {n : Nat} {c : Int} {r : List Int} : contU n c r 0 = finU n c := by cases r <;> rw [contU]

/-- What is put is next, whatever stands behind it. -/
theorem next_put {c : Int} (h : rightU c) (rest : List Int) : nextU (putU c ++ rest) = (c, ((putU c).length : Int)) := by
  obtain ⟨h0, h1, h2⟩ := id h
  rcases (show c < 128 ∨ (128 ≤ c ∧ c < 2048) ∨ (2048 ≤ c ∧ c < 65536) ∨ 65536 ≤ c by omega) with a | ⟨a, b⟩ | ⟨a, b⟩ | a
  · rw [putU_1 h a]
    show nextU (c :: rest) = (c, 1)
    rw [nextU, len_1 a, if_neg (by simp), contU_fin, finU]
    rw [show c - leadU 1 = c by unfold leadU; rw [if_pos rfl]; omega, if_pos ⟨h, size_1 a⟩]
    rfl
  · rw [putU_2 h a b]
    show nextU ((192 + c / 64) :: (128 + c % 64) :: rest) = (c, 2)
    rw [nextU, len_2 (by omega) (by omega), if_neg (by simp)]
    rw [contU_step (by omega), contU_fin, finU, show (192 + c / 64 - leadU 2) * 64 + (128 + c % 64) % 64 = c by unfold leadU; rw [if_neg (by omega), if_pos rfl]; omega, if_pos ⟨h, size_2 a b⟩]
    rfl
  · rw [putU_3 h a b]
    show nextU ((224 + c / 4096) :: (128 + c / 64 % 64) :: (128 + c % 64) :: rest) = (c, 3)
    rw [nextU, len_3 (by omega) (by omega), if_neg (by simp)]
    rw [contU_step (by omega), contU_step (by omega), contU_fin, finU, show ((224 + c / 4096 - leadU 3) * 64 + (128 + c / 64 % 64) % 64) * 64 + (128 + c % 64) % 64 = c by unfold leadU; rw [if_neg (by omega), if_neg (by omega), if_pos rfl]; omega, if_pos ⟨h, size_3 a b⟩]
    rfl
  · rw [putU_4 h a]
    show nextU ((240 + c / 262144) :: (128 + c / 4096 % 64) :: (128 + c / 64 % 64) :: (128 + c % 64) :: rest) = (c, 4)
    rw [nextU, len_4 (by omega) (by omega), if_neg (by simp)]
    rw [contU_step (by omega), contU_step (by omega), contU_step (by omega), contU_fin, finU, show (((240 + c / 262144 - leadU 4) * 64 + (128 + c / 4096 % 64) % 64) * 64 + (128 + c / 64 % 64) % 64) * 64 + (128 + c % 64) % 64 = c by unfold leadU; rw [if_neg (by omega), if_neg (by omega), if_neg (by omega)]; omega, if_pos ⟨h, size_4 a⟩]
    rfl
theorem finU_some {n : Nat} {c x k : Int} (h : finU n c = (x, k)) (hk : k ≠ 0) : x = c ∧ k = n ∧ rightU c ∧ utfSize c = n := by
  unfold finU at h
  by_cases h1 : rightU c ∧ utfSize c = (n : Int)
  · rw [if_pos h1] at h
    simp only [Prod.mk.injEq] at h
    exact ⟨h.1.symm, h.2.symm, h1.1, h1.2⟩
  · rw [if_neg h1] at h
    simp only [Prod.mk.injEq] at h
    exact absurd h.2.symm hk
/-- What is next has been put. -/
theorem put_next : ∀ (l : List Int) (c k : Int), Bytes l → nextU l = (c, k) → k ≠ 0 → rightU c ∧ k = ((putU c).length : Int) ∧ ∃ rest, l = putU c ++ rest
  | [], c, k, hb, h, hk => by rw [nextU] at h; simp only [Prod.mk.injEq] at h; exact absurd h.2.symm hk
  | a :: r, c, k, hb, h, hk => by
    have ha := hb.head
    rw [nextU] at h
    by_cases h0 : lenU a = 0 ∨ lenU a > (a :: r).length
    · rw [if_pos h0] at h; simp only [Prod.mk.injEq] at h; exact absurd h.2.symm hk
    rw [if_neg h0] at h
    have z : ∀ (P : Prop), ((0 : Int), (0 : Int)) = (c, k) → P := fun P e => by simp only [Prod.mk.injEq] at e; exact absurd e.2.symm hk
    rcases (show a < 128 ∨ (192 ≤ a ∧ a < 224) ∨ (224 ≤ a ∧ a < 240) ∨ (240 ≤ a ∧ a < 248) ∨ ((128 ≤ a ∧ a < 192) ∨ 248 ≤ a) by omega) with e | ⟨e1, e2⟩ | ⟨e1, e2⟩ | ⟨e1, e2⟩ | e
    · rw [len_1 e, contU_fin] at h
      obtain ⟨rfl, rfl, hr, hs⟩ := finU_some h hk
      have el : a - leadU 1 = a := by unfold leadU; rw [if_pos rfl]; omega
      rw [el] at hr ⊢
      exact ⟨hr, by rw [putU_1 hr e]; rfl, r, by rw [putU_1 hr e]; rfl⟩
    · rw [len_2 e1 e2] at h h0
      match r, h, h0, hb with
      | [], h, h0, hb => exact absurd (show (2 : Nat) > 1 by omega) (fun q => h0 (.inr q))
      | b :: r, h, h0, hb =>
        have hbb := hb.tail.head
        by_cases hc : 128 ≤ b ∧ b ≤ 191
        · rw [contU_step hc, contU_fin] at h
          obtain ⟨rfl, rfl, hr, hs⟩ := finU_some h hk
          have el : (a - leadU 2) * 64 + b % 64 = (a - 192) * 64 + (b - 128) := by unfold leadU; rw [if_neg (by omega), if_pos rfl]; omega
          rw [el] at hr hs ⊢
          have hlo : 128 ≤ (a - 192) * 64 + (b - 128) := by
            rcases Int.lt_or_le ((a - 192) * 64 + (b - 128)) 128 with q | q
            · rw [size_1 q] at hs; omega
            · exact q
          have hp := putU_2 hr hlo (by omega)
          rw [hp]
          exact ⟨hr, rfl, r, by show _ = _ :: _ :: r; congr 1; omega; congr 1; omega⟩
        · rw [contU_no hc] at h; exact z _ h
    · rw [len_3 e1 e2] at h h0
      match r, h, h0, hb with
      | [], h, h0, hb => exact absurd (show (3 : Nat) > 1 by omega) (fun q => h0 (.inr q))
      | [b], h, h0, hb => exact absurd (show (3 : Nat) > 2 by omega) (fun q => h0 (.inr q))
      | b :: d :: r, h, h0, hb =>
        have hbb := hb.tail.head
        have hdd := hb.tail.tail.head
        by_cases hc : 128 ≤ b ∧ b ≤ 191
        · rw [contU_step hc] at h
          by_cases hd : 128 ≤ d ∧ d ≤ 191
          · rw [contU_step hd, contU_fin] at h
            obtain ⟨rfl, rfl, hr, hs⟩ := finU_some h hk
            have el : ((a - leadU 3) * 64 + b % 64) * 64 + d % 64 = (a - 224) * 4096 + (b - 128) * 64 + (d - 128) := by unfold leadU; rw [if_neg (by omega), if_neg (by omega), if_pos rfl]; omega
            rw [el] at hr hs ⊢
            have hlo : 2048 ≤ (a - 224) * 4096 + (b - 128) * 64 + (d - 128) := by
              rcases Int.lt_or_le ((a - 224) * 4096 + (b - 128) * 64 + (d - 128)) 2048 with q | q
              · rcases Int.lt_or_le ((a - 224) * 4096 + (b - 128) * 64 + (d - 128)) 128 with q1 | q1
                · rw [size_1 q1] at hs; omega
                · rw [size_2 q1 q] at hs; omega
              · exact q
            have hp := putU_3 hr hlo (by omega)
            rw [hp]
            exact ⟨hr, rfl, r, by show _ = _ :: _ :: _ :: r; congr 1; omega; congr 1; omega; congr 1; omega⟩
          · rw [contU_no hd] at h; exact z _ h
        · rw [contU_no hc] at h; exact z _ h
    · rw [len_4 e1 e2] at h h0
      match r, h, h0, hb with
      | [], h, h0, hb => exact absurd (show (4 : Nat) > 1 by omega) (fun q => h0 (.inr q))
      | [b], h, h0, hb => exact absurd (show (4 : Nat) > 2 by omega) (fun q => h0 (.inr q))
      | [b, d], h, h0, hb => exact absurd (show (4 : Nat) > 3 by omega) (fun q => h0 (.inr q))
      | b :: d :: f :: r, h, h0, hb =>
        have hbb := hb.tail.head
        have hdd := hb.tail.tail.head
        have hff := hb.tail.tail.tail.head
        by_cases hc : 128 ≤ b ∧ b ≤ 191
        · rw [contU_step hc] at h
          by_cases hd : 128 ≤ d ∧ d ≤ 191
          · rw [contU_step hd] at h
            by_cases hf : 128 ≤ f ∧ f ≤ 191
            · rw [contU_step hf, contU_fin] at h
              obtain ⟨rfl, rfl, hr, hs⟩ := finU_some h hk
              have el : (((a - leadU 4) * 64 + b % 64) * 64 + d % 64) * 64 + f % 64 = (a - 240) * 262144 + (b - 128) * 4096 + (d - 128) * 64 + (f - 128) := by unfold leadU; rw [if_neg (by omega), if_neg (by omega), if_neg (by omega)]; omega
              rw [el] at hr hs ⊢
              generalize hv : (a - 240) * 262144 + (b - 128) * 4096 + (d - 128) * 64 + (f - 128) = v at hr hs ⊢
              have hlo : 65536 ≤ v := by
                rcases Int.lt_or_le v 65536 with q | q
                · rcases Int.lt_or_le v 2048 with q2 | q2
                  · rcases Int.lt_or_le v 128 with q1 | q1
                    · rw [size_1 q1] at hs; omega
                    · rw [size_2 q1 q2] at hs; omega
                  · rw [size_3 q2 q] at hs; omega
                · exact q
              have hp := putU_4 hr hlo
              rw [hp]
              exact ⟨hr, rfl, r, by show _ = _ :: _ :: _ :: _ :: r; congr 1; omega; congr 1; omega; congr 1; omega; congr 1; omega⟩
            · rw [contU_no hf] at h; exact z _ h
          · rw [contU_no hd] at h; exact z _ h
        · rw [contU_no hc] at h; exact z _ h
    · exact absurd (len_0 e) (fun q => h0 (.inl q))
end Go.Proofs.Ytcnkndmegnfofaa.P

/- Bits: small facts. -/
namespace Go.Proofs.Ytcnkndmegnfofaa.P
open Go.RowKit Go.Proofs.YtcnkndmegnfofaaW.PrintWords Go.Proofs.YtcnkndmegnfofaaW.PrintLast Go.Proofs.YtcnkndmegnfofaaW.PrintMore
set_option linter.unusedVariables false
set_option linter.unusedSimpArgs false
theorem i32_andNot_nat (a b : Nat) (ha : a < 2147483648) (hb : b < 2147483648) : bits .andNot .i32 (a : Int) (b : Int) = ((a &&& (4294967295 - b) : Nat) : Int) := by
  have hx : a &&& (4294967295 - b) ≤ a := Nat.and_le_left
  show IntKind.i32.wrap ((BitVec.ofInt 32 (a : Int) &&& ~~~BitVec.ofInt 32 (b : Int)).toNat : Int) = _
  rw [BitVec.toNat_and, BitVec.toNat_not, ofInt_u32 a (by omega), ofInt_u32 b (by omega), IntKind.wrap_i32]
  have e : 2 ^ 32 - 1 - b = 4294967295 - b := by omega
  rw [e]
  omega
theorem andNot0 (a : Nat) (h1 : a < 2147483648) : bits .andNot .i32 (a : Int) 0 = a := by
  have h := i32_andNot_nat a 0 h1 (by omega)
  rw [show ((0 : Int)) = ((0 : Nat) : Int) from rfl, h]
  have : a &&& (4294967295 - 0) = a := by
    show a &&& (2 ^ 32 - 1) = a
    rw [Nat.and_two_pow_sub_one_eq_mod]
    omega
  rw [this]
theorem andNot_192 (m : Nat) (h : m < 32) : bits .andNot .i32 ((192 + m : Nat) : Int) 192 = (m : Int) := by
  have key : ∀ x : Fin 32, (192 + x.val) &&& (4294967295 - 192) = x.val := by decide +kernel
  have h := i32_andNot_nat (192 + m) 192 (by omega) (by omega)
  rw [show ((192 : Int)) = ((192 : Nat) : Int) from rfl, h, key ⟨m, by omega⟩]
theorem andNot_224 (m : Nat) (h : m < 16) : bits .andNot .i32 ((224 + m : Nat) : Int) 224 = (m : Int) := by
  have key : ∀ x : Fin 16, (224 + x.val) &&& (4294967295 - 224) = x.val := by decide +kernel
  have h := i32_andNot_nat (224 + m) 224 (by omega) (by omega)
  rw [show ((224 : Int)) = ((224 : Nat) : Int) from rfl, h, key ⟨m, by omega⟩]
theorem andNot_240 (m : Nat) (h : m < 8) : bits .andNot .i32 ((240 + m : Nat) : Int) 240 = (m : Int) := by
  have key : ∀ x : Fin 8, (240 + x.val) &&& (4294967295 - 240) = x.val := by decide +kernel
  have h := i32_andNot_nat (240 + m) 240 (by omega) (by omega)
  rw [show ((240 : Int)) = ((240 : Nat) : Int) from rfl, h, key ⟨m, by omega⟩]
theorem and192 (m : Nat) (h : m < 256) : m &&& 192 = m - m % 64 := by
  have key : ∀ x : Fin 256, (x.val &&& 192) = x.val - x.val % 64 := by decide +kernel
  exact key ⟨m, h⟩
theorem lead_1 : utf_lead.f 1 = some 0 := by decide +kernel
theorem lead_2 : utf_lead.f 2 = some 192 := by decide +kernel
theorem lead_3 : utf_lead.f 3 = some 224 := by decide +kernel
theorem lead_4 : utf_lead.f 4 = some 240 := by decide +kernel
end Go.Proofs.Ytcnkndmegnfofaa.P

/- Characters: the functions of utf come to these words. -/
namespace Go.Proofs.Ytcnkndmegnfofaa.P
open Go.RowKit Go.Proofs.YtcnkndmegnfofaaW.PrintWords Go.Proofs.YtcnkndmegnfofaaW.PrintLast Go.Proofs.YtcnkndmegnfofaaW.PrintMore
set_option linter.unusedVariables false
set_option linter.unusedSimpArgs false

theorem w32 {n : Int} (h : -2147483648 ≤ n ∧ n ≤ 2147483647) : wrap32 n = n := IntWalk.wrap32_in n h
theorem right_yes {c : Int} (h : rightU c) : utf_right.f c = some true := by
  obtain ⟨h0, h1, h2⟩ := h
  unfold utf_right.f
  rw [if_pos (by omega), if_pos h1]
  by_cases h3 : c < 55296
  · rw [if_pos h3]
  · rw [if_neg h3, decide_eq_true (by omega)]
theorem right_no {c : Int} (h : ¬ rightU c) : utf_right.f c = some false := by
  unfold utf_right.f
  by_cases h0 : c ≥ 0
  · rw [if_pos h0]
    by_cases h1 : c ≤ 1114111
    · rw [if_pos h1]
      by_cases h3 : c < 55296
      · exact absurd ⟨h0, h1, .inl h3⟩ h
      · rw [if_neg h3, decide_eq_false (fun e => h ⟨h0, h1, .inr (by omega)⟩)]
    · rw [if_neg h1]
  · rw [if_neg h0]
theorem length_eq (a : Int) : utf_length.f a = some (lenU a : Int) := by
  unfold utf_length.f lenU
  split
  · rfl
  · split
    · rfl
    · split
      · rfl
      · split
        · rfl
        · split <;> rfl
theorem lead_eq (n : Nat) (h0 : 1 ≤ n) (h1 : n ≤ 4) : utf_lead.f (n : Int) = some (leadU n) := by
  rcases (show n = 1 ∨ n = 2 ∨ n = 3 ∨ n = 4 by omega) with rfl | rfl | rfl | rfl
  · exact lead_1
  · exact lead_2
  · exact lead_3
  · exact lead_4
theorem lead_off {a : Int} (h0 : 0 ≤ a) (h : lenU a ≠ 0) : Go.bits .andNot .i32 a (leadU (lenU a)) = a - leadU (lenU a) := by
  obtain ⟨m, rfl⟩ := Int.eq_ofNat_of_zero_le h0
  rcases (show (m : Int) < 128 ∨ (192 ≤ (m : Int) ∧ (m : Int) < 224) ∨ (224 ≤ (m : Int) ∧ (m : Int) < 240) ∨ (240 ≤ (m : Int) ∧ (m : Int) < 248) ∨ ((128 ≤ (m : Int) ∧ (m : Int) < 192) ∨ 248 ≤ (m : Int)) by omega) with e | ⟨e1, e2⟩ | ⟨e1, e2⟩ | ⟨e1, e2⟩ | e
  · rw [len_1 e, show leadU 1 = 0 from rfl, andNot0 _ (by omega)]
    omega
  · rw [len_2 e1 e2, show leadU 2 = 192 from rfl]
    have := andNot_192 (m - 192) (by omega)
    rw [show 192 + (m - 192) = m by omega] at this
    rw [this]; omega
  · rw [len_3 e1 e2, show leadU 3 = 224 from rfl]
    have := andNot_224 (m - 224) (by omega)
    rw [show 224 + (m - 224) = m by omega] at this
    rw [this]; omega
  · rw [len_4 e1 e2, show leadU 4 = 240 from rfl]
    have := andNot_240 (m - 240) (by omega)
    rw [show 240 + (m - 240) = m by omega] at this
    rw [this]; omega
  · exact absurd (len_0 e) h
theorem goes_eq {b : Int} (h0 : 0 ≤ b) (h1 : b ≤ 255) : utf_Next_1.f b = some (decide (128 ≤ b ∧ b ≤ 191)) := by
  have e : Go.bits .andNot .u8 b 63 = b - b % 64 := by
    have h63 := u8_and63 b h0 (by omega)
    have ha := u8_and b 63 h0 (by omega) (by omega) (by omega)
    have hn := u8_andNot b 63 h0 (by omega) (by omega) (by omega)
    rw [hn]
    obtain ⟨m, rfl⟩ := Int.eq_ofNat_of_zero_le h0
    simp only [Int.toNat_natCast]
    have k1 : m &&& 192 = m - m % 64 := and192 m (by omega)
    show ((m &&& 192 : Nat) : Int) = _
    rw [k1]
    omega
  unfold utf_Next_1.f
  rw [e]
  congr 1
  rw [Bool.eq_iff_iff, beq_iff_eq, decide_eq_true_eq]
  omega

theorem acc_step {c b : Int} {m : Nat} (h0 : 0 ≤ c) (hb : 0 ≤ b) (hc : c * 64 ^ (m + 1) + 64 ^ (m + 1) ≤ 2097152) : c * 64 + 64 ≤ 2097152 ∧ (c * 64 + b % 64) * 64 ^ m + 64 ^ m ≤ 2097152 := by
  have hp : (0 : Int) < 64 ^ m := Int.pow_pos (by omega)
  have hpe : (64 : Int) ^ (m + 1) = 64 ^ m * 64 := Int.pow_succ ..
  rw [hpe] at hc
  generalize (64 : Int) ^ m = P at hc hp
  clear hpe
  have e1 : c * (P * 64) = c * 64 * P := by rw [Int.mul_comm P 64, Int.mul_assoc]
  rw [e1] at hc
  have h1 : (c * 64 + 64) * 1 ≤ (c * 64 + 64) * P := Int.mul_le_mul_of_nonneg_left (by omega) (by omega)
  have h2 : (c * 64 + 64) * P = c * 64 * P + 64 * P := Int.add_mul ..
  have e5 : (c * 64 + b % 64) * P ≤ (c * 64 + 63) * P := Int.mul_le_mul_of_nonneg_right (by omega) (by omega)
  have e6 : (c * 64 + 63) * P = c * 64 * P + 63 * P := Int.add_mul ..
  rw [h2] at h1
  rw [e6] at e5
  generalize c * 64 * P = X at *
  generalize (c * 64 + b % 64) * P = Y at *
  exact ⟨by omega, by omega⟩

/-! ### Next -/
theorem ev_Next_loop (s : ByteArray) (hs : s.size ≤ 140737488355000) (n : Nat) (hn : n ≤ 4) (hns : n ≤ s.size) : ∀ (m i : Nat) (c : Int), i + m = n → 0 ≤ c → c * 64 ^ m + 64 ^ m ≤ 2097152 →
    Ev (fun k => utf_Next.l0 k s (n : Int) c (i : Int)) (contU n c ((bytesOf s).drop i) m) := by
  intro m
  induction m with
  | zero =>
    intro i c hi h0 hc
    rw [contU_fin]
    unfold finU
    by_cases hr : rightU c
    · refine Ev.step (fun k => by rw [utf_Next.l0, if_neg (by omega), right_yes hr, Option.bind_some, if_pos rfl, show utf_size.f c = some (utfSize c) from rfl, Option.bind_some]) ?_
      by_cases hz : utfSize c = (n : Int)
      · rw [if_pos (show rightU c ∧ utfSize c = (n : Int) from ⟨hr, hz⟩)]
        exact Ev.congr (fun k => by rw [if_pos hz]) (Ev.now _)
      · rw [if_neg (show ¬ (rightU c ∧ utfSize c = (n : Int)) from fun e => hz e.2)]
        exact Ev.congr (fun k => by rw [if_neg hz]) (Ev.now _)
    · rw [if_neg (show ¬ (rightU c ∧ utfSize c = (n : Int)) from fun e => hr e.1)]
      exact Ev.step (fun k => by rw [utf_Next.l0, if_neg (by omega), right_no hr, Option.bind_some, if_neg (by decide)]) (Ev.now _)
  | succ m ih =>
    intro i c hi h0 hc
    rw [drop_bt s i (by omega)]
    have hb := bt_bd s (i : Int)
    generalize hbe : bt s (i : Int) = b at hb
    have hw : wrap64 ((i : Int) + 1) = ((i + 1 : Nat) : Int) := by rw [w64 (by omega)]; rfl
    have q1 : ((i : Int)) < (n : Int) := by omega
    have q2 : (0 : Int) ≤ (i : Int) := by omega
    have q3 : ((i : Int)) < (s.size : Int) := by omega
    have q4 : i + 1 + m = n := by omega
    have hg := goes_eq hb.1 hb.2
    by_cases hcn : 128 ≤ b ∧ b ≤ 191
    · obtain ⟨k1, k2⟩ := acc_step h0 hb.1 hc
      have e1 := u8_and63 b hb.1 (by omega)
      have e2 : wrap32 (c * 64) = c * 64 := w32 (by omega)
      have e3 : wrap32 (b % 64) = b % 64 := w32 (by omega)
      have e4 : Go.bits .or .i32 (c * 64) (b % 64) = c * 64 + b % 64 := i32_or6 _ _ (by omega) (by omega) (by omega) (by omega) (by omega)
      rw [contU_step hcn]
      refine Ev.step (fun k => by rw [utf_Next.l0, hbe, if_pos q1, if_pos q2, if_pos q3, hg, Option.bind_some, if_pos (decide_eq_true hcn), e1, e2, e3, e4, hw]) ?_
      exact ih (i + 1) (c * 64 + b % 64) q4 (by omega) k2
    · rw [contU_no hcn]
      exact Ev.step (fun k => by rw [utf_Next.l0, hbe, if_pos q1, if_pos q2, if_pos q3, hg, Option.bind_some, if_neg (by rw [decide_eq_true_eq]; exact hcn)]) (Ev.now _)
theorem lenU_le (a : Int) : lenU a ≤ 4 := by
  unfold lenU
  repeat' split
  all_goals omega
theorem ev_Next (s : ByteArray) (hs : s.size ≤ 140737488355000) : Ev (fun k => utf_Next.f k s) (nextU (bytesOf s)) := by
  by_cases h0 : s.size = 0
  · rw [show bytesOf s = [] from List.eq_nil_of_length_eq_zero (by rw [bytesOf_len]; exact h0), show nextU [] = (0, 0) by rw [nextU]]
    exact Ev.congr (fun k => by rw [utf_Next.f, if_pos (size_nil.2 h0)]) (Ev.now _)
  · have hd := drop_bt s 0 (by omega)
    rw [List.drop_zero] at hd
    have hb := bt_bd s 0
    rw [hd]
    show Ev _ (nextU (bt s 0 :: (bytesOf s).drop 1))
    have hlen : (bt s 0 :: (bytesOf s).drop 1).length = s.size := by simp [bytesOf_len]; omega
    rw [nextU, hlen]
    have h4 := lenU_le (bt s 0)
    refine Ev.congr (fun k => by rw [utf_Next.f, if_neg (fun e => h0 (size_nil.1 e)), if_pos (by omega), length_eq, Option.bind_some]) ?_
    by_cases hz : lenU (bt s 0) = 0
    · rw [if_pos (.inl hz)]
      refine Ev.congr (fun k => by rw [if_pos (by omega)]) ?_
      exact Ev.step (fun k => by rw [utf_Next.j0, if_pos rfl]) (Ev.now _)
    · refine Ev.congr (fun k => by rw [if_neg (by omega)]) ?_
      by_cases hg : lenU (bt s 0) > s.size
      · rw [if_pos (.inr hg)]
        exact Ev.step (fun k => by rw [utf_Next.j0, if_pos (by rw [decide_eq_true_eq]; omega)]) (Ev.now _)
      · rw [if_neg (by omega)]
        have hl := lead_eq (lenU (bt s 0)) (by omega) (by omega)
        have ho := lead_off hb.1 hz
        refine Ev.step (fun k => by rw [utf_Next.j0, if_neg (by rw [decide_eq_true_eq]; omega), if_pos (by omega), hl, Option.bind_some, w32 (n := bt s 0) (by omega), ho]) ?_
        have hlead : 0 ≤ bt s 0 - leadU (lenU (bt s 0)) ∧ (bt s 0 - leadU (lenU (bt s 0))) * 64 ^ (lenU (bt s 0) - 1) + 64 ^ (lenU (bt s 0) - 1) ≤ 2097152 := by
          rcases (show bt s 0 < 128 ∨ (192 ≤ bt s 0 ∧ bt s 0 < 224) ∨ (224 ≤ bt s 0 ∧ bt s 0 < 240) ∨ (240 ≤ bt s 0 ∧ bt s 0 < 248) ∨ ((128 ≤ bt s 0 ∧ bt s 0 < 192) ∨ 248 ≤ bt s 0) by omega) with e | ⟨e1, e2⟩ | ⟨e1, e2⟩ | ⟨e1, e2⟩ | e
          · rw [len_1 e, show leadU 1 = 0 from rfl]; simp; omega
          · rw [len_2 e1 e2, show leadU 2 = 192 from rfl]; simp; omega
          · rw [len_3 e1 e2, show leadU 3 = 224 from rfl]; simp; omega
          · rw [len_4 e1 e2, show leadU 4 = 240 from rfl]; simp; omega
          · exact absurd (len_0 e) hz
        exact ev_Next_loop s hs (lenU (bt s 0)) h4 (by omega) (lenU (bt s 0) - 1) 1 _ (by omega) hlead.1 hlead.2
end Go.Proofs.Ytcnkndmegnfofaa.P

/- Characters: Put, the reference's Put and Next, Count and Clean. -/
namespace Go.Proofs.Ytcnkndmegnfofaa.P
open Go.RowKit Go.Proofs.YtcnkndmegnfofaaW.PrintWords Go.Proofs.YtcnkndmegnfofaaW.PrintLast Go.Proofs.YtcnkndmegnfofaaW.PrintMore
set_option linter.unusedVariables false
set_option linter.unusedSimpArgs false

theorem putU_bytes (c : Int) : Bytes (putU c) := by
  by_cases h : rightU c
  · obtain ⟨h0, h1, h2⟩ := id h
    rcases (show c < 128 ∨ (128 ≤ c ∧ c < 2048) ∨ (2048 ≤ c ∧ c < 65536) ∨ 65536 ≤ c by omega) with a | ⟨a, b⟩ | ⟨a, b⟩ | a
    · rw [putU_1 h a]; exact Bytes.cons (by omega) Bytes.nil
    · rw [putU_2 h a b]; exact Bytes.cons (by omega) (Bytes.cons (by omega) Bytes.nil)
    · rw [putU_3 h a b]; exact Bytes.cons (by omega) (Bytes.cons (by omega) (Bytes.cons (by omega) Bytes.nil))
    · rw [putU_4 h a]; exact Bytes.cons (by omega) (Bytes.cons (by omega) (Bytes.cons (by omega) (Bytes.cons (by omega) Bytes.nil)))
  · rw [putU_no h]; exact Bytes.nil
theorem putU_len {c : Int} (h : rightU c) : ((putU c).length : Int) = utfSize c := by
  obtain ⟨h0, h1, h2⟩ := id h
  rcases (show c < 128 ∨ (128 ≤ c ∧ c < 2048) ∨ (2048 ≤ c ∧ c < 65536) ∨ 65536 ≤ c by omega) with a | ⟨a, b⟩ | ⟨a, b⟩ | a
  · rw [putU_1 h a, size_1 a]; rfl
  · rw [putU_2 h a b, size_2 a b]; rfl
  · rw [putU_3 h a b, size_3 a b]; rfl
  · rw [putU_4 h a, size_4 a]; rfl
theorem putU_bd (c : Int) : (putU c).length ≤ 4 := by
  by_cases h : rightU c
  · have := putU_len h
    unfold utfSize at this
    split at this
    · omega
    · split at this
      · omega
      · split at this <;> omega
  · rw [putU_no h]; simp
/-! ### Put -/
theorem shr_i32 {c : Int} (n : Int) (hn : n = 0 ∨ n = 6 ∨ n = 12 ∨ n = 18) : shr .i32 c n = c / 2 ^ n.toNat := by
  rcases hn with rfl | rfl | rfl | rfl <;> rfl
theorem and63_i32 {c : Int} (h0 : 0 ≤ c) (h1 : c < 2147483648) : bits .and .i32 c 63 = c % 64 := bits_mask .i32 31 (by decide) wraps_i32 6 (by decide) c h0 (by omega)
theorem or128_i32 {y : Int} (h0 : 0 ≤ y) (h1 : y < 64) : bits .or .i32 128 y = 128 + y := i32_or6 _ _ (by omega) (by omega) (by omega) h0 h1
theorem put_step (c : Int) (h0 : 0 ≤ c) (h1 : c < 2147483648) (acc : List Int) (ha : acc.length ≤ 100000000000) (i : Int) (hi : i = 0 ∨ i = 1 ∨ i = 2) (k : Nat) :
    utf_Put.l0 (k + 1) c acc i = utf_Put.l0 k c (acc ++ [128 + c / 2 ^ (6 * i).toNat % 64]) (i - 1) := by
  have hs : shr .i32 c (wrap64 (6 * i)) = c / 2 ^ (6 * i).toNat := by
    rw [w64 (by omega)]
    exact shr_i32 _ (by omega)
  have hq : 0 ≤ c / 2 ^ (6 * i).toNat ∧ c / 2 ^ (6 * i).toNat < 2147483648 := by
    rcases hi with rfl | rfl | rfl
    · show 0 ≤ c / 1 ∧ c / 1 < _; omega
    · show 0 ≤ c / 64 ∧ c / 64 < _; omega
    · show 0 ≤ c / 4096 ∧ c / 4096 < _; omega
  rw [utf_Put.l0, hs]
  generalize c / 2 ^ (6 * i).toNat = q at hq ⊢
  rw [and63_i32 hq.1 hq.2, or128_i32 (by omega) (by omega), w64 (n := 6 * i) (by omega), w64 (n := i - 1) (by omega), if_pos (by omega), if_pos (by omega), if_pos (by omega)]
  congr 2
  rw [List.cons.injEq]
  exact ⟨by omega, rfl⟩
theorem put_end (c : Int) (acc : List Int) (k : Nat) : utf_Put.l0 (k + 1) c acc (-1) = some acc := by
  rw [utf_Put.l0, if_neg (by omega)]
theorem lead_join (x : Int) (n : Nat) (h : (n = 1 ∧ x < 128) ∨ (n = 2 ∧ x < 32) ∨ (n = 3 ∧ x < 16) ∨ (n = 4 ∧ x < 8)) (h0 : 0 ≤ x) : bits .or .i32 (leadU n) x = leadU n + x := by
  rcases h with ⟨rfl, h⟩ | ⟨rfl, h⟩ | ⟨rfl, h⟩ | ⟨rfl, h⟩
  · exact bits_join .i32 31 (by decide) wraps_i32 7 0 x (by omega) (by decide) (by decide) h0 (by omega) (by omega)
  · exact bits_join .i32 31 (by decide) wraps_i32 5 192 x (by omega) (by decide) (by decide) h0 (by omega) (by omega)
  · exact bits_join .i32 31 (by decide) wraps_i32 4 224 x (by omega) (by decide) (by decide) h0 (by omega) (by omega)
  · exact bits_join .i32 31 (by decide) wraps_i32 3 240 x (by omega) (by decide) (by decide) h0 (by omega) (by omega)
theorem ev_Put (l : List Int) (hl : l.length ≤ 10000000000) (c : Int) : Ev (fun k => utf_Put.f k l c) (l ++ putU c) := by
  by_cases hr : rightU c
  · obtain ⟨h0, h1, h2⟩ := id hr
    have hsz : utf_size.f c = some (utfSize c) := rfl
    have e0 : ∀ (x : Int), shr .i32 c x = shr .i32 c x := fun _ => rfl
    rcases (show c < 128 ∨ (128 ≤ c ∧ c < 2048) ∨ (2048 ≤ c ∧ c < 65536) ∨ 65536 ≤ c by omega) with a | ⟨a, b⟩ | ⟨a, b⟩ | a
    · rw [putU_1 hr a]
      refine Ev.congr (fun k => by rw [utf_Put.f, Option.bind_some, if_pos (by simp; omega), Option.bind_some, List.nil_append, right_yes hr, Option.bind_some, if_pos rfl, hsz, size_1 a, Option.bind_some, lead_1, Option.bind_some, show wrap64 (6 * wrap64 (1 - 1)) = 0 by decide +kernel, show wrap64 (1 - 2) = -1 by decide +kernel, if_pos (by decide), if_pos (by omega), shr_i32 0 (.inl rfl), show c / 2 ^ (0 : Int).toNat = c by show c / 1 = c; omega, show bits .or .i32 0 c = c from (lead_join c 1 (.inl ⟨rfl, a⟩) h0).trans (by show 0 + c = c; omega)]) ?_
      refine Ev.step (fun k => by rw [put_end]) ?_
      rw [show c % 256 = c by omega]
      exact Ev.now _
    · rw [putU_2 hr a b]
      refine Ev.congr (fun k => by rw [utf_Put.f, Option.bind_some, if_pos (by simp; omega), Option.bind_some, List.nil_append, right_yes hr, Option.bind_some, if_pos rfl, hsz, size_2 a b, Option.bind_some, lead_2, Option.bind_some, show wrap64 (6 * wrap64 (2 - 1)) = 6 by decide +kernel, show wrap64 (2 - 2) = 0 by decide +kernel, if_pos (by decide), if_pos (by omega), shr_i32 6 (.inr (.inl rfl)), show c / 2 ^ (6 : Int).toNat = c / 64 from rfl, show (192 : Int) = leadU 2 from rfl, lead_join (c / 64) 2 (.inr (.inl ⟨rfl, by omega⟩)) (by omega)]) ?_
      refine Ev.step (fun k => by rw [put_step c h0 (by omega) _ (by simp; omega) 0 (.inl rfl)]) ?_
      refine Ev.step (fun k => by rw [show (0 : Int) - 1 = -1 by omega, put_end]) ?_
      rw [show (leadU 2 + c / 64) % 256 = 192 + c / 64 by show (192 + c / 64) % 256 = _; omega, show 128 + c / 2 ^ (6 * (0 : Int)).toNat % 64 = 128 + c % 64 by show 128 + c / 1 % 64 = _; omega, List.append_assoc]
      exact Ev.now _
    · rw [putU_3 hr a b]
      refine Ev.congr (fun k => by rw [utf_Put.f, Option.bind_some, if_pos (by simp; omega), Option.bind_some, List.nil_append, right_yes hr, Option.bind_some, if_pos rfl, hsz, size_3 a b, Option.bind_some, lead_3, Option.bind_some, show wrap64 (6 * wrap64 (3 - 1)) = 12 by decide +kernel, show wrap64 (3 - 2) = 1 by decide +kernel, if_pos (by decide), if_pos (by omega), shr_i32 12 (.inr (.inr (.inl rfl))), show c / 2 ^ (12 : Int).toNat = c / 4096 from rfl, show (224 : Int) = leadU 3 from rfl, lead_join (c / 4096) 3 (.inr (.inr (.inl ⟨rfl, by omega⟩))) (by omega)]) ?_
      refine Ev.step (fun k => by rw [put_step c h0 (by omega) _ (by simp; omega) 1 (.inr (.inl rfl))]) ?_
      refine Ev.step (fun k => by rw [show (1 : Int) - 1 = 0 by omega, put_step c h0 (by omega) _ (by simp; omega) 0 (.inl rfl)]) ?_
      refine Ev.step (fun k => by rw [show (0 : Int) - 1 = -1 by omega, put_end]) ?_
      rw [show (leadU 3 + c / 4096) % 256 = 224 + c / 4096 by show (224 + c / 4096) % 256 = _; omega, show 128 + c / 2 ^ (6 * (1 : Int)).toNat % 64 = 128 + c / 64 % 64 from rfl, show 128 + c / 2 ^ (6 * (0 : Int)).toNat % 64 = 128 + c % 64 by show 128 + c / 1 % 64 = _; omega, List.append_assoc, List.append_assoc]
      exact Ev.now _
    · rw [putU_4 hr a]
      refine Ev.congr (fun k => by rw [utf_Put.f, Option.bind_some, if_pos (by simp; omega), Option.bind_some, List.nil_append, right_yes hr, Option.bind_some, if_pos rfl, hsz, size_4 a, Option.bind_some, lead_4, Option.bind_some, show wrap64 (6 * wrap64 (4 - 1)) = 18 by decide +kernel, show wrap64 (4 - 2) = 2 by decide +kernel, if_pos (by decide), if_pos (by omega), shr_i32 18 (.inr (.inr (.inr rfl))), show c / 2 ^ (18 : Int).toNat = c / 262144 from rfl, show (240 : Int) = leadU 4 from rfl, lead_join (c / 262144) 4 (.inr (.inr (.inr ⟨rfl, by omega⟩))) (by omega)]) ?_
      refine Ev.step (fun k => by rw [put_step c h0 (by omega) _ (by simp; omega) 2 (.inr (.inr rfl))]) ?_
      refine Ev.step (fun k => by rw [show (2 : Int) - 1 = 1 by omega, put_step c h0 (by omega) _ (by simp; omega) 1 (.inr (.inl rfl))]) ?_
      refine Ev.step (fun k => by rw [show (1 : Int) - 1 = 0 by omega, put_step c h0 (by omega) _ (by simp; omega) 0 (.inl rfl)]) ?_
      refine Ev.step (fun k => by rw [show (0 : Int) - 1 = -1 by omega, put_end]) ?_
      rw [show (leadU 4 + c / 262144) % 256 = 240 + c / 262144 by show (240 + c / 262144) % 256 = _; omega, show 128 + c / 2 ^ (6 * (2 : Int)).toNat % 64 = 128 + c / 4096 % 64 from rfl, show 128 + c / 2 ^ (6 * (1 : Int)).toNat % 64 = 128 + c / 64 % 64 from rfl, show 128 + c / 2 ^ (6 * (0 : Int)).toNat % 64 = 128 + c % 64 by show 128 + c / 1 % 64 = _; omega, List.append_assoc, List.append_assoc, List.append_assoc]
      exact Ev.now _
  · rw [putU_no hr, List.append_nil]
    exact Ev.congr (fun k => by rw [utf_Put.f, Option.bind_some, if_pos (by simp; omega), Option.bind_some, List.nil_append, right_no hr, Option.bind_some, if_neg (by decide)]) (Ev.now _)
theorem ev_rPut (l : List Int) (hl : l.length ≤ 10000000000) (c : Int) (hc0 : -2147483648 ≤ c) (hc1 : c ≤ 2147483647) : Ev (fun k => shadowboxref14_Put.f k l c) (l ++ putU c) := by
  have hw : wrap64 c = c := w64 (by omega)
  refine Ev.congr (fun k => by rw [shadowboxref14_Put.f, hw, Option.bind_some, if_pos (by simp; omega), Option.bind_some, List.nil_append]) ?_
  have yes : ¬ rightU c → Ev (fun k => shadowboxref14_Put.j0 k l c true) (l ++ putU c) := fun hr => by
    rw [putU_no hr, List.append_nil]
    exact Ev.step (fun k => by rw [shadowboxref14_Put.j0, if_pos rfl]) (Ev.now _)
  have no : rightU c → Ev (fun k => shadowboxref14_Put.j0 k l c false) (l ++ putU c) := fun hr => by
    obtain ⟨h0, h1, h2⟩ := id hr
    refine Ev.step (fun k => by rw [shadowboxref14_Put.j0, if_neg (by decide)]) ?_
    have d64 : wrap64 (Int.tdiv c 64) = c / 64 := by rw [Int.tdiv_eq_ediv_of_nonneg h0, w64 (by omega)]
    have d4 : wrap64 (Int.tdiv c 4096) = c / 4096 := by rw [Int.tdiv_eq_ediv_of_nonneg h0, w64 (by omega)]
    have d2 : wrap64 (Int.tdiv c 262144) = c / 262144 := by rw [Int.tdiv_eq_ediv_of_nonneg h0, w64 (by omega)]
    have m64 : Int.tmod c 64 = c % 64 := Int.tmod_eq_emod_of_nonneg h0
    have m1 : Int.tmod (c / 64) 64 = c / 64 % 64 := Int.tmod_eq_emod_of_nonneg (by omega)
    have m2 : Int.tmod (c / 4096) 64 = c / 4096 % 64 := Int.tmod_eq_emod_of_nonneg (by omega)
    rcases (show c < 128 ∨ (128 ≤ c ∧ c < 2048) ∨ (2048 ≤ c ∧ c < 65536) ∨ 65536 ≤ c by omega) with a | ⟨a, b⟩ | ⟨a, b⟩ | a
    · rw [putU_1 hr a]
      exact Ev.congr (fun k => by rw [if_pos a, if_pos (by omega), show c % 256 = c by omega]) (Ev.now _)
    · rw [putU_2 hr a b]
      exact Ev.congr (fun k => by rw [if_neg (by omega), if_pos b, d64, m64, w64 (n := 192 + c / 64) (by omega), w64 (n := 128 + c % 64) (by omega), show (192 + c / 64) % 256 = 192 + c / 64 by omega, show (128 + c % 64) % 256 = 128 + c % 64 by omega, Option.bind_some, if_pos (by simp; omega)]) (Ev.now _)
    · rw [putU_3 hr a b]
      exact Ev.congr (fun k => by rw [if_neg (by omega), if_neg (by omega), if_pos b, d64, d4, m64, m1, w64 (n := 224 + c / 4096) (by omega), w64 (n := 128 + c % 64) (by omega), w64 (n := 128 + c / 64 % 64) (by omega), show (224 + c / 4096) % 256 = 224 + c / 4096 by omega, show (128 + c % 64) % 256 = 128 + c % 64 by omega, show (128 + c / 64 % 64) % 256 = 128 + c / 64 % 64 by omega, Option.bind_some, if_pos (by simp; omega)]) (Ev.now _)
    · rw [putU_4 hr a]
      exact Ev.congr (fun k => by rw [if_neg (by omega), if_neg (by omega), if_neg (by omega), d64, d4, d2, m64, m1, m2, w64 (n := 240 + c / 262144) (by omega), w64 (n := 128 + c % 64) (by omega), w64 (n := 128 + c / 64 % 64) (by omega), w64 (n := 128 + c / 4096 % 64) (by omega), show (240 + c / 262144) % 256 = 240 + c / 262144 by omega, show (128 + c % 64) % 256 = 128 + c % 64 by omega, show (128 + c / 64 % 64) % 256 = 128 + c / 64 % 64 by omega, show (128 + c / 4096 % 64) % 256 = 128 + c / 4096 % 64 by omega, Option.bind_some, if_pos (by simp; omega)]) (Ev.now _)
  by_cases h0 : c < 0
  · exact Ev.congr (fun k => by rw [if_pos h0]) (yes (fun e => by have := e.1; omega))
  · refine Ev.congr (fun k => by rw [if_neg h0]) ?_
    by_cases h1 : c > 1114111
    · exact Ev.congr (fun k => by rw [if_pos h1]) (yes (fun e => by have := e.2.1; omega))
    · refine Ev.congr (fun k => by rw [if_neg h1]) ?_
      by_cases h2 : c ≥ 55296
      · refine Ev.congr (fun k => by rw [if_pos h2]) ?_
        by_cases h3 : c ≤ 57343
        · rw [decide_eq_true h3]
          exact yes (fun e => by have := e.2.2; omega)
        · rw [decide_eq_false h3]
          exact no ⟨by omega, by omega, by omega⟩
      · exact Ev.congr (fun k => by rw [if_neg h2]) (no ⟨by omega, by omega, by omega⟩)
end Go.Proofs.Ytcnkndmegnfofaa.P

/- Characters: the reference's Next; Count and Clean. -/
namespace Go.Proofs.Ytcnkndmegnfofaa.P
open Go.RowKit Go.Proofs.YtcnkndmegnfofaaW.PrintWords Go.Proofs.YtcnkndmegnfofaaW.PrintLast Go.Proofs.YtcnkndmegnfofaaW.PrintMore
set_option linter.unusedVariables false
set_option linter.unusedSimpArgs false

theorem next_zero (l : List Int) (h : (nextU l).2 = 0) : nextU l = (0, 0) := by
  have key : ∀ (n : Nat) (m : Nat) (c : Int) (r : List Int), n ≠ 0 → (contU n c r m).2 = 0 → contU n c r m = (0, 0) := by
    intro n m
    induction m with
    | zero =>
      intro c r hn h
      rw [contU_fin] at h ⊢
      unfold finU at h ⊢
      by_cases hc : rightU c ∧ utfSize c = (n : Int)
      · rw [if_pos hc] at h; simp only at h; omega
      · rw [if_neg hc]
    | succ m ih =>
      intro c r hn h
      cases r with
      | nil => rw [contU]
      | cons b r =>
        by_cases hb : 128 ≤ b ∧ b ≤ 191
        · rw [contU_step hb] at h ⊢; exact ih _ _ hn h
        · rw [contU_no hb]
  cases l with
  | nil => rw [nextU]
  | cons a r =>
    rw [nextU] at h ⊢
    by_cases h0 : lenU a = 0 ∨ lenU a > (a :: r).length
    · rw [if_pos h0]
    · rw [if_neg h0] at h ⊢
      exact key _ _ _ _ (fun e => h0 (.inl e)) h
theorem put_next' (l : List Int) (hb : Bytes l) (h : (nextU l).2 ≠ 0) : rightU (nextU l).1 ∧ (nextU l).2 = ((putU (nextU l).1).length : Int) ∧ ∃ rest, l = putU (nextU l).1 ++ rest := put_next l (nextU l).1 (nextU l).2 hb rfl h
def leadR (a : Int) : Int := if a ≥ 240 then 240 else if a ≥ 224 then 224 else if a ≥ 192 then 192 else 0
/-- What the first j bytes tell, if they are a character's. -/
def vR (s : ByteArray) : Nat → Int
  | 0 => 0
  | 1 => bt s 0 - leadR (bt s 0)
  | j + 2 => vR s (j + 1) * 64 + (bt s ((j + 1 : Nat) : Int) + 128) % 256
theorem vR_bd (s : ByteArray) : (0 ≤ vR s 1 ∧ vR s 1 ≤ 255) ∧ (0 ≤ vR s 2 ∧ vR s 2 ≤ 16575) ∧ (0 ≤ vR s 3 ∧ vR s 3 ≤ 1061055) ∧ (0 ≤ vR s 4 ∧ vR s 4 ≤ 67907775) := by
  have h1 : 0 ≤ vR s 1 ∧ vR s 1 ≤ 255 := by
    have := bt_bd s 0
    show 0 ≤ bt s 0 - leadR (bt s 0) ∧ bt s 0 - leadR (bt s 0) ≤ 255
    unfold leadR
    split
    · omega
    · split
      · omega
      · split <;> omega
  have h2 : 0 ≤ vR s 2 ∧ vR s 2 ≤ 16575 := by
    show 0 ≤ vR s 1 * 64 + (bt s ((1 : Nat) : Int) + 128) % 256 ∧ vR s 1 * 64 + (bt s ((1 : Nat) : Int) + 128) % 256 ≤ 16575
    omega
  have h3 : 0 ≤ vR s 3 ∧ vR s 3 ≤ 1061055 := by
    show 0 ≤ vR s 2 * 64 + (bt s ((2 : Nat) : Int) + 128) % 256 ∧ vR s 2 * 64 + (bt s ((2 : Nat) : Int) + 128) % 256 ≤ 1061055
    omega
  have h4 : 0 ≤ vR s 4 ∧ vR s 4 ≤ 67907775 := by
    show 0 ≤ vR s 3 * 64 + (bt s ((3 : Nat) : Int) + 128) % 256 ∧ vR s 3 * 64 + (bt s ((3 : Nat) : Int) + 128) % 256 ≤ 67907775
    omega
  exact ⟨h1, h2, h3, h4⟩
theorem vR_bds (s : ByteArray) (j : Nat) (h : j ≤ 4) : 0 ≤ vR s j ∧ vR s j ≤ 67907775 := by
  obtain ⟨h1, h2, h3, h4⟩ := vR_bd s
  rcases (show j = 0 ∨ j = 1 ∨ j = 2 ∨ j = 3 ∨ j = 4 by omega) with rfl | rfl | rfl | rfl | rfl
  · exact ⟨Int.le_refl _, by show (0 : Int) ≤ _; omega⟩
  · omega
  · omega
  · omega
  · omega
theorem toList_strOf (l : List Int) (hl : Bytes l) (s : ByteArray) : (strOfNums l).toList = s.toList ↔ l = bytesOf s := by
  rw [toList_inj]
  constructor
  · rintro rfl; rw [bytesOf_strOf hl]
  · rintro rfl; rw [strOf_bytesOf]
theorem take_bytes (s : ByteArray) (j : Nat) : bytesOf (s.extract 0 j) = (bytesOf s).take j := by rw [bytesOf_extract, List.drop_zero, Nat.sub_zero]
theorem drop_bytes (s : ByteArray) (j : Nat) : bytesOf (s.extract j s.size) = (bytesOf s).drop j := by
  rw [bytesOf_extract, List.take_of_length_le (by rw [List.length_drop, bytesOf_len]; omega)]
theorem rNext_test (s : ByteArray) (hs : s.size ≤ 140737488355000) (j : Nat) (hj0 : 1 ≤ j) (hj : j ≤ 4) (hjs : j ≤ s.size) (r : Int × Int)
    (yes : putU (vR s j) = (bytesOf s).take j → r = (vR s j, (j : Int))) (no : ¬ putU (vR s j) = (bytesOf s).take j → Ev (fun k => shadowboxref14_Next.l0 k s (vR s j) ((j + 1 : Nat) : Int)) r) :
    Ev (fun k => shadowboxref14_Next.j2 k s (vR s j) (j : Int)) r := by
  have hb := vR_bds s j hj
  have hw : wrap32 (vR s j) = vR s j := w32 (by omega)
  have hwj : wrap64 ((j : Int) + 1) = ((j + 1 : Nat) : Int) := by rw [w64 (by omega)]; rfl
  have nof : ¬ putU (vR s j) = (bytesOf s).take j → Ev (fun k => shadowboxref14_Next.j3 k s (vR s j) (j : Int) false) r := fun h => by
    refine Ev.step (fun k => by rw [shadowboxref14_Next.j3, if_neg (by decide), hwj]) ?_
    exact no h
  by_cases hm : vR s j ≤ 1114111
  · refine Ev.step (fun k => by rw [shadowboxref14_Next.j2, if_pos hm, hw]) ?_
    refine Ev.bind (ev_rPut [] (by simp) (vR s j) (by omega) (by omega)) ?_
    refine Ev.congr (fun k => by rw [List.nil_append, if_pos (by omega), if_pos (by omega), Int.toNat_natCast]) ?_
    by_cases he : putU (vR s j) = (bytesOf s).take j
    · have hb : ((strOfNums (putU (vR s j))).toList == (s.extract 0 j).toList) = true := beq_iff_eq.2 ((toList_strOf _ (putU_bytes _) _).2 (by rw [take_bytes]; exact he))
      rw [yes he]
      exact Ev.congr (fun k => by rw [hb]) (Ev.step (fun k => by rw [shadowboxref14_Next.j3, if_pos rfl, hw]) (Ev.now _))
    · have hb : ((strOfNums (putU (vR s j))).toList == (s.extract 0 j).toList) = false := beq_eq_false_iff_ne.2 (fun e => he (by rw [← take_bytes]; exact (toList_strOf _ (putU_bytes _) _).1 e))
      exact Ev.congr (fun k => by rw [hb]) (nof he)
  · refine Ev.step (fun k => by rw [shadowboxref14_Next.j2, if_neg hm]) ?_
    refine nof (fun e => ?_)
    have : ¬ rightU (vR s j) := fun q => by have := q.2.1; omega
    rw [putU_no this] at e
    have hl : ((bytesOf s).take j).length = j := by rw [List.length_take, bytesOf_len]; omega
    rw [← e] at hl
    simp at hl
    omega
theorem rNext_round (s : ByteArray) (hs : s.size ≤ 140737488355000) (j : Nat) (hj0 : 1 ≤ j) (hj : j ≤ 4) (hjs : j ≤ s.size) (r : Int × Int)
    (h : Ev (fun k => shadowboxref14_Next.j2 k s (vR s j) (j : Int)) r) : Ev (fun k => shadowboxref14_Next.l0 k s (vR s (j - 1)) (j : Int)) r := by
  obtain ⟨i, rfl⟩ : ∃ i, j = i + 1 := ⟨j - 1, by omega⟩
  have hw : wrap64 (((i + 1 : Nat) : Int) - 1) = (i : Int) := by rw [w64 (by omega)]; omega
  have hb := bt_bd s (i : Int)
  refine Ev.step (fun k => by rw [shadowboxref14_Next.l0, if_pos (by omega), decide_eq_true (by omega)]) ?_
  refine Ev.step (fun k => by rw [shadowboxref14_Next.j1, if_pos rfl, hw, if_pos (by omega), if_pos (by omega), w64 (n := bt s (i : Int)) (by omega)]) ?_
  cases i with
  | zero =>
    refine Ev.congr (fun k => by rw [if_pos (by omega)]) ?_
    have hv : vR s 1 = bt s ((0 : Nat) : Int) - leadR (bt s ((0 : Nat) : Int)) := rfl
    have h2 : Ev (fun k => shadowboxref14_Next.j2 k s (bt s ((0 : Nat) : Int) - leadR (bt s ((0 : Nat) : Int))) (((0 + 1 : Nat)) : Int)) r := by rw [← hv]; exact h
    generalize bt s ((0 : Nat) : Int) = a at hb h2 ⊢
    unfold leadR at h2
    by_cases h240 : a ≥ 240
    · rw [if_pos h240] at h2
      exact Ev.congr (fun k => by rw [if_pos h240, w64 (n := a - 240) (by omega)]) h2
    · rw [if_neg h240] at h2
      by_cases h224 : a ≥ 224
      · rw [if_pos h224] at h2
        exact Ev.congr (fun k => by rw [if_neg h240, if_pos h224, w64 (n := a - 224) (by omega)]) h2
      · rw [if_neg h224] at h2
        by_cases h192 : a ≥ 192
        · rw [if_pos h192] at h2
          exact Ev.congr (fun k => by rw [if_neg h240, if_neg h224, if_pos h192, w64 (n := a - 192) (by omega)]) h2
        · rw [if_neg h192, Int.sub_zero] at h2
          exact Ev.congr (fun k => by rw [if_neg h240, if_neg h224, if_neg h192]) h2
  | succ i =>
    have hv := vR_bds s (i + 1) (by omega)
    have hm : Int.tmod (wrap64 (bt s ((i + 1 : Nat) : Int) + 128)) 256 = (bt s ((i + 1 : Nat) : Int) + 128) % 256 := by rw [w64 (by omega), Int.tmod_eq_emod_of_nonneg (by omega)]
    refine Ev.congr (fun k => by rw [if_neg (by omega), hm, show i + 1 + 1 - 1 = i + 1 from rfl, w64 (n := vR s (i + 1) * 64) (by omega), w64 (by omega)]) ?_
    exact h
theorem rNext_end (s : ByteArray) (n : Int) (j : Nat) (h : j = 5 ∨ j > s.size) : Ev (fun k => shadowboxref14_Next.l0 k s n (j : Int)) (0, 0) := by
  by_cases h4 : (j : Int) ≤ 4
  · refine Ev.step (fun k => by rw [shadowboxref14_Next.l0, if_pos h4, decide_eq_false (by omega)]) ?_
    exact Ev.step (fun k => by rw [shadowboxref14_Next.j1, if_neg (by decide)]) (Ev.now _)
  · refine Ev.step (fun k => by rw [shadowboxref14_Next.l0, if_neg h4]) ?_
    exact Ev.step (fun k => by rw [shadowboxref14_Next.j1, if_neg (by decide)]) (Ev.now _)
theorem vR_char (s : ByteArray) (c : Int) (rest : List Int) (h : rightU c) (hs : bytesOf s = putU c ++ rest) : vR s (putU c).length = c := by
  have hb : ∀ i : Nat, bt s (i : Int) = (putU c ++ rest).getD i 0 := fun i => by rw [bt_eq, hs]
  obtain ⟨h0, h1, h2⟩ := id h
  have b0 := hb 0
  have b1 := hb 1
  have b2 := hb 2
  have b3 := hb 3
  rcases (show c < 128 ∨ (128 ≤ c ∧ c < 2048) ∨ (2048 ≤ c ∧ c < 65536) ∨ 65536 ≤ c by omega) with a | ⟨a, b⟩ | ⟨a, b⟩ | a
  · rw [putU_1 h a] at b0 ⊢
    have e0 : bt s 0 = c := b0
    show bt s 0 - leadR (bt s 0) = c
    rw [e0]; unfold leadR
    rw [if_neg (by omega), if_neg (by omega), if_neg (by omega)]; omega
  · rw [putU_2 h a b] at b0 b1 ⊢
    have e0 : bt s 0 = 192 + c / 64 := b0
    have e1 : bt s ((1 : Nat) : Int) = 128 + c % 64 := b1
    show (bt s 0 - leadR (bt s 0)) * 64 + (bt s ((1 : Nat) : Int) + 128) % 256 = c
    rw [e0, e1]; unfold leadR
    rw [if_neg (by omega), if_neg (by omega), if_pos (by omega)]; omega
  · rw [putU_3 h a b] at b0 b1 b2 ⊢
    have e0 : bt s 0 = 224 + c / 4096 := b0
    have e1 : bt s ((1 : Nat) : Int) = 128 + c / 64 % 64 := b1
    have e2 : bt s ((2 : Nat) : Int) = 128 + c % 64 := b2
    show ((bt s 0 - leadR (bt s 0)) * 64 + (bt s ((1 : Nat) : Int) + 128) % 256) * 64 + (bt s ((2 : Nat) : Int) + 128) % 256 = c
    rw [e0, e1, e2]; unfold leadR
    rw [if_neg (by omega), if_pos (by omega)]; omega
  · rw [putU_4 h a] at b0 b1 b2 b3 ⊢
    have e0 : bt s 0 = 240 + c / 262144 := b0
    have e1 : bt s ((1 : Nat) : Int) = 128 + c / 4096 % 64 := b1
    have e2 : bt s ((2 : Nat) : Int) = 128 + c / 64 % 64 := b2
    have e3 : bt s ((3 : Nat) : Int) = 128 + c % 64 := b3
    show (((bt s 0 - leadR (bt s 0)) * 64 + (bt s ((1 : Nat) : Int) + 128) % 256) * 64 + (bt s ((2 : Nat) : Int) + 128) % 256) * 64 + (bt s ((3 : Nat) : Int) + 128) % 256 = c
    rw [e0, e1, e2, e3]; unfold leadR
    rw [if_pos (by omega)]; omega
theorem ev_rNext (s : ByteArray) (hs : s.size ≤ 140737488355000) : Ev (fun k => shadowboxref14_Next.f k s) (nextU (bytesOf s)) := by
  have key : ∀ (d j : Nat), j + d = 5 → 1 ≤ j → ((nextU (bytesOf s)).2 = 0 ∨ (j : Int) ≤ (nextU (bytesOf s)).2) → Ev (fun k => shadowboxref14_Next.l0 k s (vR s (j - 1)) (j : Int)) (nextU (bytesOf s)) := by
    intro d
    induction d with
    | zero =>
      intro j hj h1 hk
      have hz : (nextU (bytesOf s)).2 = 0 := by
        rcases hk with hk | hk
        · exact hk
        · exfalso
          obtain ⟨_, h2, _⟩ := put_next' (bytesOf s) (bytes_of s) (show (nextU (bytesOf s)).2 ≠ 0 by omega)
          have := putU_bd (nextU (bytesOf s)).1
          omega
      rw [next_zero _ hz]
      exact rNext_end s _ j (.inl (by omega))
    | succ d ih =>
      intro j hj h1 hk
      by_cases hjs : j ≤ s.size
      · refine rNext_round s hs j h1 (by omega) hjs _ (rNext_test s hs j h1 (by omega) hjs _ (fun he => ?_) (fun he => ?_))
        · have hr : rightU (vR s j) := by
            rcases Classical.em (rightU (vR s j)) with q | q
            · exact q
            · exfalso
              rw [putU_no q] at he
              have hl : ((bytesOf s).take j).length = j := by rw [List.length_take, bytesOf_len]; omega
              rw [← he] at hl; simp at hl; omega
          have hnx := next_put hr ((bytesOf s).drop j)
          rw [he, List.take_append_drop, List.length_take, bytesOf_len] at hnx
          rw [hnx]; congr 1; omega
        · have := ih (j + 1) (by omega) (by omega) (by
            rcases hk with hk | hk
            · exact .inl hk
            · right
              rcases Classical.em ((nextU (bytesOf s)).2 = (j : Int)) with q | q
              · exfalso
                obtain ⟨h1, h2, rest, h3⟩ := put_next' (bytesOf s) (bytes_of s) (show (nextU (bytesOf s)).2 ≠ 0 by omega)
                generalize (nextU (bytesOf s)).1 = c at h1 h2 h3
                have hv := vR_char s _ rest h1 h3
                have hjl : (putU c).length = j := by omega
                rw [hjl] at hv
                refine he ?_
                rw [hv, h3, ← hjl, List.take_left]
              · omega)
          exact this
      · have hz : (nextU (bytesOf s)).2 = 0 := by
          rcases hk with hk | hk
          · exact hk
          · exfalso
            obtain ⟨_, h2, rest, h3⟩ := put_next' (bytesOf s) (bytes_of s) (show (nextU (bytesOf s)).2 ≠ 0 by omega)
            have hlen := bytesOf_len s
            rw [h3, List.length_append] at hlen
            omega
        rw [next_zero _ hz]
        exact rNext_end s _ j (.inr (by omega))
  have hk0 : (nextU (bytesOf s)).2 = 0 ∨ ((1 : Nat) : Int) ≤ (nextU (bytesOf s)).2 := by
    rcases Classical.em ((nextU (bytesOf s)).2 = 0) with q | q
    · exact .inl q
    · right
      obtain ⟨hr, h2, _⟩ := put_next' (bytesOf s) (bytes_of s) q
      omega
  exact key 4 1 (by omega) (by omega) hk0
end Go.Proofs.Ytcnkndmegnfofaa.P

/- Characters: Count, Right and Clean, the program's and the reference's. -/
namespace Go.Proofs.Ytcnkndmegnfofaa.P
open Go.RowKit Go.Proofs.YtcnkndmegnfofaaW.PrintWords Go.Proofs.YtcnkndmegnfofaaW.PrintLast Go.Proofs.YtcnkndmegnfofaaW.PrintMore
set_option linter.unusedVariables false
set_option linter.unusedSimpArgs false

/-- A text's characters, U+FFFD for each byte that begins none. -/
def charsU (l : List Int) : List Int := match l with
  | [] => []
  | a :: r => if (nextU (a :: r)).2 = 0 then 65533 :: charsU r else (nextU (a :: r)).1 :: charsU (r.drop ((nextU (a :: r)).2.toNat - 1))
  termination_by l.length
  decreasing_by all_goals (simp only [List.length_cons, List.length_drop]; omega)
/-- Is each of its bytes a part of a character? -/
def wellU (l : List Int) : Prop := match l with
  | [] => True
  | a :: r => (nextU (a :: r)).2 ≠ 0 ∧ wellU (r.drop ((nextU (a :: r)).2.toNat - 1))
  termination_by l.length
  decreasing_by all_goals (simp only [List.length_cons, List.length_drop]; omega)
def flatU (cs : List Int) : List Int := cs.flatMap putU
theorem chars_nil : charsU [] = [] := by rw [charsU]
theorem chars_bad {a : Int} {r : List Int} (h : (nextU (a :: r)).2 = 0) : charsU (a :: r) = 65533 :: charsU r := by rw [charsU, if_pos h]
theorem chars_good {a : Int} {r : List Int} (h : (nextU (a :: r)).2 ≠ 0) : charsU (a :: r) = (nextU (a :: r)).1 :: charsU (r.drop ((nextU (a :: r)).2.toNat - 1)) := by rw [charsU, if_neg h]
theorem well_nil : wellU [] := by rw [wellU]; trivial
theorem well_cons {a : Int} {r : List Int} : wellU (a :: r) ↔ (nextU (a :: r)).2 ≠ 0 ∧ wellU (r.drop ((nextU (a :: r)).2.toNat - 1)) := by rw [wellU]
theorem right_fffd : rightU 65533 := by decide
theorem next_pos {a : Int} {r : List Int} (hb : Bytes (a :: r)) (h : (nextU (a :: r)).2 ≠ 0) : 1 ≤ (nextU (a :: r)).2 ∧ (nextU (a :: r)).2 ≤ ((a :: r).length : Int) := by
  obtain ⟨h1, h2, rest, h3⟩ := put_next' (a :: r) hb h
  generalize (nextU (a :: r)).1 = c at h1 h2 h3
  have := congrArg List.length h3
  rw [List.length_append] at this
  omega
theorem drop_pos {a : Int} {r : List Int} {k : Int} (h : 1 ≤ k) : (a :: r).drop k.toNat = r.drop (k.toNat - 1) := by
  obtain ⟨n, hn⟩ : ∃ n, k.toNat = n + 1 := ⟨k.toNat - 1, by omega⟩
  rw [hn]; rfl
theorem good_split {a : Int} {r : List Int} (hb : Bytes (a :: r)) (h : (nextU (a :: r)).2 ≠ 0) : a :: r = putU (nextU (a :: r)).1 ++ r.drop ((nextU (a :: r)).2.toNat - 1) := by
  have hp := next_pos hb h
  obtain ⟨h1, h2, rest, h3⟩ := put_next' (a :: r) hb h
  rw [← drop_pos (a := a) hp.1]
  generalize (nextU (a :: r)).2 = k at h2 hp ⊢
  generalize (nextU (a :: r)).1 = c at h1 h2 h3 ⊢
  rw [h3]
  have : k.toNat = (putU c).length := by omega
  rw [this, List.drop_left]
theorem chars_right : ∀ (n : Nat) (l : List Int), l.length ≤ n → Bytes l → ∀ c ∈ charsU l, rightU c
  | n, [], hn, hb => by rw [chars_nil]; intro c hc; cases hc
  | 0, a :: r, hn, hb => by simp at hn
  | n + 1, a :: r, hn, hb => by
    by_cases h : (nextU (a :: r)).2 = 0
    · rw [chars_bad h]
      intro c hc
      rcases List.mem_cons.1 hc with rfl | hc
      · exact right_fffd
      · exact chars_right n r (by simp at hn; omega) hb.tail c hc
    · rw [chars_good h]
      intro c hc
      rcases List.mem_cons.1 hc with rfl | hc
      · exact (put_next' (a :: r) hb h).1
      · exact chars_right n _ (by simp at hn ⊢; omega) (hb.tail.drop _) c hc
theorem chars_len : ∀ (n : Nat) (l : List Int), l.length ≤ n → (charsU l).length ≤ l.length
  | n, [], hn => by rw [chars_nil]; simp
  | 0, a :: r, hn => by simp at hn
  | n + 1, a :: r, hn => by
    by_cases h : (nextU (a :: r)).2 = 0
    · rw [chars_bad h]
      have := chars_len n r (by simp at hn; omega)
      simp; omega
    · rw [chars_good h]
      have := chars_len n (r.drop ((nextU (a :: r)).2.toNat - 1)) (by simp at hn ⊢; omega)
      simp at this ⊢; omega
theorem putU_ne {c : Int} (h : rightU c) : ∃ a r, putU c = a :: r := by
  cases hp : putU c with
  | nil =>
    have := putU_len h
    rw [hp] at this
    unfold utfSize at this
    simp at this
    split at this
    · omega
    · split at this
      · omega
      · split at this <;> omega
  | cons a r => exact ⟨a, r, rfl⟩
/-- Characters that are put, one behind the other, are those characters. -/
theorem chars_flat : ∀ (cs : List Int), (∀ c ∈ cs, rightU c) → charsU (flatU cs) = cs ∧ wellU (flatU cs)
  | [], _ => ⟨chars_nil, well_nil⟩
  | c :: cs, h => by
    have hc := h c List.mem_cons_self
    obtain ⟨h1, h2⟩ := chars_flat cs (fun x hx => h x (List.mem_cons_of_mem _ hx))
    have hn := next_put hc (flatU cs)
    obtain ⟨a, r, hp⟩ := putU_ne hc
    have e : flatU (c :: cs) = a :: (r ++ flatU cs) := by show putU c ++ flatU cs = _; rw [hp]; rfl
    rw [hp] at hn
    have hn' : nextU (a :: (r ++ flatU cs)) = (c, ((a :: r).length : Int)) := hn
    have hd : (r ++ flatU cs).drop (((a :: r).length : Int).toNat - 1) = flatU cs := by
      rw [Int.toNat_natCast, List.length_cons, Nat.add_sub_cancel, List.drop_left]
    rw [e]
    have hne : (nextU (a :: (r ++ flatU cs))).2 ≠ 0 := by rw [hn']; simp; omega
    constructor
    · rw [chars_good hne, hn']
      simp only
      rw [hd, h1]
    · rw [well_cons, hn']
      simp only
      rw [hd]
      exact ⟨by simp; omega, h2⟩
theorem flat_of_well : ∀ (n : Nat) (l : List Int), l.length ≤ n → Bytes l → wellU l → flatU (charsU l) = l
  | n, [], hn, hb, hw => by rw [chars_nil]; rfl
  | 0, a :: r, hn, hb, hw => by simp at hn
  | n + 1, a :: r, hn, hb, hw => by
    obtain ⟨h, h2⟩ := well_cons.1 hw
    rw [chars_good h]
    show putU _ ++ flatU _ = _
    rw [flat_of_well n _ (by simp at hn ⊢; omega) (hb.tail.drop _) h2]
    exact (good_split hb h).symm
theorem well_iff {l : List Int} (hb : Bytes l) : wellU l ↔ flatU (charsU l) = l := by
  constructor
  · exact flat_of_well l.length l (Nat.le_refl _) hb
  · intro h
    have := (chars_flat (charsU l) (chars_right l.length l (Nat.le_refl _) hb)).2
    rwa [h] at this
theorem flatU_bytes (cs : List Int) : Bytes (flatU cs) := by
  intro x hx
  obtain ⟨c, _, hc⟩ := List.mem_flatMap.1 hx
  exact putU_bytes c x hc
theorem flatU_len (cs : List Int) : (flatU cs).length ≤ 4 * cs.length := by
  induction cs with
  | nil => simp [flatU]
  | cons c cs ih =>
    show (putU c ++ flatU cs).length ≤ _
    have := putU_bd c
    simp
    omega
/-- How many characters; below nought: it isn't right. -/
noncomputable def countU (n : Int) (l : List Int) : Int := open Classical in if wellU l then n + (charsU l).length else -1
theorem count_nil (n : Int) : countU n [] = n := by unfold countU; rw [if_pos well_nil, chars_nil]; simp
theorem count_bad {n : Int} {a : Int} {r : List Int} (h : (nextU (a :: r)).2 = 0) : countU n (a :: r) = -1 := by unfold countU; rw [if_neg (fun e => (well_cons.1 e).1 h)]
theorem count_good {n : Int} {a : Int} {r : List Int} (h : (nextU (a :: r)).2 ≠ 0) : countU n (a :: r) = countU (n + 1) (r.drop ((nextU (a :: r)).2.toNat - 1)) := by
  unfold countU
  by_cases hw : wellU (r.drop ((nextU (a :: r)).2.toNat - 1))
  · rw [if_pos hw, if_pos (well_cons.2 ⟨h, hw⟩), chars_good h]
    simp
    omega
  · rw [if_neg hw, if_neg (fun e => hw (well_cons.1 e).2)]
theorem bytes_cons (s : ByteArray) (h : s.size ≠ 0) : ∃ a r, bytesOf s = a :: r := by
  cases hb : bytesOf s with
  | nil => have := bytesOf_len s; rw [hb] at this; simp at this; omega
  | cons a r => exact ⟨a, r, rfl⟩
theorem ev_Count_loop : ∀ (d : Nat) (s : ByteArray) (n : Int), s.size ≤ d → s.size ≤ 140737488355000 → 0 ≤ n → n + s.size ≤ 140737488355000 →
    Ev (fun k => utf_Count.l0 k s n) (countU n (bytesOf s)) ∧ Ev (fun k => shadowboxref14_Count.l0 k s n) (countU n (bytesOf s)) := by
  intro d
  induction d with
  | zero =>
    intro s n hd hs h0 hn
    have hz : s.size = 0 := by omega
    rw [show bytesOf s = [] from List.eq_nil_of_length_eq_zero (by rw [bytesOf_len]; exact hz), count_nil]
    exact ⟨Ev.step (fun k => by rw [utf_Count.l0, if_pos (size_nil.2 hz)]) (Ev.now _), Ev.step (fun k => by rw [shadowboxref14_Count.l0, if_neg (by omega)]) (Ev.now _)⟩
  | succ d ih =>
    intro s n hd hs h0 hn
    by_cases hz : s.size = 0
    · rw [show bytesOf s = [] from List.eq_nil_of_length_eq_zero (by rw [bytesOf_len]; exact hz), count_nil]
      exact ⟨Ev.step (fun k => by rw [utf_Count.l0, if_pos (size_nil.2 hz)]) (Ev.now _), Ev.step (fun k => by rw [shadowboxref14_Count.l0, if_neg (by omega)]) (Ev.now _)⟩
    · obtain ⟨a, r, hl⟩ := bytes_cons s hz
      have hb := bytes_of s
      have hlen := bytesOf_len s
      have e1 := ev_Next s hs
      have e2 := ev_rNext s hs
      rw [hl] at hb hlen e1 e2 ⊢
      by_cases h : (nextU (a :: r)).2 = 0
      · rw [count_bad h]
        refine ⟨Ev.step (fun k => by rw [utf_Count.l0, if_neg (fun e => hz (size_nil.1 e))]) (Ev.bind e1 ?_), Ev.step (fun k => by rw [shadowboxref14_Count.l0, if_pos (by omega)]) (Ev.bind e2 ?_)⟩
        · exact Ev.congr (fun k => by rw [if_pos h]) (Ev.now _)
        · exact Ev.congr (fun k => by rw [if_pos h]) (Ev.now _)
      · have hp := next_pos hb h
        rw [count_good h]
        have hdr : bytesOf (s.extract (nextU (a :: r)).2.toNat s.size) = r.drop ((nextU (a :: r)).2.toNat - 1) := by rw [drop_bytes, hl, drop_pos hp.1]
        have hz2 : (s.extract (nextU (a :: r)).2.toNat s.size).size = s.size - (nextU (a :: r)).2.toNat := by rw [← bytesOf_len, hdr, List.length_drop]; simp at hlen; omega
        have hw : wrap64 (n + 1) = n + 1 := w64 (by omega)
        generalize (nextU (a :: r)) = p at *
        obtain ⟨i1, i2⟩ := ih (s.extract p.2.toNat s.size) (n + 1) (by omega) (by omega) (by omega) (by omega)
        rw [hdr] at i1 i2
        have q1 : p.2 ≤ (s.size : Int) := by rw [← hlen]; exact hp.2
        refine ⟨Ev.step (fun k => by rw [utf_Count.l0, if_neg (fun e => hz (size_nil.1 e))]) (Ev.bind e1 ?_), Ev.step (fun k => by rw [shadowboxref14_Count.l0, if_pos (by omega)]) (Ev.bind e2 ?_)⟩
        · exact Ev.congr (fun k => by rw [if_neg h, if_pos (by omega), if_pos q1, hw]) i1
        · exact Ev.congr (fun k => by rw [if_neg h, if_pos (by omega), if_pos q1, hw]) i2
theorem ev_Count (s : ByteArray) (hs : s.size ≤ 140737488355000) : Ev (fun k => utf_Count.f k s) (countU 0 (bytesOf s)) := (ev_Count_loop s.size s 0 (Nat.le_refl _) hs (by omega) (by omega)).1
theorem ev_rCount (s : ByteArray) (hs : s.size ≤ 140737488355000) : Ev (fun k => shadowboxref14_Count.f k s) (countU 0 (bytesOf s)) := (ev_Count_loop s.size s 0 (Nat.le_refl _) hs (by omega) (by omega)).2
theorem count_ge {l : List Int} : countU 0 l ≥ 0 ↔ wellU l := by
  unfold countU
  by_cases h : wellU l
  · rw [if_pos h]; exact ⟨fun _ => h, fun _ => by omega⟩
  · rw [if_neg h]; exact ⟨fun e => by omega, fun e => absurd e h⟩
theorem ev_Right (s : ByteArray) (hs : s.size ≤ 140737488355000) : Ev (fun k => utf_Right.f k s) (decide (countU 0 (bytesOf s) ≥ 0)) := by
  unfold utf_Right.f
  exact Ev.bind (ev_Count s hs) (Ev.now _)
theorem ev_Clean_loop : ∀ (d : Nat) (s : ByteArray) (acc : List Int), s.size ≤ d → s.size ≤ 10000000 → acc.length + 4 * s.size ≤ 1000000000 →
    Ev (fun k => utf_Clean.l0 k s acc) (strOfNums (acc ++ flatU (charsU (bytesOf s)))) ∧ Ev (fun k => shadowboxref14_Clean.l0 k s acc) (strOfNums (acc ++ flatU (charsU (bytesOf s)))) := by
  intro d
  induction d with
  | zero =>
    intro s acc hd hs hn
    have hz : s.size = 0 := by omega
    rw [show bytesOf s = [] from List.eq_nil_of_length_eq_zero (by rw [bytesOf_len]; exact hz), chars_nil, show flatU [] = [] from rfl, List.append_nil]
    exact ⟨Ev.step (fun k => by rw [utf_Clean.l0, if_pos (size_nil.2 hz)]) (Ev.now _), Ev.step (fun k => by rw [shadowboxref14_Clean.l0, if_neg (by omega)]) (Ev.now _)⟩
  | succ d ih =>
    intro s acc hd hs hn
    by_cases hz : s.size = 0
    · rw [show bytesOf s = [] from List.eq_nil_of_length_eq_zero (by rw [bytesOf_len]; exact hz), chars_nil, show flatU [] = [] from rfl, List.append_nil]
      exact ⟨Ev.step (fun k => by rw [utf_Clean.l0, if_pos (size_nil.2 hz)]) (Ev.now _), Ev.step (fun k => by rw [shadowboxref14_Clean.l0, if_neg (by omega)]) (Ev.now _)⟩
    · obtain ⟨a, r, hl⟩ := bytes_cons s hz
      have hb := bytes_of s
      have hlen := bytesOf_len s
      have e1 := ev_Next s (by omega)
      have e2 := ev_rNext s (by omega)
      rw [hl] at hb hlen e1 e2 ⊢
      by_cases h : (nextU (a :: r)).2 = 0
      · rw [chars_bad h]
        have hdr : bytesOf (s.extract 1 s.size) = r := by rw [drop_bytes, hl]; rfl
        have hz2 : (s.extract 1 s.size).size = s.size - 1 := by rw [← bytesOf_len, hdr]; simp at hlen; omega
        have hpf : putU 65533 = [239, 191, 189] := by decide
        obtain ⟨i1, i2⟩ := ih (s.extract 1 s.size) (acc ++ putU 65533) (by omega) (by omega) (by rw [hpf]; simp; omega)
        rw [hdr, List.append_assoc] at i1 i2
        refine ⟨Ev.step (fun k => by rw [utf_Clean.l0, if_neg (fun e => hz (size_nil.1 e))]) (Ev.bind e1 ?_), Ev.step (fun k => by rw [shadowboxref14_Clean.l0, if_pos (by omega)]) (Ev.bind e2 ?_)⟩
        · refine Ev.congr (fun k => by rw [if_pos h]) ?_
          refine Ev.bind (ev_Put acc (by omega) 65533) ?_
          exact Ev.congr (fun k => by rw [if_pos (by omega)]) i1
        · rw [hpf] at i2
          exact Ev.congr (fun k => by rw [if_pos h, Option.bind_some, if_pos (by simp; omega), if_pos (by omega)]) (by rw [show flatU (65533 :: charsU r) = [239, 191, 189] ++ flatU (charsU r) by show putU 65533 ++ flatU (charsU r) = _; rw [hpf]]; exact i2)
      · have hp := next_pos hb h
        rw [chars_good h]
        obtain ⟨hr, h2, _⟩ := put_next' (a :: r) hb h
        have hsp := good_split hb h
        have hdr : bytesOf (s.extract (nextU (a :: r)).2.toNat s.size) = r.drop ((nextU (a :: r)).2.toNat - 1) := by rw [drop_bytes, hl, drop_pos hp.1]
        have hz2 : (s.extract (nextU (a :: r)).2.toNat s.size).size = s.size - (nextU (a :: r)).2.toNat := by rw [← bytesOf_len, hdr, List.length_drop]; simp at hlen; omega
        have htk : bytesOf (s.extract 0 (nextU (a :: r)).2.toNat) = putU (nextU (a :: r)).1 := by
          rw [take_bytes, hl]
          have hlp : (nextU (a :: r)).2.toNat = (putU (nextU (a :: r)).1).length := by omega
          have q := congrArg (List.take (nextU (a :: r)).2.toNat) hsp
          rw [q, hlp, List.take_left]
        have hbd := putU_bd (nextU (a :: r)).1
        have hst : (s.extract 0 (nextU (a :: r)).2.toNat).size = (putU (nextU (a :: r)).1).length := by rw [← bytesOf_len, htk]
        clear hsp
        generalize (nextU (a :: r)) = p at *
        obtain ⟨i1, i2⟩ := ih (s.extract p.2.toNat s.size) (acc ++ putU p.1) (by omega) (by omega) (by rw [List.length_append]; omega)
        rw [hdr, List.append_assoc] at i1 i2
        have q1 : p.2 ≤ (s.size : Int) := by rw [← hlen]; exact hp.2
        refine ⟨Ev.step (fun k => by rw [utf_Clean.l0, if_neg (fun e => hz (size_nil.1 e))]) (Ev.bind e1 ?_), Ev.step (fun k => by rw [shadowboxref14_Clean.l0, if_pos (by omega)]) (Ev.bind e2 ?_)⟩
        · refine Ev.congr (fun k => by rw [if_neg h]) ?_
          refine Ev.bind (ev_Put acc (by omega) p.1) ?_
          exact Ev.congr (fun k => by rw [if_pos (by omega), if_pos q1]) i1
        · exact Ev.congr (fun k => by rw [if_neg h, if_pos (by omega), if_pos q1, htk, if_pos (by omega)]) i2
def cleanS (s : ByteArray) : ByteArray := strOfNums (flatU (charsU (bytesOf s)))
theorem ev_Clean (s : ByteArray) (hs : s.size ≤ 10000000) : Ev (fun k => utf_Clean.f k s) (cleanS s) := (ev_Clean_loop s.size s [] (Nat.le_refl _) hs (by simp; omega)).1
theorem ev_rClean (s : ByteArray) (hs : s.size ≤ 10000000) : Ev (fun k => shadowboxref14_Clean.f k s) (cleanS s) := (ev_Clean_loop s.size s [] (Nat.le_refl _) hs (by simp; omega)).2
theorem bytes_cleanS (s : ByteArray) : bytesOf (cleanS s) = flatU (charsU (bytesOf s)) := bytesOf_strOf (flatU_bytes _)
theorem cleanS_size (s : ByteArray) : (cleanS s).size ≤ 4 * s.size := by
  rw [← bytesOf_len, bytes_cleanS]
  have h1 := flatU_len (charsU (bytesOf s))
  have h2 := chars_len _ (bytesOf s) (Nat.le_refl _)
  rw [bytesOf_len] at h2
  omega
end Go.Proofs.Ytcnkndmegnfofaa.P

/- UtfBack: for every int n (made a character number below 0x110000) and every string s of at most 2000 bytes (longer ones are let go): a surrogate is put as nothing; any other number is put as 1 to 4 bytes that Next reads back whatever stands behind them, and one byte less is no character. -/
namespace Go.Proofs.Ytcnkndmegnfofaa.Pure
open Go.RowKit Go.Proofs.Ytcnkndmegnfofaa.P Go.Proofs.YtcnkndmegnfofaaW.PrintWords Go.Proofs.YtcnkndmegnfofaaW.PrintLast
set_option linter.unusedVariables false
set_option linter.unusedSimpArgs false

theorem mask21 (a : Int) : 0 ≤ Go.bits .and .i64 a 2097151 ∧ Go.bits .and .i64 a 2097151 ≤ 2097151 := by
  show 0 ≤ IntKind.i64.wrap ((BitVec.ofInt 64 a &&& BitVec.ofInt 64 2097151).toNat : Int) ∧ IntKind.i64.wrap ((BitVec.ofInt 64 a &&& BitVec.ofInt 64 2097151).toNat : Int) ≤ 2097151
  rw [BitVec.toNat_and, IntKind.wrap_i64]
  have h : (BitVec.ofInt 64 a).toNat &&& (BitVec.ofInt 64 2097151).toNat ≤ (BitVec.ofInt 64 2097151).toNat := Nat.and_le_right
  rw [show (BitVec.ofInt 64 2097151).toNat = 2097151 by decide] at h ⊢
  generalize (BitVec.ofInt 64 a).toNat &&& 2097151 = x at h
  omega
theorem char_bd (a : Int) : 0 ≤ wrap32 (Int.tmod (Go.bits .and .i64 a 2097151) 1114112) ∧ wrap32 (Int.tmod (Go.bits .and .i64 a 2097151) 1114112) ≤ 1114111 := by
  have h := mask21 a
  generalize Go.bits .and .i64 a 2097151 = m at h
  have h1 := Int.tmod_nonneg 1114112 h.1
  have h2 := Int.tmod_lt_of_pos m (show (0 : Int) < 1114112 by decide)
  rw [w32 (by omega)]
  omega
theorem put_1to4 {c : Int} (h : rightU c) : 1 ≤ (putU c).length ∧ (putU c).length ≤ 4 := by
  have h1 := putU_len h
  have h2 := putU_bd c
  obtain ⟨a, r, hp⟩ := putU_ne h
  rw [hp] at h2 ⊢
  simp at h2 ⊢
  omega
theorem none_less {c : Int} (h : rightU c) : (nextU ((putU c).take ((putU c).length - 1))).2 = 0 := by
  have no : ∀ (a : Int) (r : List Int), lenU a > (a :: r).length → (nextU (a :: r)).2 = 0 := by
    intro a r ha
    rw [nextU, if_pos (Or.inr ha)]
  obtain ⟨h0, h1, h2⟩ := id h
  rcases (show c < 128 ∨ (128 ≤ c ∧ c < 2048) ∨ (2048 ≤ c ∧ c < 65536) ∨ 65536 ≤ c by omega) with a | ⟨a, b⟩ | ⟨a, b⟩ | a
  · rw [putU_1 h a]; rfl
  · rw [putU_2 h a b]
    refine no _ _ ?_
    rw [len_2 (by omega) (by omega)]; simp
  · rw [putU_3 h a b]
    refine no _ _ ?_
    rw [len_3 (by omega) (by omega)]; simp
  · rw [putU_4 h a]
    refine no _ _ ?_
    rw [len_4 (by omega) (by omega)]; simp
theorem UtfBack : shadowboxlaw14_UtfBack.Pure := by
  intro n s hn hs
  refine Ev.rounds ?_
  by_cases h : (s.size : Int) > 2000
  · exact Ev.congr (fun k => by rw [shadowboxlaw14_UtfBack.f, if_pos h]) (Ev.now _)
  have hc := char_bd n
  refine Ev.congr (fun k => by rw [shadowboxlaw14_UtfBack.f, if_neg h]) ?_
  generalize wrap32 (Int.tmod (Go.bits .and .i64 n 2097151) 1114112) = c at hc
  refine Ev.bind (ev_Put [] (by simp) c) ?_
  rw [List.nil_append]
  have key : Ev (fun k => shadowboxlaw14_UtfBack.j0 k s c (putU c) (decide (55296 ≤ c ∧ c ≤ 57343))) true := by
    by_cases hsur : 55296 ≤ c ∧ c ≤ 57343
    · have hno : putU c = [] := putU_no (by unfold rightU; omega)
      rw [decide_eq_true hsur, hno]
      refine Ev.step (fun k => by rw [shadowboxlaw14_UtfBack.j0, if_pos rfl, if_pos (by simp)]) ?_
      refine Ev.bind (ev_Put [] (by simp) 97) ?_
      exact Ev.congr (fun k => show some _ = some true from by rw [show putU 97 = [97] by decide]; rfl) (Ev.now _)
    · have hr : rightU c := by unfold rightU; omega
      have hb := putU_bytes c
      have hl := put_1to4 hr
      have hsz := strOfNums_size (putU c)
      have hnx := next_put hr (bytesOf s)
      have hbs : bytesOf (strOfNums (putU c) ++ s) = putU c ++ bytesOf s := by rw [bytesOf_append, bytesOf_strOf hb]
      have hws : wrap64 (((putU c).length : Int) - 1) = ((putU c).length - 1 : Int) := w64 (by omega)
      rw [decide_eq_false hsur]
      refine Ev.step (fun k => by rw [shadowboxlaw14_UtfBack.j0, if_neg (by decide), if_pos (by rw [hsz]; omega)]) ?_
      refine Ev.bind (ev_Next _ (by rw [ByteArray.size_append, hsz]; omega)) ?_
      rw [hbs, hnx]
      refine Ev.congr (fun k => by rw [if_pos rfl, if_pos rfl, if_neg (by simp only; omega), if_neg (by simp only; omega)]) ?_
      simp only
      rw [hws]
      refine Ev.congr (fun k => by rw [if_pos (by omega), if_pos (by omega)]) ?_
      have htn : ((((putU c).length : Int) - 1 : Int)).toNat = (putU c).length - 1 := by omega
      have hbt : Bytes ((putU c).take ((putU c).length - 1)) := fun x hx => hb x (List.mem_of_mem_take hx)
      rw [htn]
      refine Ev.bind (ev_Next _ (by rw [strOfNums_size, List.length_take]; omega)) ?_
      rw [bytesOf_strOf hbt, none_less hr]
      exact Ev.now _
  by_cases h5 : c ≥ 55296
  · exact Ev.congr (fun k => by rw [if_pos h5, show decide (c ≤ 57343) = decide (55296 ≤ c ∧ c ≤ 57343) by simp only [decide_eq_decide]; omega]) key
  · exact Ev.congr (fun k => by rw [if_neg h5, show false = decide (55296 ≤ c ∧ c ≤ 57343) by symm; simp only [decide_eq_false_iff_not]; omega]) key

end Go.Proofs.Ytcnkndmegnfofaa.Pure

namespace Go.Proofs.Ytcnkndmegnfofaa.utfBack
open Go.ChangeShapes Go.WideShapes Go.ChangeAt Go.RowKit
open Go.ChangeMaps (open_string shut_string)
set_option linter.unusedVariables false
theorem own : ownKnob Try.prog.godebug = none := by kernel_rfl
set_option maxRecDepth 100000 in
theorem lifted (os : Os) (started : os.Started) (H : Type) (enc : TypeId × Value → H) :
    ReturnsInHanded {} Try.checked os 8 .any (Rows.utfBackSpec.pre6 enc Try.prog Try.f8 Rows.utfBackRow.domain false) (Rows.utfBackSpec.post enc Try.prog Try.f8 false true false false) := by
  refine returnsInHanded_of_change_sized (C := Try.checked) own started (by kernel_rfl) Try.func8
    (ChangeSpec.witness6 (enc := enc) (C := Try.checked) false ⟨#[], #[.int .i64 0, .string ByteArray.empty], []⟩ 8 (by kernel_rfl) (by kernel_rfl) (by kernel_rfl) (by kernel_rfl)) ?_
  intro W base args ds gs before hval0 hW hcnd hsz0 _
  have hsz : (DataW.weightsEach Try.prog (Try.f8.params.toList ++ Rows.utfBackSpec.plain.varTypes Try.prog) (ds ++ gs)).all (· ≤ reachBytes) = true := hsz0
  have hval : ∀ (j : Nat) t v, Try.f8.params[j]? = some t → args[j]? = some v → Value.okWide Try.prog W .any base t v := hval0
  have hW' := hW
  obtain ⟨p, q, hA0, hV, rfl, hfz, hnd⟩ := hW
  have hA : DataW.TrodAll enc Try.prog W 0 (fun _ => true) true Try.f8.params.toList args.toList ds p := hA0
  rw [Try.params8] at hA hval hsz
  obtain ⟨v0, vs0, d0, ds0, p0, q0, hargs, rfl, rfl, h0, r0⟩ := trodAll_cons hA
  obtain ⟨v1, vs1, d1, ds1, p1, q1, rfl, rfl, rfl, h1, r1⟩ := trodAll_cons r0
  obtain ⟨rfl, rfl, rfl⟩ := trodAll_nil r1
  obtain rfl : args = #[v0, v1] := by cases args; simp_all
  obtain ⟨rfl, rfl⟩ := trodVars_none hV
  obtain ⟨a0, rfl, rfl, rfl, w0⟩ := open_int Try.underlying3 (hval 0 3 v0 rfl rfl) h0
  obtain ⟨a1, rfl, rfl, rfl, y1⟩ := open_string Try.underlying9 (hval 1 9 v1 rfl rfl) h1
  have w1 : a1.size ≤ 140737488351232 := by
    have z := sized_string hsz (j := 1) (t := 9) rfl rfl
    rw [Array.length_toList] at z
    exact z
  clear hA0 hval0 hsz0 hsz
  refine (P.shadowboxlaw14_UtfBack.walk Pure.UtfBack a0 a1 W w0 w1).mono fun e W' ⟨he, bel⟩ => ?_
  subst he
  exact ⟨_, rfl, _, _, _, [], _, [], hW', trodAll_mk1 (shut_bool Try.underlying4 _), (trodAll_cons_mk (shut_int Try.underlying3 w0) (trodAll_cons_mk (shut_string Try.underlying9 y1) trodAll_mk0)), rfl, bel.frame _, fun h => by cases h⟩
theorem over : Rows.utfBackRow.holds Try.pinned (OpenSpec.ofChange Rows.utfBackSpec) :=
  OpenClaim.holds_of_wide 8 Try.f8 rfl rfl rfl rfl rfl rfl rfl ⟨rfl, rfl, rfl, rfl, rfl⟩ rfl rfl rfl rfl rfl (by kernel_rfl) Try.func8 (by kernel_rfl)
    (of_decide_eq_true (by kernel_rfl)) (by unfold Func.isWrapper; first | (rw [if_pos (by decide +kernel)]; kernel_rfl) | (rw [if_neg (by decide +kernel)]; exact ⟨rfl, rfl⟩))
    (fun os started H enc _ => lifted os started H enc)
theorem proved : Rows.UtfBackSaid := over
#print axioms proved
end Go.Proofs.Ytcnkndmegnfofaa.utfBack
namespace Go.Proofs.Ytcnkndmegnfofaa
/-- The row, under a short name, for the claim. -/
theorem utfBack_holds : Rows.UtfBackSaid := utfBack.proved
end Go.Proofs.Ytcnkndmegnfofaa
