/- Part of the proof of ClockOrder: walks and plain words, merged. -/
import Derived.Test.YtdfghdppbfabfaaBClockOrdera
import Derived.Test.YtdfghdppbfabfaaBClockOrderb
set_option linter.unusedVariables false
set_option linter.unusedSimpArgs false

namespace Go.Proofs.Ytdfghdppbfabfaa.P
open Go.RowKit Go.Proofs.YtdfghdppbfabfaaW.PrintWords Go.Proofs.YtdfghdppbfabfaaW.PrintLast Go.Proofs.YtdfghdppbfabfaaW.PrintMore
attribute [local go_sem] max2_int min2_int max_two min_two max_three min_three max_four min_four   -- for this text's walks alone
set_option linter.unusedVariables false
set_option linter.unusedSimpArgs false

/-! ### hex_Kind: function 44 -/
def hex_Kind.f (a0 : Int) : Option Int := some (kindOf a0)
set_option maxHeartbeats 2000000 in
set_option maxRecDepth 100000 in
theorem hex_Kind.inside (a b c : Int) (p : Addr) (w : World) (hc : w.cell? p = some (.int .u8 c)) :
    Calls Try.prog 65 #[.int .u8 a, .int .u8 b, .pointer (some p)] w fun e w' => e = .returned (.bool (decide (a ≤ c ∧ c ≤ b))) ∧ w' = w := by
  by_cases h1 : a ≤ c
  · have h1b : decide (a ≤ c) = true := decide_eq_true h1
    go_enter Try.func65, Try.ntmps65
    go_wp2
    go_ret
    exact ⟨by simp [h1], rfl⟩
  · have h1b : decide (a ≤ c) = false := decide_eq_false h1
    go_enter Try.func65, Try.ntmps65
    go_wp2
    go_ret
    exact ⟨by simp [h1], rfl⟩
set_option maxHeartbeats 4000000 in
set_option maxRecDepth 100000 in
theorem hex_Kind.calls (a0 : Int) (r : Int) (w : World) (h : hex_Kind.f a0 = some r) :
    Calls Try.prog 44 #[.int .u8 a0] w fun e w' => e = .returned (.int .i64 r) ∧ Below w.heap.size w w' := by
  obtain rfl := Option.some.inj h
  have hmf : ∀ (fn : Fn) (first cap : Array Value) (w : World), (Instr.makeFunc fn first cap).run Try.prog w = .ok (.func fn first cap) w := fun _ _ _ _ => rfl
  go_enter Try.func44, Try.ntmps44
  go_wp2_with (go_at_call 65; refine (hex_Kind.inside _ _ a0 _ _ (by simp)).mono ?_; rintro e w' ⟨rfl, rfl⟩)
  all_goals (go_ret; exact ⟨by unfold kindOf; (repeat (first | rw [if_pos (by omega)] | rw [if_neg (by omega)])); rfl, (Below.refl _ _).alloc (Nat.le_refl _) _⟩)


end Go.Proofs.Ytdfghdppbfabfaa.P

/- Small facts of numbers and bytes. -/
namespace Go.Proofs.Ytdfghdppbfabfaa.P
open Go.RowKit Go.Proofs.YtdfghdppbfabfaaW.PrintWords Go.Proofs.YtdfghdppbfabfaaW.PrintLast Go.Proofs.YtdfghdppbfabfaaW.PrintMore
set_option linter.unusedVariables false
set_option linter.unusedSimpArgs false

theorem w64 {n : Int} (h : -9223372036854775808 ≤ n ∧ n ≤ 9223372036854775807) : wrap64 n = n := IntWalk.wrap64_in n h

/-! ### Kinds of bytes -/
theorem kind1_iff {c : Int} : kindOf c = 1 ↔ 48 ≤ c ∧ c ≤ 57 := by
  unfold kindOf
  constructor
  · intro h
    split at h
    · assumption
    · split at h
      · omega
      · split at h
        · omega
        · split at h <;> omega
  · intro h; rw [if_pos h]
theorem kind2_iff {c : Int} : kindOf c = 2 ↔ 97 ≤ c ∧ c ≤ 102 := by
  unfold kindOf
  constructor
  · intro h
    split at h
    · omega
    · split at h
      · assumption
      · split at h
        · omega
        · split at h <;> omega
  · intro h; rw [if_neg (by omega), if_pos h]

/-! ### Hex -/
theorem hexD_at (n : Int) (h0 : 0 ≤ n) (h1 : n < 16) : bt (⟨#[48, 49, 50, 51, 52, 53, 54, 55, 56, 57, 97, 98, 99, 100, 101, 102]⟩ : ByteArray) n = hexD n := by
  have key : ∀ m : Fin 16, bt (⟨#[48, 49, 50, 51, 52, 53, 54, 55, 56, 57, 97, 98, 99, 100, 101, 102]⟩ : ByteArray) (m.val : Int) = hexD (m.val : Int) := by decide +kernel
  obtain ⟨m, rfl⟩ := Int.eq_ofNat_of_zero_le h0
  exact key ⟨m, by omega⟩
theorem and15 (x : Int) (h0 : 0 ≤ x) (h1 : x ≤ 255) : Go.bits .and .u8 x 15 = x % 16 := by
  exact u8_and15 x h0 (by omega)
theorem or16 (a b : Int) (h0 : 0 ≤ a) (h1 : a ≤ 15) (h2 : 0 ≤ b) (h3 : b ≤ 15) : Go.bits .or .u8 ((a * 16) % 256) b = 16 * a + b := by
  rw [show (a * 16) % 256 = 16 * a by omega]
  exact bits_join .u8 8 (by decide) wraps_u8 4 (16 * a) b (by omega) (by omega) (by omega) h2 (by omega) (by omega)
theorem rd_get (l : List Int) (i : Nat) (h : i < l.length) : rd l (i : Int) = l[i] := by
  unfold rd
  rw [Int.toNat_natCast, List.getD_eq_getElem?_getD, List.getElem?_eq_getElem h]
  rfl
theorem drop_bt (s : ByteArray) (i : Nat) (h : i < s.size) : (bytesOf s).drop i = bt s (i : Int) :: (bytesOf s).drop (i + 1) := by
  have hl : i < (bytesOf s).length := by rw [bytesOf_len]; exact h
  rw [bt_eq, List.getD_eq_getElem?_getD, List.getElem?_eq_getElem hl]
  exact List.drop_eq_getElem_cons hl
theorem drop_two (s : ByteArray) (i : Nat) (h : i + 1 < s.size) : (bytesOf s).drop i = bt s (i : Int) :: bt s ((i + 1 : Nat) : Int) :: (bytesOf s).drop (i + 2) := by
  rw [drop_bt s i (by omega), drop_bt s (i + 1) h]
theorem toList_strOf (l : List Int) (hl : Bytes l) (s : ByteArray) : (strOfNums l).toList = s.toList ↔ l = bytesOf s := by
  rw [toList_inj]
  constructor
  · rintro rfl; rw [bytesOf_strOf hl]
  · rintro rfl; rw [strOf_bytesOf]
theorem take_bytes (s : ByteArray) (j : Nat) : bytesOf (s.extract 0 j) = (bytesOf s).take j := by rw [bytesOf_extract, List.drop_zero, Nat.sub_zero]
theorem drop_bytes (s : ByteArray) (j : Nat) : bytesOf (s.extract j s.size) = (bytesOf s).drop j := by
  rw [bytesOf_extract, List.take_of_length_le (by rw [List.length_drop, bytesOf_len]; omega)]
end Go.Proofs.Ytdfghdppbfabfaa.P

/- The calendar: days, months, years, the program's and the reference's. -/
namespace Go.Proofs.Ytdfghdppbfabfaa.P
open Go.RowKit Go.Proofs.YtdfghdppbfabfaaW.PrintWords Go.Proofs.YtdfghdppbfabfaaW.PrintLast Go.Proofs.YtdfghdppbfabfaaW.PrintMore
set_option linter.unusedVariables false
set_option linter.unusedSimpArgs false

theorem wk64 {n : Int} (h : -9223372036854775808 ≤ n ∧ n ≤ 9223372036854775807) : wrap64 n = n := IntWalk.wrap64_in n h
theorem tdiv_nn {a : Int} (b : Int) (h : 0 ≤ a) : Int.tdiv a b = a / b := Int.tdiv_eq_ediv_of_nonneg h
theorem tmod_nn {a : Int} (b : Int) (h : 0 ≤ a) : Int.tmod a b = a % b := Int.tmod_eq_emod_of_nonneg h
def aheadY (y : Int) : Int := (y - 1) * 365 + (y - 1) / 4 - (y - 1) / 100 + (y - 1) / 400
def lenY (y : Int) : Int := if leapY y then 366 else 365
theorem leap_iff {y : Int} (h : 0 ≤ y) : leapY y ↔ y % 4 = 0 ∧ (y % 100 ≠ 0 ∨ y % 400 = 0) := by
  unfold leapY
  rw [tmod_nn 4 h, tmod_nn 100 h, tmod_nn 400 h]
theorem lenY_bd (y : Int) : 365 ≤ lenY y ∧ lenY y ≤ 366 := by unfold lenY; split <;> omega
theorem ahead_succ {y : Int} (h : 1 ≤ y) : aheadY (y + 1) = aheadY y + lenY y := by
  unfold aheadY lenY
  have hi := leap_iff (show 0 ≤ y by omega)
  by_cases hl : leapY y
  · rw [if_pos hl]
    have := hi.1 hl
    omega
  · rw [if_neg hl]
    have : ¬ (y % 4 = 0 ∧ (y % 100 ≠ 0 ∨ y % 400 = 0)) := fun e => hl (hi.2 e)
    omega
theorem ahead_mono {a b : Int} (h : a ≤ b) : aheadY a ≤ aheadY b := by
  by_cases e : a = b
  · rw [e]; exact Int.le_refl _
  · unfold aheadY; omega
theorem ahead_lt {a b : Int} (h : aheadY a < aheadY b) : a < b := by
  by_cases e : a < b
  · exact e
  · have := ahead_mono (show b ≤ a by omega); omega
def cumM (y : Int) : Nat → Int
  | 0 => 0
  | n + 1 => cumM y n + daysOf y ((n : Int) + 1)
theorem days_bd (y m : Int) : 0 ≤ daysOf y m ∧ daysOf y m ≤ 31 := by
  unfold daysOf
  split
  · omega
  · split
    · split <;> omega
    · split <;> omega
theorem days_pos {y m : Int} (h : 1 ≤ daysOf y m) : 1 ≤ m ∧ m ≤ 12 := by
  by_cases e : m < 1 ∨ m > 12
  · unfold daysOf at h; rw [if_pos e] at h; omega
  · omega
theorem cum_12 (y : Int) : cumM y 12 = lenY y := by
  unfold lenY
  by_cases h : leapY y
  · simp [cumM, daysOf, h]
  · simp [cumM, daysOf, h]
theorem cum_mono (y : Int) {a b : Nat} (h : a ≤ b) : cumM y a ≤ cumM y b := by
  induction h with
  | refl => exact Int.le_refl _
  | step _ ih => have := days_bd y; rename_i m _; have := this (m + 1); rw [cumM]; omega
theorem cum_bd (y : Int) {a : Nat} (h : a ≤ 12) : 0 ≤ cumM y a ∧ cumM y a ≤ 366 := by
  have h1 := cum_mono y h
  have h2 := cum_mono y (Nat.zero_le a)
  rw [cum_12] at h1
  have := lenY_bd y
  rw [show cumM y 0 = 0 from rfl] at h2
  omega
def dayN (Y M D : Int) : Int := aheadY Y + cumM Y (M - 1).toNat + D - 1
structure IsT (N Y M D : Int) : Prop where
  y0 : 1 ≤ Y
  y1 : Y ≤ 9999
  m0 : 1 ≤ M
  m1 : M ≤ 12
  d0 : 1 ≤ D
  d1 : D ≤ daysOf Y M
  n : dayN Y M D = N
theorem month_step {Y M : Int} (h : 1 ≤ M) : cumM Y M.toNat = cumM Y (M - 1).toNat + daysOf Y M := by
  obtain ⟨i, rfl⟩ : ∃ i : Nat, M = i + 1 := ⟨(M - 1).toNat, by omega⟩
  rw [show ((i : Int) + 1).toNat = i + 1 by omega, show ((i : Int) + 1 - 1).toNat = i by omega, cumM]
theorem IsT.within {N Y M D : Int} (h : IsT N Y M D) : aheadY Y ≤ N ∧ N < aheadY (Y + 1) := by
  have hs := ahead_succ h.y0
  have hm := month_step (Y := Y) h.m0
  have hc := cum_mono Y (show M.toNat ≤ 12 by have := h.m1; omega)
  have hc0 := cum_bd Y (show (M - 1).toNat ≤ 12 by have := h.m1; omega)
  rw [cum_12] at hc
  have := h.n
  have := h.d0
  have := h.d1
  unfold dayN at *
  omega
/-- Days in order are days of years, months and days in order. -/
theorem IsT.lt {N Y M D N' Y' M' D' : Int} (h : IsT N Y M D) (h' : IsT N' Y' M' D') (hl : Y < Y' ∨ (Y = Y' ∧ (M < M' ∨ (M = M' ∧ D < D')))) : N < N' := by
  have w1 := h.within
  have w2 := h'.within
  rcases hl with hl | ⟨rfl, hl | ⟨rfl, hl⟩⟩
  · have := ahead_mono (show Y + 1 ≤ Y' by omega)
    omega
  · have e1 := h.n
    have e2 := h'.n
    have hm := month_step (Y := Y) h.m0
    have hc := cum_mono Y (show M.toNat ≤ (M' - 1).toNat by have := h.m0; omega)
    have := h.d1
    have := h'.d0
    unfold dayN at e1 e2
    omega
  · have e1 := h.n
    have e2 := h'.n
    unfold dayN at e1 e2
    omega
theorem IsT.one {N Y M D Y' M' D' : Int} (h : IsT N Y M D) (h' : IsT N Y' M' D') : Y = Y' ∧ M = M' ∧ D = D' := by
  have a : ¬ (Y < Y' ∨ (Y = Y' ∧ (M < M' ∨ (M = M' ∧ D < D')))) := fun e => Int.lt_irrefl _ (h.lt h' e)
  have b : ¬ (Y' < Y ∨ (Y' = Y ∧ (M' < M ∨ (M' = M ∧ D' < D)))) := fun e => Int.lt_irrefl _ (h'.lt h e)
  omega
theorem ahead_eq {y : Int} (h : 1 ≤ y) (h2 : y ≤ 100000) : clock_ahead.f y = some (aheadY y) := by
  unfold clock_ahead.f aheadY
  rw [wk64 (n := y - 1) (by omega), wk64 (n := (y - 1) * 365) (by omega), tdiv_nn 4 (by omega), tdiv_nn 100 (by omega), tdiv_nn 400 (by omega), wk64 (n := (y - 1) / 4) (by omega), wk64 (n := (y - 1) / 100) (by omega), wk64 (n := (y - 1) / 400) (by omega)]
  rw [wk64 (n := (y - 1) * 365 + (y - 1) / 4) (by omega), wk64 (n := (y - 1) * 365 + (y - 1) / 4 - (y - 1) / 100) (by omega), wk64 (by omega)]
theorem days_eq (y m : Int) : clock_Days.f y m = some (daysOf y m) := rfl
end Go.Proofs.Ytdfghdppbfabfaa.P

namespace Go.Proofs.Ytdfghdppbfabfaa.P
open Go.RowKit Go.Proofs.YtdfghdppbfabfaaW.PrintWords Go.Proofs.YtdfghdppbfabfaaW.PrintLast Go.Proofs.YtdfghdppbfabfaaW.PrintMore
attribute [local go_sem] max2_int min2_int max_two min_two max_three min_three max_four min_four   -- for this text's walks alone
set_option linter.unusedVariables false
set_option linter.unusedSimpArgs false

/-! ### clock_Seconds: function 18 -/
def clock_Seconds.f (k : Nat) (a0_0 : Int) (a0_1 : Int) (a0_2 : Int) (a0_3 : Int) (a0_4 : Int) (a0_5 : Int) : Option (Int × Bool) := (clock_Time_right.f a0_0 a0_1 a0_2 a0_3 a0_4 a0_5).bind fun t218 => (if t218 = true then ((clock_Time_day.f k a0_0 a0_1 a0_2 a0_3 a0_4 a0_5).bind fun t219 => (some (wrap64 ((wrap64 ((wrap64 ((wrap64 ((wrap64 (t219 - 719162)) * 86400)) + (wrap64 (a0_3 * 3600)))) + (wrap64 (a0_4 * 60)))) + a0_5), true))) else (some (0, false)))
theorem clock_Seconds.mono : ∀ a0 a1 a2 a3 a4 a5 k, LeO (clock_Seconds.f k a0 a1 a2 a3 a4 a5) (clock_Seconds.f (k + 1) a0 a1 a2 a3 a4 a5) := by
  intro a0 a1 a2 a3 a4 a5 k
  unfold clock_Seconds.f
  repeat' first
      | (with_reducible exact clock_Time_day.mono _ _ _ _ _ _ _)
      | (with_reducible exact LeO.refl _)
      | (with_reducible exact LeO.none _)
      | (with_reducible refine LeO.ite ?_ ?_)
      | (with_reducible refine LeO.bind ?_ (fun _ => ?_))
      | exact clock_Time_day.mono _ _ _ _ _ _ _
      | exact LeO.none _
      | refine LeO.ite ?_ ?_
      | refine LeO.bind ?_ (fun _ => ?_)
def clock_Seconds.T3 : Bool × List (List Nat × List Nat) := (true, [([], []), ([0], [0]), ([1], [1]), ([2], [2]), ([], []), ([4], [4]), ([5], [5]), ([3, 6], [3, 6]), ([], []), ([8], [8]), ([9], [9]), ([7, 10], [7, 10]), ([], []), ([12], [12]), ([11, 13], [11, 13]), ([14, 1, 0, 1, 2, 3, 4, 5, 6, 7, 8, 9, 10, 11, 12, 13, 14], [14]), ([15, 0, 1, 2, 3, 4, 5, 6, 7, 8, 9, 10, 11, 12, 13, 14, 15], [])])
def clock_Seconds.B3 : List Nat := [0, 1, 3, 7, 0, 16, 48, 127, 0, 256, 768, 2047, 0, 4096, 16383, 32767, 65535]
theorem clock_Seconds.tab3 : rtab .any (opsOf Try.f18 3) = clock_Seconds.T3 := by kernel_rfl
theorem clock_Seconds.bits3 : waitsOk clock_Seconds.T3.2 clock_Seconds.B3 = true := by kernel_rfl
set_option maxHeartbeats 8000000 in
set_option maxRecDepth 100000 in
theorem clock_Seconds.calls (k : Nat) (a0_0 : Int) (a0_1 : Int) (a0_2 : Int) (a0_3 : Int) (a0_4 : Int) (a0_5 : Int) (r1 : Int) (r2 : Bool) (w : World) (h : clock_Seconds.f k a0_0 a0_1 a0_2 a0_3 a0_4 a0_5 = some (r1, r2)) :
    Calls Try.prog 18 #[.agg #[.int .i64 a0_0, .int .i64 a0_1, .int .i64 a0_2, .int .i64 a0_3, .int .i64 a0_4, .int .i64 a0_5]] w fun e w' => e = .returned (.tuple #[.int .i64 r1, .bool r2]) ∧ Below w.heap.size w w' := by
  have hu28 := Try.underlying28
  have HB := Aside0.mk (Below.refl w.heap.size w)
  have H : ((clock_Time_right.f a0_0 a0_1 a0_2 a0_3 a0_4 a0_5).bind fun t218 => (if t218 = true then ((clock_Time_day.f k a0_0 a0_1 a0_2 a0_3 a0_4 a0_5).bind fun t219 => (some (wrap64 ((wrap64 ((wrap64 ((wrap64 ((wrap64 (t219 - 719162)) * 86400)) + (wrap64 (a0_3 * 3600)))) + (wrap64 (a0_4 * 60)))) + a0_5), true))) else (some (0, false)))) = some (r1, r2) := h
  clear h
  replace H := Option.bind_eq_some_iff.mp H
  obtain ⟨t218, A20, H⟩ := H
  replace H : (if t218 = true then ((clock_Time_day.f k a0_0 a0_1 a0_2 a0_3 a0_4 a0_5).bind fun t219 => (some (wrap64 ((wrap64 ((wrap64 ((wrap64 ((wrap64 (t219 - 719162)) * 86400)) + (wrap64 (a0_3 * 3600)))) + (wrap64 (a0_4 * 60)))) + a0_5), true))) else (some (0, false))) = some (r1, r2) := H
  have A2 := Aside0.mk A20
  clear A20
  by_cases c3 : t218 = true
  · subst c3
    have H1 : ((clock_Time_day.f k a0_0 a0_1 a0_2 a0_3 a0_4 a0_5).bind fun t219 => (some (wrap64 ((wrap64 ((wrap64 ((wrap64 ((wrap64 (t219 - 719162)) * 86400)) + (wrap64 (a0_3 * 3600)))) + (wrap64 (a0_4 * 60)))) + a0_5), true))) = some (r1, r2) := by rw [if_pos rfl] at H; exact H
    clear H
    have H := H1
    clear H1
    replace H := Option.bind_eq_some_iff.mp H
    obtain ⟨t219, A40, H⟩ := H
    replace H : (some (wrap64 ((wrap64 ((wrap64 ((wrap64 ((wrap64 (t219 - 719162)) * 86400)) + (wrap64 (a0_3 * 3600)))) + (wrap64 (a0_4 * 60)))) + a0_5), true)) = some (r1, r2) := H
    have A4 := Aside0.mk A40
    clear A40
    simp only [Option.some.injEq, Prod.mk.injEq] at H
    obtain ⟨rfl, rfl⟩ := H
    go_enter Try.func18, Try.ntmps18
    try go_wp2_with (first | ((with_reducible refine gate_dst (N := 1) rfl ?_); refine box_event ?hg (N := 1) ?hd (cs := #[.int .i64 a0_0, .int .i64 a0_1, .int .i64 a0_2, .int .i64 a0_3, .int .i64 a0_4, .int .i64 a0_5]) (t := 28) ?hr ?_; (case hd => rfl); (case hg => rfl); (case hr => first | (go_simp; done) | (go_simp; rfl)); intro gb217 hg w5 hbox hb; have n0_ := Aside0.mk (below_step (by repeat (first | (with_reducible first | exact HB.out | apply below_alloc | apply pw_below_drewN | apply below_drew1) | exact HB.out)) hb); have n1_ := Aside0.mk (hbox); have n2_ := Aside0.mk ((by rw [hg]; exact (below_size (by repeat (first | (with_reducible first | exact HB.out | apply below_alloc | apply pw_below_drewN | apply below_drew1) | exact HB.out))) : w.heap.size ≤ gb217)); have n3_ := Aside0.mk ((by rw [hg]; exact (below_size (by repeat (first | (with_reducible first | exact HB.out | apply below_alloc | apply pw_below_drewN | apply below_drew1) | exact HB.out))) : w.heap.size ≤ gb217)); clear HB; have HB := n0_; have BK217 := n1_; have GW217 := n2_; have GE217 := n3_; clear n0_ n1_ n2_ n3_; clear hb hbox hg; have hcz6_0 : w5.cell? ⟨gb217, 0, none⟩ = some (.int .i64 a0_0) := (blk_cell BK217.out 0).trans rfl; have hcz6_1 : w5.cell? ⟨gb217, 1, none⟩ = some (.int .i64 a0_1) := (blk_cell BK217.out 1).trans rfl; have hcz6_2 : w5.cell? ⟨gb217, 2, none⟩ = some (.int .i64 a0_2) := (blk_cell BK217.out 2).trans rfl; have hcz6_3 : w5.cell? ⟨gb217, 3, none⟩ = some (.int .i64 a0_3) := (blk_cell BK217.out 3).trans rfl; have hcz6_4 : w5.cell? ⟨gb217, 4, none⟩ = some (.int .i64 a0_4) := (blk_cell BK217.out 4).trans rfl; have hcz6_5 : w5.cell? ⟨gb217, 5, none⟩ = some (.int .i64 a0_5) := (blk_cell BK217.out 5).trans rfl; have hfz6_0 := blk_frozen BK217.out 0; have hfz6_1 := blk_frozen BK217.out 1; have hfz6_2 := blk_frozen BK217.out 2; have hfz6_3 := blk_frozen BK217.out 3; have hfz6_4 := blk_frozen BK217.out 4; have hfz6_5 := blk_frozen BK217.out 5) | ((with_reducible refine gate_callee (f := 46) rfl ?_); refine goesL_ (some 5) rfl rfl Try.func46 (by kernel_rfl) rfl #[.agg #[.int .i64 a0_0, .int .i64 a0_1, .int .i64 a0_2, .int .i64 a0_3, .int .i64 a0_4, .int .i64 a0_5]] rfl (by (try simp only [List.map_toArray, List.map_cons, List.map_nil]); first | done | rfl | (simp only [List.length_drop, List.length_take]; rfl)) ?_; (with_reducible refine (clock_Time_right.calls a0_0 a0_1 a0_2 a0_3 a0_4 a0_5 true _ A2.out).mono ?_); rintro e w7 ⟨rfl, hb⟩; refine ⟨_, rfl, ?_⟩; have n0_ := Aside0.mk (blk_below (g := gb217) (o := .cells #[.int .i64 a0_0, .int .i64 a0_1, .int .i64 a0_2, .int .i64 a0_3, .int .i64 a0_4, .int .i64 a0_5] 28 (0, 0)) (by (with_reducible repeat (first | refine blk_drewN ?_ _ | refine blk_drew ?_ | refine blk_alloc ?_ _)); exact BK217.out) hb); have n1_ := Aside0.mk (below_step (by repeat (first | (with_reducible first | exact HB.out | apply below_alloc | apply pw_below_drewN | apply below_drew1 | refine below_set ?_ GE217.out) | exact HB.out)) hb); clear BK217; clear HB; have BK217 := n0_; have HB := n1_; clear n0_ n1_; (try clear hb); (try clear hb2); (try clear hk); (try clear hi)))
    have n0_ := Aside0.mk (blk_drew BK217.out)
    have n1_ := Aside0.mk (below_drew1 HB.out)
    clear BK217
    clear HB
    have BK217 := n0_
    have HB := n1_
    clear n0_ n1_
    refine start_ (n := 17) (S := fun w' => w'.cell? ⟨gb217, 0, none⟩ = some (.int .i64 a0_0) ∧ w'.cell? ⟨gb217, 1, none⟩ = some (.int .i64 a0_1) ∧ w'.cell? ⟨gb217, 2, none⟩ = some (.int .i64 a0_2) ∧ w'.cell? ⟨gb217, 3, none⟩ = some (.int .i64 a0_3) ∧ w'.cell? ⟨gb217, 4, none⟩ = some (.int .i64 a0_4) ∧ w'.cell? ⟨gb217, 5, none⟩ = some (.int .i64 a0_5)) (ds := []) #[false, false, false, false, false, false, false, false, false, false, false, false, false, false, false, false, false] (by kernel_rfl) rfl rfl ⟨(blk_cell BK217.out 0).trans rfl, (blk_cell BK217.out 1).trans rfl, (blk_cell BK217.out 2).trans rfl, (blk_cell BK217.out 3).trans rfl, (blk_cell BK217.out 4).trans rfl, (blk_cell BK217.out 5).trans rfl⟩ (fun hHeld => ?_); refine with_tabW clock_Seconds.tab3 clock_Seconds.bits3 (fun HT_ HW_ => ?_)
    generalize w7.drew = w8 at BK217 HB hHeld ⊢
    refine pure_ (i := 4) (N := some 11) (v := ?_) (a' := ?_) #[false, false, false, false, true, false, false, false, false, false, false, false, false, false, false, false, false] rfl rfl (any_of HT_.out (by kernel_rfl)) (fun _ _ _ h => h) (Or.inl ⟨by rfl, ?_⟩) ?_ ?_
    rotate_left
    · intro w'
      go_simp
      with_reducible rfl
    rotate_left
    · simp only [Act.put, List.setIfInBounds_toArray, List.set_cons_zero, List.set_cons_succ, i64_w, i32_w]
      rfl
    refine pure_ (i := 8) (N := some 15) (v := ?_) (a' := ?_) #[false, false, false, false, true, false, false, false, true, false, false, false, false, false, false, false, false] rfl rfl (any_of HT_.out (by kernel_rfl)) (fun _ _ _ h => h) (Or.inl ⟨by rfl, ?_⟩) ?_ ?_
    rotate_left
    · intro w'
      go_simp
      with_reducible rfl
    rotate_left
    · simp only [Act.put, List.setIfInBounds_toArray, List.set_cons_zero, List.set_cons_succ, i64_w, i32_w]
      rfl
    refine pure_ (i := 12) (N := some 19) (v := ?_) (a' := ?_) #[false, false, false, false, true, false, false, false, true, false, false, false, true, false, false, false, false] rfl rfl (any_of HT_.out (by kernel_rfl)) (fun _ _ _ h => h) (Or.inl ⟨by rfl, ?_⟩) ?_ ?_
    rotate_left
    · intro w'
      go_simp
      with_reducible rfl
    rotate_left
    · simp only [Act.put, List.setIfInBounds_toArray, List.set_cons_zero, List.set_cons_succ, i64_w, i32_w]
      rfl
    refine take_ (i := 0) (N := some 7) (v := ?_) (a' := ?_) #[true, false, false, false, true, false, false, false, true, false, false, false, true, false, false, false, false] rfl rfl (take_ofW HT_.out HW_.out (by kernel_rfl)) (fun _ _ _ h => h) (Or.inl ⟨by rfl, ?_⟩) hHeld ?_ ?_
    rotate_left
    · rintro w' ⟨s0, s1, s2, s3, s4, s5⟩
      go_simp
      with_reducible rfl
    rotate_left
    · simp only [Act.put, List.setIfInBounds_toArray, List.set_cons_zero, List.set_cons_succ, i64_w, i32_w]
      rfl
    refine take_ (i := 5) (N := some 12) (v := ?_) (a' := ?_) #[true, false, false, false, true, true, false, false, true, false, false, false, true, false, false, false, false] rfl rfl (take_ofW HT_.out HW_.out (by kernel_rfl)) (fun _ _ _ h => h) (Or.inl ⟨by rfl, ?_⟩) hHeld ?_ ?_
    rotate_left
    · rintro w' ⟨s0, s1, s2, s3, s4, s5⟩
      go_simp
      with_reducible rfl
    rotate_left
    · simp only [Act.put, List.setIfInBounds_toArray, List.set_cons_zero, List.set_cons_succ, i64_w, i32_w]
      rfl
    refine pure_ (i := 6) (N := some 13) (v := ?_) (a' := ?_) #[true, false, false, false, true, true, true, false, true, false, false, false, true, false, false, false, false] rfl rfl (any_of HT_.out (by kernel_rfl)) (fun _ _ _ h => h) (Or.inl ⟨by rfl, ?_⟩) ?_ ?_
    rotate_left
    · intro w'
      go_simp
      with_reducible rfl
    rotate_left
    · simp only [Act.put, List.setIfInBounds_toArray, List.set_cons_zero, List.set_cons_succ, i64_w, i32_w]
      rfl
    refine take_ (i := 9) (N := some 16) (v := ?_) (a' := ?_) #[true, false, false, false, true, true, true, false, true, true, false, false, true, false, false, false, false] rfl rfl (take_ofW HT_.out HW_.out (by kernel_rfl)) (fun _ _ _ h => h) (Or.inl ⟨by rfl, ?_⟩) hHeld ?_ ?_
    rotate_left
    · rintro w' ⟨s0, s1, s2, s3, s4, s5⟩
      go_simp
      with_reducible rfl
    rotate_left
    · simp only [Act.put, List.setIfInBounds_toArray, List.set_cons_zero, List.set_cons_succ, i64_w, i32_w]
      rfl
    refine pure_ (i := 10) (N := some 17) (v := ?_) (a' := ?_) #[true, false, false, false, true, true, true, false, true, true, true, false, true, false, false, false, false] rfl rfl (any_of HT_.out (by kernel_rfl)) (fun _ _ _ h => h) (Or.inl ⟨by rfl, ?_⟩) ?_ ?_
    rotate_left
    · intro w'
      go_simp
      with_reducible rfl
    rotate_left
    · simp only [Act.put, List.setIfInBounds_toArray, List.set_cons_zero, List.set_cons_succ, i64_w, i32_w]
      rfl
    refine take_ (i := 13) (N := some 20) (v := ?_) (a' := ?_) #[true, false, false, false, true, true, true, false, true, true, true, false, true, true, false, false, false] rfl rfl (take_ofW HT_.out HW_.out (by kernel_rfl)) (fun _ _ _ h => h) (Or.inl ⟨by rfl, ?_⟩) hHeld ?_ ?_
    rotate_left
    · rintro w' ⟨s0, s1, s2, s3, s4, s5⟩
      go_simp
      with_reducible rfl
    rotate_left
    · simp only [Act.put, List.setIfInBounds_toArray, List.set_cons_zero, List.set_cons_succ, i64_w, i32_w]
      rfl
    refine one_ (i := 1) (N := some 8) #[true, true, false, false, true, true, true, false, true, true, true, false, true, true, false, false, false] rfl rfl (one_of HT_.out (by kernel_rfl)) (by decide) (fun K hK => ?_)
    refine goes_ Try.func47 (by kernel_rfl) rfl #[.agg #[.int .i64 a0_0, .int .i64 a0_1, .int .i64 a0_2, .int .i64 a0_3, .int .i64 a0_4, .int .i64 a0_5]] (by rfl) rfl rfl (by (try simp only [List.map_toArray, List.map_cons, List.map_nil]); first | done | rfl | (simp only [List.length_drop, List.length_take]; rfl)) ?_
    with_reducible refine (clock_Time_day.calls k a0_0 a0_1 a0_2 a0_3 a0_4 a0_5 t219 _ A4.out).mono ?_
    rintro e w9 ⟨rfl, hb⟩
    refine ⟨_, rfl, ?_⟩
    have n0_ := Aside0.mk (blk_below (g := gb217) (o := .cells #[.int .i64 a0_0, .int .i64 a0_1, .int .i64 a0_2, .int .i64 a0_3, .int .i64 a0_4, .int .i64 a0_5] 28 (0, 0)) (by (with_reducible repeat (first | refine blk_drewN ?_ _ | refine blk_drew ?_ | refine blk_alloc ?_ _)); exact BK217.out) hb)
    have n1_ := Aside0.mk (below_step (by repeat (first | (with_reducible first | exact HB.out | apply below_alloc | apply pw_below_drewN | apply below_drew1 | refine below_set ?_ GE217.out) | exact HB.out)) hb)
    clear BK217
    clear HB
    have BK217 := n0_
    have HB := n1_
    clear n0_ n1_
    (try clear hb)
    (try clear hb2)
    (try clear hk)
    (try clear hi)
    refine hK.out _ _ ⟨(blk_cell BK217.out 0).trans rfl, (blk_cell BK217.out 1).trans rfl, (blk_cell BK217.out 2).trans rfl, (blk_cell BK217.out 3).trans rfl, (blk_cell BK217.out 4).trans rfl, (blk_cell BK217.out 5).trans rfl⟩ (fun hHeld => ?_)
    clear hK K
    refine norm_ (a' := ?_) ?_ ?_
    rotate_left
    · show Act.put _ (some 8) _ = _
      simp only [Act.put, List.setIfInBounds_toArray, List.set_cons_zero, List.set_cons_succ, i64_w, i32_w]
      rfl
    refine pure_ (i := 2) (N := some 9) (v := ?_) (a' := ?_) #[true, true, true, false, true, true, true, false, true, true, true, false, true, true, false, false, false] rfl rfl (any_of HT_.out (by kernel_rfl)) (fun _ _ _ h => h) (Or.inl ⟨by rfl, ?_⟩) ?_ ?_
    rotate_left
    · intro w'
      go_simp
      with_reducible rfl
    rotate_left
    · simp only [Act.put, List.setIfInBounds_toArray, List.set_cons_zero, List.set_cons_succ, i64_w, i32_w]
      rfl
    refine pure_ (i := 3) (N := some 10) (v := ?_) (a' := ?_) #[true, true, true, true, true, true, true, false, true, true, true, false, true, true, false, false, false] rfl rfl (any_of HT_.out (by kernel_rfl)) (fun _ _ _ h => h) (Or.inl ⟨by rfl, ?_⟩) ?_ ?_
    rotate_left
    · intro w'
      go_simp
      with_reducible rfl
    rotate_left
    · simp only [Act.put, List.setIfInBounds_toArray, List.set_cons_zero, List.set_cons_succ, i64_w, i32_w]
      rfl
    refine pure_ (i := 7) (N := some 14) (v := ?_) (a' := ?_) #[true, true, true, true, true, true, true, true, true, true, true, false, true, true, false, false, false] rfl rfl (any_of HT_.out (by kernel_rfl)) (fun _ _ _ h => h) (Or.inl ⟨by rfl, ?_⟩) ?_ ?_
    rotate_left
    · intro w'
      go_simp
      with_reducible rfl
    rotate_left
    · simp only [Act.put, List.setIfInBounds_toArray, List.set_cons_zero, List.set_cons_succ, i64_w, i32_w]
      rfl
    refine pure_ (i := 11) (N := some 18) (v := ?_) (a' := ?_) #[true, true, true, true, true, true, true, true, true, true, true, true, true, true, false, false, false] rfl rfl (any_of HT_.out (by kernel_rfl)) (fun _ _ _ h => h) (Or.inl ⟨by rfl, ?_⟩) ?_ ?_
    rotate_left
    · intro w'
      go_simp
      with_reducible rfl
    rotate_left
    · simp only [Act.put, List.setIfInBounds_toArray, List.set_cons_zero, List.set_cons_succ, i64_w, i32_w]
      rfl
    refine pure_ (i := 14) (N := some 21) (v := ?_) (a' := ?_) #[true, true, true, true, true, true, true, true, true, true, true, true, true, true, true, false, false] rfl rfl (any_of HT_.out (by kernel_rfl)) (fun _ _ _ h => h) (Or.inl ⟨by rfl, ?_⟩) ?_ ?_
    rotate_left
    · intro w'
      go_simp
      with_reducible rfl
    rotate_left
    · simp only [Act.put, List.setIfInBounds_toArray, List.set_cons_zero, List.set_cons_succ, i64_w, i32_w]
      rfl
    refine pure_ (i := 15) (N := some 2) (v := ?_) (a' := ?_) #[true, true, true, true, true, true, true, true, true, true, true, true, true, true, true, true, false] rfl rfl (any_of HT_.out (by kernel_rfl)) (fun _ _ _ h => h) (Or.inl ⟨by rfl, ?_⟩) ?_ ?_
    rotate_left
    · intro w'
      go_simp
      with_reducible rfl
    rotate_left
    · simp only [Act.put, List.setIfInBounds_toArray, List.set_cons_zero, List.set_cons_succ, i64_w, i32_w]
      rfl
    refine pure_ (i := 16) (N := some 3) (v := ?_) (a' := ?_) #[true, true, true, true, true, true, true, true, true, true, true, true, true, true, true, true, true] rfl rfl (any_of HT_.out (by kernel_rfl)) (fun _ _ _ h => h) (Or.inl ⟨by rfl, ?_⟩) ?_ ?_
    rotate_left
    · intro w'
      go_simp
      with_reducible rfl
    rotate_left
    · simp only [Act.put, List.setIfInBounds_toArray, List.set_cons_zero, List.set_cons_succ, i64_w, i32_w]
      rfl
    refine done_ (done_of HT_.out (by kernel_rfl)) ?_
    try go_wp2
    go_ret2
    exact ⟨by first | rfl | (simp [errW_none, errW_some] <;> rfl) | (simp [*, errW_none, errW_some] <;> rfl), by repeat (first | (with_reducible first | exact HB.out | apply below_alloc | apply pw_below_drewN | apply below_drew1 | refine below_set ?_ GE217.out) | exact HB.out)⟩
  · replace c3 := Bool.eq_false_iff.mpr c3
    subst c3
    have H1 : (some (0, false)) = some (r1, r2) := by rw [if_neg (show ¬ (false = true) by decide)] at H; exact H
    clear H
    have H := H1
    clear H1
    simp only [Option.some.injEq, Prod.mk.injEq] at H
    obtain ⟨rfl, rfl⟩ := H
    go_enter Try.func18, Try.ntmps18
    go_wp2_with (first | ((with_reducible refine gate_dst (N := 1) rfl ?_); refine box_event ?hg (N := 1) ?hd (cs := #[.int .i64 a0_0, .int .i64 a0_1, .int .i64 a0_2, .int .i64 a0_3, .int .i64 a0_4, .int .i64 a0_5]) (t := 28) ?hr ?_; (case hd => rfl); (case hg => rfl); (case hr => first | (go_simp; done) | (go_simp; rfl)); intro gb217 hg w10 hbox hb; have n0_ := Aside0.mk (below_step (by repeat (first | (with_reducible first | exact HB.out | apply below_alloc | apply pw_below_drewN | apply below_drew1) | exact HB.out)) hb); have n1_ := Aside0.mk (hbox); have n2_ := Aside0.mk ((by rw [hg]; exact (below_size (by repeat (first | (with_reducible first | exact HB.out | apply below_alloc | apply pw_below_drewN | apply below_drew1) | exact HB.out))) : w.heap.size ≤ gb217)); have n3_ := Aside0.mk ((by rw [hg]; exact (below_size (by repeat (first | (with_reducible first | exact HB.out | apply below_alloc | apply pw_below_drewN | apply below_drew1) | exact HB.out))) : w.heap.size ≤ gb217)); clear HB; have HB := n0_; have BK217 := n1_; have GW217 := n2_; have GE217 := n3_; clear n0_ n1_ n2_ n3_; clear hb hbox hg; have hcz11_0 : w10.cell? ⟨gb217, 0, none⟩ = some (.int .i64 a0_0) := (blk_cell BK217.out 0).trans rfl; have hcz11_1 : w10.cell? ⟨gb217, 1, none⟩ = some (.int .i64 a0_1) := (blk_cell BK217.out 1).trans rfl; have hcz11_2 : w10.cell? ⟨gb217, 2, none⟩ = some (.int .i64 a0_2) := (blk_cell BK217.out 2).trans rfl; have hcz11_3 : w10.cell? ⟨gb217, 3, none⟩ = some (.int .i64 a0_3) := (blk_cell BK217.out 3).trans rfl; have hcz11_4 : w10.cell? ⟨gb217, 4, none⟩ = some (.int .i64 a0_4) := (blk_cell BK217.out 4).trans rfl; have hcz11_5 : w10.cell? ⟨gb217, 5, none⟩ = some (.int .i64 a0_5) := (blk_cell BK217.out 5).trans rfl; have hfz11_0 := blk_frozen BK217.out 0; have hfz11_1 := blk_frozen BK217.out 1; have hfz11_2 := blk_frozen BK217.out 2; have hfz11_3 := blk_frozen BK217.out 3; have hfz11_4 := blk_frozen BK217.out 4; have hfz11_5 := blk_frozen BK217.out 5) | ((with_reducible refine gate_callee (f := 46) rfl ?_); refine goesL_ (some 5) rfl rfl Try.func46 (by kernel_rfl) rfl #[.agg #[.int .i64 a0_0, .int .i64 a0_1, .int .i64 a0_2, .int .i64 a0_3, .int .i64 a0_4, .int .i64 a0_5]] rfl (by (try simp only [List.map_toArray, List.map_cons, List.map_nil]); first | done | rfl | (simp only [List.length_drop, List.length_take]; rfl)) ?_; (with_reducible refine (clock_Time_right.calls a0_0 a0_1 a0_2 a0_3 a0_4 a0_5 false _ A2.out).mono ?_); rintro e w12 ⟨rfl, hb⟩; refine ⟨_, rfl, ?_⟩; have n0_ := Aside0.mk (blk_below (g := gb217) (o := .cells #[.int .i64 a0_0, .int .i64 a0_1, .int .i64 a0_2, .int .i64 a0_3, .int .i64 a0_4, .int .i64 a0_5] 28 (0, 0)) (by (with_reducible repeat (first | refine blk_drewN ?_ _ | refine blk_drew ?_ | refine blk_alloc ?_ _)); exact BK217.out) hb); have n1_ := Aside0.mk (below_step (by repeat (first | (with_reducible first | exact HB.out | apply below_alloc | apply pw_below_drewN | apply below_drew1 | refine below_set ?_ GE217.out) | exact HB.out)) hb); clear BK217; clear HB; have BK217 := n0_; have HB := n1_; clear n0_ n1_; (try clear hb); (try clear hb2); (try clear hk); (try clear hi)))
    go_ret2
    exact ⟨by first | rfl | (simp [errW_none, errW_some] <;> rfl) | (simp [*, errW_none, errW_some] <;> rfl), by repeat (first | (with_reducible first | exact HB.out | apply below_alloc | apply pw_below_drewN | apply below_drew1 | refine below_set ?_ GE217.out) | exact HB.out)⟩

end Go.Proofs.Ytdfghdppbfabfaa.P

/- Times: right ones, their seconds and weekdays, and the time of any seconds; the program's and the reference's. -/
namespace Go.Proofs.Ytdfghdppbfabfaa.P
open Go.RowKit Go.Proofs.YtdfghdppbfabfaaW.PrintWords Go.Proofs.YtdfghdppbfabfaaW.PrintLast Go.Proofs.YtdfghdppbfabfaaW.PrintMore
set_option linter.unusedVariables false
set_option linter.unusedSimpArgs false

def rightT (Y M D h m s : Int) : Prop := (1 ≤ Y ∧ Y ≤ 9999) ∧ (1 ≤ D ∧ D ≤ daysOf Y M) ∧ (0 ≤ h ∧ h ≤ 23) ∧ (0 ≤ m ∧ m ≤ 59) ∧ (0 ≤ s ∧ s ≤ 59)
instance (Y M D h m s : Int) : Decidable (rightT Y M D h m s) := by unfold rightT; exact inferInstance
theorem in_eq (a b c : Int) : clock_Time_right_1.f a b c = some (decide (b ≤ a ∧ a ≤ c)) := by
  unfold clock_Time_right_1.f
  by_cases h : a ≥ b
  · rw [if_pos h]; congr 1; simp [h]
  · rw [if_neg h]; congr 1; symm; rw [decide_eq_false_iff_not]; omega
theorem right_eq (Y M D h m s : Int) : clock_Time_right.f Y M D h m s = some (decide (rightT Y M D h m s)) := by
  unfold clock_Time_right.f rightT
  simp only [in_eq, days_eq, Option.bind_some]
  by_cases h1 : 1 ≤ Y ∧ Y ≤ 9999
  · by_cases h2 : 1 ≤ D ∧ D ≤ daysOf Y M
    · by_cases h3 : 0 ≤ h ∧ h ≤ 23
      · by_cases h4 : 0 ≤ m ∧ m ≤ 59
        · simp [h1, h2, h3, h4]
        · simp [h1, h2, h3, h4]
      · simp [h1, h2, h3]
    · simp [h1, h2]
  · simp [h1]
/-- The days of the months ahead are added up. -/
theorem ev_day_loop (Y D h m s : Int) (j : Nat) (hj : j ≤ 11) : ∀ (d i : Nat) (x : Int), i + d = j → -1000000000 ≤ x → x ≤ 1000000000 + 31 * i →
    Ev (fun k => clock_Time_day.l0 k x ((i : Int) + 1) Y ((j : Int) + 1) D h m s) (x + cumM Y j - cumM Y i) := by
  intro d
  induction d with
  | zero =>
    intro i x hi h0 h1
    obtain rfl : i = j := by omega
    exact Ev.step (fun k => by rw [clock_Time_day.l0, if_neg (by omega)]) (by rw [show x + cumM Y i - cumM Y i = x by omega]; exact Ev.now _)
  | succ d ih =>
    intro i x hi h0 h1
    have hb := days_bd Y ((i : Int) + 1)
    have e := ih (i + 1) (x + daysOf Y ((i : Int) + 1)) (by omega) (by omega) (by omega)
    rw [cumM] at e
    refine Ev.step (fun k => by rw [clock_Time_day.l0, if_pos (by omega), days_eq, Option.bind_some, wk64 (n := x + daysOf Y ((i : Int) + 1)) (by omega), wk64 (n := (i : Int) + 1 + 1) (by omega)]) ?_
    rw [show x + cumM Y j - cumM Y i = x + daysOf Y (↑i + 1) + cumM Y j - (cumM Y i + daysOf Y (↑i + 1)) by omega]
    exact e
theorem ev_day {Y M D h m s : Int} (hY : 1 ≤ Y ∧ Y ≤ 9999) (hM : 1 ≤ M ∧ M ≤ 12) (hD : 0 ≤ D ∧ D ≤ 1000) : Ev (fun k => clock_Time_day.f k Y M D h m s) (dayN Y M D) := by
  have ha0 := ahead_mono hY.1
  have ha1 := ahead_mono hY.2
  rw [show aheadY 1 = 0 by decide] at ha0
  rw [show aheadY 9999 = 3651694 by decide] at ha1
  obtain ⟨j, rfl⟩ : ∃ j : Nat, M = j + 1 := ⟨(M - 1).toNat, by omega⟩
  unfold clock_Time_day.f dayN
  refine Ev.congr (fun k => by rw [ahead_eq hY.1 (by omega), Option.bind_some, wk64 (n := aheadY Y + D) (by omega), wk64 (n := aheadY Y + D - 1) (by omega)]) ?_
  have e := ev_day_loop Y D h m s j (by omega) j 0 (aheadY Y + D - 1) (by omega) (by omega) (by omega)
  rw [show ((0 : Nat) : Int) + 1 = 1 by rfl, show cumM Y 0 = 0 from rfl] at e
  rw [show ((j : Int) + 1 - 1).toNat = j by omega, show aheadY Y + cumM Y j + D - 1 = aheadY Y + D - 1 + cumM Y j - 0 by omega]
  exact e
theorem right_month {Y M D h m s : Int} (hr : rightT Y M D h m s) : 1 ≤ M ∧ M ≤ 12 := days_pos (y := Y) (by unfold rightT at hr; omega)
theorem right_IsT {Y M D h m s : Int} (hr : rightT Y M D h m s) : IsT (dayN Y M D) Y M D := by
  have hm := right_month hr
  unfold rightT at hr
  exact ⟨hr.1.1, hr.1.2, hm.1, hm.2, hr.2.1.1, hr.2.1.2, rfl⟩
theorem IsT.bd {N Y M D : Int} (h : IsT N Y M D) : 0 ≤ N ∧ N ≤ 3652058 := by
  have hw := h.within
  have h0 := ahead_mono h.y0
  have h1 := ahead_mono (show Y + 1 ≤ 10000 by have := h.y1; omega)
  rw [show aheadY 1 = 0 by decide] at h0
  rw [show aheadY 10000 = 3652059 by decide] at h1
  omega
def secT (Y M D h m s : Int) : Int := (dayN Y M D - 719162) * 86400 + h * 3600 + m * 60 + s
noncomputable def secR (Y M D h m s : Int) : Int × Bool := if rightT Y M D h m s then (secT Y M D h m s, true) else (0, false)
theorem ev_Seconds (Y M D h m s : Int) : Ev (fun k => clock_Seconds.f k Y M D h m s) (secR Y M D h m s) := by
  unfold clock_Seconds.f secR
  by_cases hr : rightT Y M D h m s
  · refine Ev.congr (fun k => by rw [right_eq, Option.bind_some, if_pos (decide_eq_true hr)]) ?_
    have hb := (right_IsT hr).bd
    have hm := right_month hr
    rw [if_pos hr]
    unfold secT
    have hd := days_bd Y M
    unfold rightT at hr
    refine Ev.bind (ev_day hr.1 hm (by omega)) ?_
    generalize dayN Y M D = N at *
    exact Ev.congr (fun k => by rw [wk64 (n := N - 719162) (by omega), wk64 (n := (N - 719162) * 86400) (by omega), wk64 (n := h * 3600) (by omega), wk64 (n := m * 60) (by omega), wk64 (n := (N - 719162) * 86400 + h * 3600) (by omega), wk64 (n := (N - 719162) * 86400 + h * 3600 + m * 60) (by omega), wk64 (n := (N - 719162) * 86400 + h * 3600 + m * 60 + s) (by omega)]) (Ev.now _)
  · rw [if_neg hr]
    exact Ev.congr (fun k => by rw [right_eq, Option.bind_some, if_neg (by simpa using hr)]) (Ev.now _)
noncomputable def weekT (Y M D h m s : Int) : Int := if rightT Y M D h m s then (dayN Y M D + 1) % 7 else -1
theorem ev_Weekday (Y M D h m s : Int) : Ev (fun k => clock_Weekday.f k Y M D h m s) (weekT Y M D h m s) := by
  unfold clock_Weekday.f weekT
  by_cases hr : rightT Y M D h m s
  · refine Ev.congr (fun k => by rw [right_eq, Option.bind_some, if_pos (decide_eq_true hr)]) ?_
    have hb := (right_IsT hr).bd
    have hm := right_month hr
    rw [if_pos hr]
    have hd := days_bd Y M
    unfold rightT at hr
    refine Ev.bind (ev_day hr.1 hm (by omega)) ?_
    exact Ev.congr (fun k => by rw [wk64 (by omega), tmod_nn 7 (by omega)]) (Ev.now _)
  · rw [if_neg hr]
    exact Ev.congr (fun k => by rw [right_eq, Option.bind_some, if_neg (by simpa using hr)]) (Ev.now _)
end Go.Proofs.Ytdfghdppbfabfaa.P

/- The time of any seconds: the program's and the reference's. -/
namespace Go.Proofs.Ytdfghdppbfabfaa.P
open Go.RowKit Go.Proofs.YtdfghdppbfabfaaW.PrintWords Go.Proofs.YtdfghdppbfabfaaW.PrintLast Go.Proofs.YtdfghdppbfabfaaW.PrintMore
set_option linter.unusedVariables false
set_option linter.unusedSimpArgs false

abbrev T7 := Int × Int × Int × Int × Int × Int × Bool
theorem cum_step (Y : Int) (i : Nat) : cumM Y (i + 1) = cumM Y i + daysOf Y ((i : Int) + 1) := rfl
/-- The month that a day of the year is in. -/
theorem ev_Of_month (Y Y' D h m s : Int) (hY : 1 ≤ Y) : ∀ (d i : Nat) (x : Int), i + d = 12 → 0 ≤ x → x + cumM Y i < lenY Y →
    ∃ M E : Int, (1 ≤ M ∧ M ≤ 12) ∧ (1 ≤ E ∧ E ≤ daysOf Y M) ∧ cumM Y (M - 1).toNat + E - 1 = x + cumM Y i ∧
      Ev (fun k => clock_Of.l1 k x Y Y' ((i : Int) + 1) D h m s) ((Y', M, E, h, m, s, true) : T7) := by
  intro d
  induction d with
  | zero =>
    intro i x hi h0 h1
    obtain rfl : i = 12 := by omega
    rw [cum_12] at h1
    omega
  | succ d ih =>
    intro i x hi h0 h1
    have hb := days_bd Y ((i : Int) + 1)
    have hl := lenY_bd Y
    have hc := cum_bd Y (show i ≤ 12 by omega)
    by_cases hx : x ≥ daysOf Y ((i : Int) + 1)
    · obtain ⟨M, E, hM, hE, hn, e⟩ := ih (i + 1) (x - daysOf Y ((i : Int) + 1)) (by omega) (by omega) (by rw [cum_step]; omega)
      refine ⟨M, E, hM, hE, by rw [hn, cum_step]; omega, ?_⟩
      exact Ev.step (fun k => by rw [clock_Of.l1, days_eq, Option.bind_some, if_pos hx, Option.bind_some, wk64 (n := x - daysOf Y ((i : Int) + 1)) (by omega), wk64 (n := (i : Int) + 1 + 1) (by omega)]; rfl) e
    · refine ⟨(i : Int) + 1, x + 1, by omega, by omega, ?_, ?_⟩
      · rw [show ((i : Int) + 1 - 1).toNat = i by omega]; omega
      · exact Ev.step (fun k => by rw [clock_Of.l1, days_eq, Option.bind_some, if_neg hx, wk64 (n := x + 1) (by omega)]) (Ev.now _)
/-- A month and a day of it, of a day of the year. -/
theorem IsT.mk' {N Y M E x : Int} (hY : 1 ≤ Y ∧ Y ≤ 9999) (hM : 1 ≤ M ∧ M ≤ 12) (hE : 1 ≤ E ∧ E ≤ daysOf Y M) (hn : cumM Y (M - 1).toNat + E - 1 = x + cumM Y 0) (hx : x = N - aheadY Y) : IsT N Y M E := by
  rw [show cumM Y 0 = 0 from rfl] at hn
  exact ⟨hY.1, hY.2, hM.1, hM.2, hE.1, hE.2, by unfold dayN; omega⟩
theorem ev_Of_year (N rest : Int) (h0 : 0 ≤ N) (h1 : N < 3652059) (hr : 0 ≤ rest ∧ rest < 86400) : ∀ (d : Nat) (Y : Int), Y + d = 10000 → 1 ≤ Y → aheadY Y ≤ N →
    ∃ Z M E : Int, IsT N Z M E ∧ Ev (fun k => clock_Of.l0 k N rest Y) ((Z, M, E, rest / 3600, rest % 3600 / 60, rest % 60, true) : T7) := by
  intro d
  induction d with
  | zero =>
    intro Y hd hY ha
    obtain rfl : Y = 10000 := by omega
    rw [show aheadY 10000 = 3652059 by decide] at ha
    omega
  | succ d ih =>
    intro Y hd hY ha
    have hs := ahead_succ hY
    by_cases hn : aheadY (Y + 1) ≤ N
    · obtain ⟨Z, M, E, hi, e⟩ := ih (Y + 1) (by omega) (by omega) hn
      refine ⟨Z, M, E, hi, ?_⟩
      exact Ev.step (fun k => by rw [clock_Of.l0, wk64 (n := Y + 1) (by omega), ahead_eq (by omega) (by omega), Option.bind_some, if_pos hn]) e
    · obtain ⟨M, E, hM, hE, hm, e⟩ := ev_Of_month Y Y 0 (rest / 3600) (rest % 3600 / 60) (rest % 60) hY 12 0 (N - aheadY Y) (by omega) (by omega) (by rw [show cumM Y 0 = 0 from rfl]; omega)
      refine ⟨Y, M, E, IsT.mk' ⟨hY, by omega⟩ hM hE hm rfl, ?_⟩
      have hq := ahead_mono hY
      rw [show aheadY 1 = 0 by decide] at hq
      refine Ev.step (fun k => by rw [clock_Of.l0, wk64 (n := Y + 1) (by omega), ahead_eq (by omega) (by omega), Option.bind_some, if_neg hn, ahead_eq (by omega) (by omega), Option.bind_some, wk64 (n := N - aheadY Y) (by omega), tdiv_nn 3600 (by omega), tmod_nn 3600 (by omega), tmod_nn 60 (by omega), tdiv_nn 60 (by omega), wk64 (n := rest / 3600) (by omega), wk64 (n := rest % 3600 / 60) (by omega)]) ?_
      exact e
/-- The year that the search begins with isn't too late. -/
theorem year_least (N : Int) (h0 : 0 ≤ N) (h1 : N < 3652059) : 1 ≤ N / 146097 * 400 + N % 146097 / 366 + 1 ∧ N / 146097 * 400 + N % 146097 / 366 + 1 ≤ 10000 ∧ aheadY (N / 146097 * 400 + N % 146097 / 366 + 1) ≤ N := by
  unfold aheadY
  have e : N = N / 146097 * 146097 + N % 146097 := by omega
  have hq0 : 0 ≤ N / 146097 := by omega
  have hq1 : N / 146097 ≤ 24 := by omega
  have hr0 : 0 ≤ N % 146097 := by omega
  have hr1 : N % 146097 < 146097 := by omega
  generalize N / 146097 = q at *
  generalize N % 146097 = r at *
  have hy0 : 366 * (r / 366) ≤ r := by omega
  have hy1 : r / 366 ≤ 399 := by omega
  have hy2 : 0 ≤ r / 366 := by omega
  generalize r / 366 = y at *
  refine ⟨by omega, by omega, ?_⟩
  omega
noncomputable def ofS (sec : Int) : T7 → Prop := fun t =>
  if -62135596800 ≤ sec ∧ sec ≤ 253402300799 then ∃ Y M D : Int, IsT (sec / 86400 + 719162) Y M D ∧ t = (Y, M, D, sec % 86400 / 3600, sec % 86400 % 3600 / 60, sec % 86400 % 60, true)
  else t = (0, 0, 0, 0, 0, 0, false)
theorem ofS_one {sec : Int} {t u : T7} (h : ofS sec t) (k : ofS sec u) : t = u := by
  unfold ofS at h k
  split at h
  · rename_i hb
    rw [if_pos hb] at k
    obtain ⟨Y, M, D, h1, rfl⟩ := h
    obtain ⟨Y', M', D', h2, rfl⟩ := k
    obtain ⟨rfl, rfl, rfl⟩ := h1.one h2
    rfl
  · rename_i hb
    rw [if_neg hb] at k
    rw [h, k]
theorem ev_Of_j0 (q rest sec : Int) (hq : q = sec / 86400) (hr : rest = sec % 86400) (hw : -9223372036854775808 ≤ sec ∧ sec ≤ 9223372036854775807) : ∃ t, ofS sec t ∧ Ev (fun k => clock_Of.j0 k q rest) t := by
  unfold ofS
  have ha : clock_ahead.f 10000 = some 3652059 := by rw [ahead_eq (by omega) (by omega)]; rfl
  by_cases hb : -62135596800 ≤ sec ∧ sec ≤ 253402300799
  · obtain ⟨l0, l1, l2⟩ := year_least (q + 719162) (by omega) (by omega)
    obtain ⟨Y, M, E, hi, e⟩ := ev_Of_year (q + 719162) rest (by omega) (by omega) (by omega) (10000 - ((q + 719162) / 146097 * 400 + (q + 719162) % 146097 / 366 + 1)).toNat _ (by omega) l0 l2
    refine ⟨_, by rw [if_pos hb]; exact ⟨Y, M, E, by rw [← hq]; exact hi, by rw [← hr]⟩, ?_⟩
    refine Ev.step (fun k => by rw [clock_Of.j0, if_neg (by omega), ha, Option.bind_some, wk64 (n := 3652059 - 719162) (by omega), decide_eq_false (by omega)]) ?_
    refine Ev.step (fun k => by rw [clock_Of.j1, if_neg (by decide), wk64 (n := q + 719162) (by omega), tdiv_nn 146097 (by omega), tmod_nn 146097 (by omega), tdiv_nn 366 (by omega), wk64 (n := (q + 719162) / 146097) (by omega), wk64 (n := (q + 719162) / 146097 * 400) (by omega), wk64 (n := (q + 719162) % 146097 / 366) (by omega), wk64 (n := (q + 719162) / 146097 * 400 + (q + 719162) % 146097 / 366) (by omega), wk64 (n := (q + 719162) / 146097 * 400 + (q + 719162) % 146097 / 366 + 1) (by omega)]) ?_
    exact e
  · refine ⟨_, by rw [if_neg hb], ?_⟩
    by_cases hn : q < -719162
    · exact Ev.step (fun k => by rw [clock_Of.j0, if_pos hn]) (Ev.step (fun k => by rw [clock_Of.j1, if_pos rfl]) (Ev.now _))
    · exact Ev.step (fun k => by rw [clock_Of.j0, if_neg hn, ha, Option.bind_some, wk64 (n := 3652059 - 719162) (by omega), decide_eq_true (by omega)]) (Ev.step (fun k => by rw [clock_Of.j1, if_pos rfl]) (Ev.now _))
theorem tdm (sec : Int) : (Int.tmod sec 86400 < 0 ∧ Int.tdiv sec 86400 - 1 = sec / 86400 ∧ Int.tmod sec 86400 + 86400 = sec % 86400) ∨ (0 ≤ Int.tmod sec 86400 ∧ Int.tdiv sec 86400 = sec / 86400 ∧ Int.tmod sec 86400 = sec % 86400) := by
  by_cases h : 0 ≤ sec
  · right
    rw [tdiv_nn 86400 h, tmod_nn 86400 h]
    omega
  · have e1 : Int.tdiv sec 86400 = -((-sec) / 86400) := by
      rw [← tdiv_nn 86400 (show 0 ≤ -sec by omega), Int.neg_tdiv, Int.neg_neg]
    have e2 : Int.tmod sec 86400 = -((-sec) % 86400) := by
      rw [← tmod_nn 86400 (show 0 ≤ -sec by omega), Int.neg_tmod, Int.neg_neg]
    rw [e1, e2]
    omega
theorem ev_Of (sec : Int) (hw : -9223372036854775808 ≤ sec ∧ sec ≤ 9223372036854775807) : ∃ t, ofS sec t ∧ Ev (fun k => clock_Of.f k sec) t := by
  rcases tdm sec with ⟨h1, h2, h3⟩ | ⟨h1, h2, h3⟩
  · obtain ⟨t, ht, e⟩ := ev_Of_j0 (Int.tdiv sec 86400 - 1) (Int.tmod sec 86400 + 86400) sec h2 h3 hw
    refine ⟨t, ht, Ev.congr (fun k => by rw [clock_Of.f, if_pos h1, wk64 (n := Int.tdiv sec 86400) (by omega), wk64 (n := Int.tdiv sec 86400 - 1) (by omega), wk64 (n := Int.tmod sec 86400 + 86400) (by omega)]) e⟩
  · obtain ⟨t, ht, e⟩ := ev_Of_j0 (Int.tdiv sec 86400) (Int.tmod sec 86400) sec h2 h3 hw
    refine ⟨t, ht, Ev.congr (fun k => by rw [clock_Of.f, if_neg (by omega), wk64 (n := Int.tdiv sec 86400) (by omega)]) e⟩
end Go.Proofs.Ytdfghdppbfabfaa.P

namespace Go.Proofs.Ytdfghdppbfabfaa.P
open Go.RowKit Go.Proofs.YtdfghdppbfabfaaW.PrintWords Go.Proofs.YtdfghdppbfabfaaW.PrintLast Go.Proofs.YtdfghdppbfabfaaW.PrintMore
attribute [local go_sem] max2_int min2_int max_two min_two max_three min_three max_four min_four   -- for this text's walks alone
set_option linter.unusedVariables false
set_option linter.unusedSimpArgs false

/-! ### hex_ReadDecimal: function 69 -/
mutual
def hex_ReadDecimal.j0 : Nat → ByteArray → Bool → Option (Int × Bool)
  | 0, _, _ => none
  | k + 1, x0, x12 => if x12 = true then (some (0, false)) else (hex_ReadDecimal.l0 k x0 0 (x0.size : Int) 0)
def hex_ReadDecimal.l0 : Nat → ByteArray → Int → Int → Int → Option (Int × Bool)
  | 0, _, _, _, _ => none
  | k + 1, x0, x4, x14, x15 => if x15 < x14 then (if 0 ≤ x15 then (if x15 < (x0.size : Int) then ((hex_Kind.f (bt x0 x15)).bind fun t299 => (if t299 = 1 then (hex_ReadDecimal.l0 k x0 (wrap64 ((wrap64 (x4 * 10)) + (((bt x0 x15) - 48) % 256))) x14 (wrap64 (x15 + 1))) else (some (0, false)))) else (none)) else (none)) else (some (x4, true))
end
def hex_ReadDecimal.f (k : Nat) (a0 : ByteArray) : Option (Int × Bool) := if a0.toList = ([] : List UInt8) then (hex_ReadDecimal.j0 k a0 true) else (hex_ReadDecimal.j0 k a0 (decide ((a0.size : Int) > 18)))
theorem hex_ReadDecimal.mono_l : ∀ k, (∀ y0 y1, LeO (hex_ReadDecimal.j0 k y0 y1) (hex_ReadDecimal.j0 (k + 1) y0 y1)) ∧ (∀ y0 y1 y2 y3, LeO (hex_ReadDecimal.l0 k y0 y1 y2 y3) (hex_ReadDecimal.l0 (k + 1) y0 y1 y2 y3))
  | 0 => ⟨fun _ _ r h => by simp [hex_ReadDecimal.j0] at h, fun _ _ _ _ r h => by simp [hex_ReadDecimal.l0] at h⟩
  | k + 1 => by
    obtain ⟨ih0, ih1⟩ := hex_ReadDecimal.mono_l k
    refine ⟨?_, ?_⟩
    · intro y0 y1
      unfold hex_ReadDecimal.j0
      repeat' first
      | (with_reducible exact ih0 _ _)
      | (with_reducible exact ih1 _ _ _ _)
      | (with_reducible exact LeO.refl _)
      | (with_reducible exact LeO.none _)
      | (with_reducible refine LeO.ite ?_ ?_)
      | (with_reducible refine LeO.bind ?_ (fun _ => ?_))
      | exact ih0 _ _
      | exact ih1 _ _ _ _
      | exact LeO.none _
      | refine LeO.ite ?_ ?_
      | refine LeO.bind ?_ (fun _ => ?_)
    · intro y0 y1 y2 y3
      unfold hex_ReadDecimal.l0
      repeat' first
      | (with_reducible exact ih0 _ _)
      | (with_reducible exact ih1 _ _ _ _)
      | (with_reducible exact LeO.refl _)
      | (with_reducible exact LeO.none _)
      | (with_reducible refine LeO.ite ?_ ?_)
      | (with_reducible refine LeO.bind ?_ (fun _ => ?_))
      | exact ih0 _ _
      | exact ih1 _ _ _ _
      | exact LeO.none _
      | refine LeO.ite ?_ ?_
      | refine LeO.bind ?_ (fun _ => ?_)
theorem hex_ReadDecimal.mono : ∀ a0 k, LeO (hex_ReadDecimal.f k a0) (hex_ReadDecimal.f (k + 1) a0) := by
  intro a0 k
  obtain ⟨ih0, ih1⟩ := hex_ReadDecimal.mono_l k
  unfold hex_ReadDecimal.f
  repeat' first
      | (with_reducible exact ih0 _ _)
      | (with_reducible exact ih1 _ _ _ _)
      | (with_reducible exact LeO.refl _)
      | (with_reducible exact LeO.none _)
      | (with_reducible refine LeO.ite ?_ ?_)
      | (with_reducible refine LeO.bind ?_ (fun _ => ?_))
      | exact ih0 _ _
      | exact ih1 _ _ _ _
      | exact LeO.none _
      | refine LeO.ite ?_ ?_
      | refine LeO.bind ?_ (fun _ => ?_)
set_option maxHeartbeats 8000000 in
set_option maxRecDepth 100000 in
theorem hex_ReadDecimal.calls (k : Nat) (a0 : ByteArray) (r1 : Int) (r2 : Bool) (w : World) (h : hex_ReadDecimal.f k a0 = some (r1, r2)) :
    Calls Try.prog 69 #[.string a0] w fun e w' => e = .returned (.tuple #[.int .i64 r1, .bool r2]) ∧ Below w.heap.size w w' := by
  have HB := Aside0.mk (Below.refl w.heap.size w)
  have H : (if a0.toList = ([] : List UInt8) then (hex_ReadDecimal.j0 k a0 true) else (hex_ReadDecimal.j0 k a0 (decide ((a0.size : Int) > 18)))) = some (r1, r2) := h
  clear h
  have HC2 := Aside0.mk H
  clear H
  go_enter Try.func69, Try.ntmps69
  go_upto_region 1 with (fail)
  go_cut [12] (fun v12 wc => ∃ (kq : Nat) (x12_1 : Bool), v12 = .bool x12_1 ∧ Aside0 (hex_ReadDecimal.j0 kq a0 x12_1 = some (r1, r2)) ∧ Aside0 (kq ≤ k) ∧ Aside0 (Below w.heap.size w wc))
  case first =>
    have H := HC2.out
    clear HC2
    by_cases c3 : a0.toList = ([] : List UInt8)
    · rw [if_pos c3] at H
      have c3b0 : (a0.toList == ([] : List UInt8)) = true := beq_iff_eq.mpr c3
      have c3b1 : (a0.toList != ([] : List UInt8)) = false := bne_eq_false_iff_eq.mpr c3
      clear c3
      (first | rw [c3b0] | (simp only [i64_w, i32_w]; rw [c3b0]) | skip)
      have H' := Aside0.mk H
      clear H
      go_wp2
      go_meet
      case rel => exact ⟨_, (true), (by first | rfl | (simp; done) | (simp [*]; done)), H', ⟨by first | omega | exact Nat.le_refl _⟩, ⟨by repeat (first | (with_reducible first | exact HB.out | apply below_alloc | apply pw_below_drewN | apply below_drew1) | exact HB.out)⟩⟩
    · rw [if_neg c3] at H
      have c3b0 : (a0.toList == ([] : List UInt8)) = false := beq_eq_false_iff_ne.mpr c3
      have c3b1 : (a0.toList != ([] : List UInt8)) = true := bne_iff_ne.mpr c3
      (first | rw [c3b0] | (simp only [i64_w, i32_w]; rw [c3b0]) | skip)
      have H' := Aside0.mk H
      clear H
      go_wp2
      go_meet
      case rel => exact ⟨_, (decide ((a0.size : Int) > 18)), (by first | rfl | (simp; done) | (simp [*]; done)), H', ⟨by first | omega | exact Nat.le_refl _⟩, ⟨by repeat (first | (with_reducible first | exact HB.out | apply below_alloc | apply pw_below_drewN | apply below_drew1) | exact HB.out)⟩⟩
  case rest =>
    clear HC2
    try clear p2
    try clear c3
    try clear c3b0
    try clear c3b1
    obtain ⟨kq, x12_1, rfl, HA, HJ1, HB⟩ := hcut
    cases kq with
    | zero => exact absurd HA.out (by simp [hex_ReadDecimal.j0])
    | succ kj1 =>
      have H := HA.out
      clear HA
      simp only [hex_ReadDecimal.j0] at H
      by_cases c4 : x12_1 = true
      · subst c4
        have H1 : (some (0, false)) = some (r1, r2) := by rw [if_pos rfl] at H; exact H
        clear H
        have H := H1
        clear H1
        simp only [Option.some.injEq, Prod.mk.injEq] at H
        obtain ⟨rfl, rfl⟩ := H
        go_wp2
        go_ret2
        exact ⟨by first | rfl | (simp [errW_none, errW_some] <;> rfl) | (simp [*, errW_none, errW_some] <;> rfl), by repeat (first | (with_reducible first | exact HB.out | apply below_alloc | apply pw_below_drewN | apply below_drew1) | exact HB.out)⟩
      · replace c4 := Bool.eq_false_iff.mpr c4
        subst c4
        have H1 : (hex_ReadDecimal.l0 kj1 a0 0 (a0.size : Int) 0) = some (r1, r2) := by rw [if_neg (show ¬ (false = true) by decide)] at H; exact H
        clear H
        have H := H1
        clear H1
        have H' := Aside0.mk H
        clear H
        go_wp2
        go_loopg [4, 15] kj1 (fun kq v4 v15 w' => ∃ (x4_2 : Int) (x15_2 : Int), v4 = .int .i64 x4_2 ∧ v15 = .int .i64 x15_2 ∧ Aside0 (hex_ReadDecimal.l0 kq a0 x4_2 (a0.size : Int) x15_2 = some (r1, r2)) ∧ Aside0 (kq ≤ kj1) ∧ Aside0 (Below w.heap.size w w'))
        case atStart => exact ⟨(0), (0), (by first | rfl | (simp; done) | (simp [*]; done)), (by first | rfl | (simp; done) | (simp [*]; done)), H', ⟨Nat.le_refl _⟩, ⟨by repeat (first | (with_reducible first | exact HB.out | apply below_alloc | apply pw_below_drewN | apply below_drew1) | exact HB.out)⟩⟩
        case round =>
          clear H'
          try clear p2
          try clear c3
          try clear c3b0
          try clear c3b1
          try clear c4
          try clear p2
          obtain ⟨x4_2, x15_2, rfl, rfl, HA, HK2, HB⟩ := hrel
          cases gk with
          | zero => exact absurd HA.out (by simp [hex_ReadDecimal.l0])
          | succ k2 =>
            have H := HA.out
            clear HA
            simp only [hex_ReadDecimal.l0] at H
            by_cases c5 : x15_2 < (a0.size : Int)
            · rw [if_pos c5] at H
              have c5b0 : decide (x15_2 < (a0.size : Int)) = true := decide_eq_true c5
              clear c5
              by_cases c6 : 0 ≤ x15_2
              · rw [if_pos c6] at H
                have c6b0 : decide (0 ≤ x15_2) = true := decide_eq_true c6
                clear c6
                by_cases c7 : x15_2 < (a0.size : Int)
                · rw [if_pos c7] at H
                  have c7b0 : decide (x15_2 < (a0.size : Int)) = true := decide_eq_true c7
                  clear c7
                  replace H := Option.bind_eq_some_iff.mp H
                  obtain ⟨t299, A90, H⟩ := H
                  replace H : (if t299 = 1 then (hex_ReadDecimal.l0 k2 a0 (wrap64 ((wrap64 (x4_2 * 10)) + (((bt a0 x15_2) - 48) % 256))) (a0.size : Int) (wrap64 (x15_2 + 1))) else (some (0, false))) = some (r1, r2) := H
                  have A9 := Aside0.mk A90
                  clear A90
                  by_cases c10 : t299 = 1
                  · rw [if_pos c10] at H
                    have c10b0 : (t299 == 1) = true := beq_iff_eq.mpr c10
                    have c10b1 : (t299 != 1) = false := bne_eq_false_iff_eq.mpr c10
                    clear c10
                    have H' := Aside0.mk H
                    clear H
                    have p8 : 0 ≤ (x15_2 : Int) := of_decide_eq_true (by first | (with_reducible assumption) | assumption)
                    have q8 : x15_2 < (a0.size : Int) := of_decide_eq_true (by first | (with_reducible assumption) | assumption)
                    have hx8 := bt_at a0 x15_2
                    replace p8 := eq_true p8
                    replace q8 := eq_true q8
                    go_wp2_with (first | ((with_reducible refine gate_callee (f := 44) rfl ?_); refine goesL_ (some 21) rfl rfl Try.func44 (by kernel_rfl) rfl #[.int .u8 (bt a0 x15_2)] rfl (by (try simp only [List.map_toArray, List.map_cons, List.map_nil]); first | done | rfl | (simp only [List.length_drop, List.length_take]; rfl)) ?_; (with_reducible refine (hex_Kind.calls (bt a0 x15_2) t299 _ A9.out).mono ?_); rintro e w12 ⟨rfl, hb⟩; refine ⟨_, rfl, ?_⟩; have n0_ := Aside0.mk (below_step (by repeat (first | (with_reducible first | exact HB.out | apply below_alloc | apply pw_below_drewN | apply below_drew1) | exact HB.out)) hb); clear HB; have HB := n0_; clear n0_; (try clear hb); (try clear hb2); (try clear hk); (try clear hi); have p11 : 0 ≤ (x15_2 : Int) := of_decide_eq_true (by first | (with_reducible assumption) | assumption); have q11 : x15_2 < (a0.size : Int) := of_decide_eq_true (by first | (with_reducible assumption) | assumption); have hx11 := bt_at a0 x15_2; replace p11 := eq_true p11; replace q11 := eq_true q11))
                    go_roundg k2
                    case measure => have := HJ1.out; have := HK2.out; omega
                    case rel => exact ⟨(wrap64 ((wrap64 (x4_2 * 10)) + (((bt a0 x15_2) - 48) % 256))), (wrap64 (x15_2 + 1)), (by first | rfl | (simp; done) | (simp [*]; done)), (by first | rfl | (simp; done) | (simp [*]; done)), H', ⟨by have := HJ1.out; have := HK2.out; omega⟩, ⟨by repeat (first | (with_reducible first | exact HB.out | apply below_alloc | apply pw_below_drewN | apply below_drew1) | exact HB.out)⟩⟩
                  · rw [if_neg c10] at H
                    have c10b0 : (t299 == 1) = false := beq_eq_false_iff_ne.mpr c10
                    have c10b1 : (t299 != 1) = true := bne_iff_ne.mpr c10
                    simp only [Option.some.injEq, Prod.mk.injEq] at H
                    obtain ⟨rfl, rfl⟩ := H
                    have p8 : 0 ≤ (x15_2 : Int) := of_decide_eq_true (by first | (with_reducible assumption) | assumption)
                    have q8 : x15_2 < (a0.size : Int) := of_decide_eq_true (by first | (with_reducible assumption) | assumption)
                    have hx8 := bt_at a0 x15_2
                    replace p8 := eq_true p8
                    replace q8 := eq_true q8
                    go_wp2_with (first | ((with_reducible refine gate_callee (f := 44) rfl ?_); refine goesL_ (some 21) rfl rfl Try.func44 (by kernel_rfl) rfl #[.int .u8 (bt a0 x15_2)] rfl (by (try simp only [List.map_toArray, List.map_cons, List.map_nil]); first | done | rfl | (simp only [List.length_drop, List.length_take]; rfl)) ?_; (with_reducible refine (hex_Kind.calls (bt a0 x15_2) t299 _ A9.out).mono ?_); rintro e w13 ⟨rfl, hb⟩; refine ⟨_, rfl, ?_⟩; have n0_ := Aside0.mk (below_step (by repeat (first | (with_reducible first | exact HB.out | apply below_alloc | apply pw_below_drewN | apply below_drew1) | exact HB.out)) hb); clear HB; have HB := n0_; clear n0_; (try clear hb); (try clear hb2); (try clear hk); (try clear hi)))
                    go_ret2
                    exact ⟨by first | rfl | (simp [errW_none, errW_some] <;> rfl) | (simp [*, errW_none, errW_some] <;> rfl), by repeat (first | (with_reducible first | exact HB.out | apply below_alloc | apply pw_below_drewN | apply below_drew1) | exact HB.out)⟩
                · rw [if_neg c7] at H
                  exact absurd H (by simp)
              · rw [if_neg c6] at H
                exact absurd H (by simp)
            · rw [if_neg c5] at H
              have c5b0 : decide (x15_2 < (a0.size : Int)) = false := decide_eq_false c5
              clear c5
              simp only [Option.some.injEq, Prod.mk.injEq] at H
              obtain ⟨rfl, rfl⟩ := H
              go_wp2
              go_ret2
              exact ⟨by first | rfl | (simp [errW_none, errW_some] <;> rfl) | (simp [*, errW_none, errW_some] <;> rfl), by repeat (first | (with_reducible first | exact HB.out | apply below_alloc | apply pw_below_drewN | apply below_drew1) | exact HB.out)⟩

end Go.Proofs.Ytdfghdppbfabfaa.P

/- Numbers as digits: what Decimal and ReadDecimal come to. -/
namespace Go.Proofs.Ytdfghdppbfabfaa.P
open Go.RowKit Go.Proofs.YtdfghdppbfabfaaW.PrintWords Go.Proofs.YtdfghdppbfabfaaW.PrintLast Go.Proofs.YtdfghdppbfabfaaW.PrintMore
set_option linter.unusedVariables false
set_option linter.unusedSimpArgs false


/-! ### ReadDecimal -/
def decF : Int → List Int → Option Int
  | acc, [] => some acc
  | acc, c :: r => if kindOf c = 1 then decF (acc * 10 + (c - 48)) r else none
def rdecG (acc : Int) (l : List Int) : Int × Bool := match decF acc l with
  | some n => (n, true)
  | none => (0, false)
def rdec (l : List Int) : Int × Bool := if l.length = 0 ∨ l.length > 18 then (0, false) else rdecG 0 l
theorem rdecG_ok {acc c : Int} {r : List Int} (h : kindOf c = 1) : rdecG acc (c :: r) = rdecG (acc * 10 + (c - 48)) r := by
  unfold rdecG
  rw [decF, if_pos h]
theorem rdecG_no {acc c : Int} {r : List Int} (h : ¬ kindOf c = 1) : rdecG acc (c :: r) = (0, false) := by
  unfold rdecG
  rw [decF, if_neg h]
theorem ev_ReadDecimal_loop (s : ByteArray) (hs : s.size ≤ 1000) : ∀ (d i : Nat) (acc : Int), i + d = s.size → 0 ≤ acc → acc * 10 ^ d + 10 ^ d ≤ 1000000000000000000 →
    Ev (fun k => hex_ReadDecimal.l0 k s acc (s.size : Int) (i : Int)) (rdecG acc ((bytesOf s).drop i)) := by
  intro d
  induction d with
  | zero =>
    intro i acc hi h0 hb
    refine Ev.step (fun k => by rw [hex_ReadDecimal.l0, if_neg (by omega)]) ?_
    rw [List.drop_of_length_le (by rw [bytesOf_len]; omega)]
    exact Ev.now _
  | succ d ih =>
    intro i acc hi h0 hb
    have hp : (0 : Int) < 10 ^ d := Int.pow_pos (by omega)
    have hpe : (10 : Int) ^ (d + 1) = 10 ^ d * 10 := Int.pow_succ ..
    rw [hpe] at hb
    generalize hP : (10 : Int) ^ d = P at hb hp
    have hb2 : acc * 10 * P + 10 * P ≤ 1000000000000000000 := by
      have e1 : acc * (P * 10) = acc * 10 * P := by rw [Int.mul_comm P 10, Int.mul_assoc]
      omega
    have hacc : acc * 10 + 10 ≤ 1000000000000000000 := by
      have h1 : (acc * 10 + 10) * 1 ≤ (acc * 10 + 10) * P := Int.mul_le_mul_of_nonneg_left (by omega) (by omega)
      have h2 : (acc * 10 + 10) * P = acc * 10 * P + 10 * P := Int.add_mul ..
      omega
    rw [drop_bt s i (by omega)]
    have hw : wrap64 ((i : Int) + 1) = ((i + 1 : Nat) : Int) := by rw [w64 (by omega)]; rfl
    by_cases h1 : kindOf (bt s (i : Int)) = 1
    · have hk := kind1_iff.1 h1
      have e1 : (bt s (i : Int) - 48) % 256 = bt s (i : Int) - 48 := by omega
      have e2 : wrap64 (acc * 10) = acc * 10 := w64 (by omega)
      have e3 : wrap64 (acc * 10 + (bt s (i : Int) - 48)) = acc * 10 + (bt s (i : Int) - 48) := w64 (by omega)
      refine Ev.step (fun k => by rw [hex_ReadDecimal.l0, if_pos (by omega), if_pos (by omega), if_pos (by omega), show hex_Kind.f (bt s (i : Int)) = some (kindOf (bt s (i : Int))) from rfl, Option.bind_some, if_pos h1, e1, e2, e3, hw]) ?_
      rw [rdecG_ok h1]
      refine ih (i + 1) _ (by omega) (by omega) ?_
      rw [hP]
      have e4 : (acc * 10 + (bt s (i : Int) - 48)) * P ≤ (acc * 10 + 9) * P := Int.mul_le_mul_of_nonneg_right (by omega) (by omega)
      have e5 : (acc * 10 + 9) * P = acc * 10 * P + 9 * P := Int.add_mul ..
      omega
    · refine Ev.step (fun k => by rw [hex_ReadDecimal.l0, if_pos (by omega), if_pos (by omega), if_pos (by omega), show hex_Kind.f (bt s (i : Int)) = some (kindOf (bt s (i : Int))) from rfl, Option.bind_some, if_neg h1]) ?_
      rw [rdecG_no h1]
      exact Ev.now _
theorem ev_ReadDecimal (s : ByteArray) : Ev (fun k => hex_ReadDecimal.f k s) (rdec (bytesOf s)) := by
  unfold rdec
  rw [bytesOf_len]
  by_cases h0 : s.size = 0
  · rw [if_pos (.inl h0)]
    refine Ev.congr (fun k => by rw [hex_ReadDecimal.f, if_pos (size_nil.2 h0)]) ?_
    exact Ev.step (fun k => by rw [hex_ReadDecimal.j0, if_pos rfl]) (Ev.now _)
  · refine Ev.congr (fun k => by rw [hex_ReadDecimal.f, if_neg (fun e => h0 (size_nil.1 e))]) ?_
    by_cases h1 : s.size > 18
    · rw [if_pos (.inr h1)]
      exact Ev.step (fun k => by rw [hex_ReadDecimal.j0, if_pos (by rw [decide_eq_true_eq]; omega)]) (Ev.now _)
    · rw [if_neg (by omega)]
      refine Ev.step (fun k => by rw [hex_ReadDecimal.j0, if_neg (by rw [decide_eq_true_eq]; omega)]) ?_
      refine ev_ReadDecimal_loop s (by omega) s.size 0 0 (by omega) (by omega) ?_
      have : (10 : Int) ^ s.size ≤ 10 ^ 18 := by
        have h := Nat.pow_le_pow_right (n := 10) (by omega) (show s.size ≤ 18 by omega)
        exact_mod_cast h
      omega
/-! ### Decimal -/
def natD (n : Nat) : List Int := if h : n < 10 then [48 + (n : Int)] else natD (n / 10) ++ [48 + ((n % 10 : Nat) : Int)]
  termination_by n
  decreasing_by omega
def decL (n : Int) : List Int := if n < 0 then 45 :: natD n.natAbs else natD n.natAbs
theorem natD_lt {n : Nat} (h : n < 10) : natD n = [48 + (n : Int)] := by rw [natD, dif_pos h]
theorem natD_ge {n : Nat} (h : ¬ n < 10) : natD n = natD (n / 10) ++ [48 + ((n % 10 : Nat) : Int)] := by rw [natD, dif_neg h]
theorem natD_bytes : ∀ (d n : Nat), n ≤ d → Bytes (natD n)
  | d, n, hd => by
    by_cases h : n < 10
    · rw [natD_lt h]; exact Bytes.cons (by omega) Bytes.nil
    · rw [natD_ge h]
      cases d with
      | zero => omega
      | succ d => exact Bytes.append (natD_bytes d (n / 10) (by omega)) (Bytes.cons (by omega) Bytes.nil)
theorem decL_bytes (n : Int) : Bytes (decL n) := by
  unfold decL
  split
  · exact Bytes.cons (by omega) (natD_bytes _ _ (Nat.le_refl _))
  · exact natD_bytes _ _ (Nat.le_refl _)
theorem natD_len : ∀ (d n : Nat), n < 10 ^ (d + 1) → (natD n).length ≤ d + 1
  | d, n, hd => by
    by_cases h : n < 10
    · rw [natD_lt h]; simp
    · rw [natD_ge h]
      cases d with
      | zero => simp at hd; omega
      | succ d =>
        have h1 : n / 10 < 10 ^ (d + 1) := by
          rw [Nat.pow_succ] at hd
          omega
        have := natD_len d (n / 10) h1
        simp
        omega
theorem hexD_dec {n : Int} (h0 : 0 ≤ n) (h1 : n < 10) : hexD n = 48 + n := by unfold hexD; rw [if_pos h1]
theorem set_at (a r : List Int) (x v : Int) : (a ++ x :: r).set a.length v = a ++ v :: r := by
  rw [List.set_append]
  simp
theorem ev_Decimal_swap (n : Nat) : ∀ (a m b : List Int), m.length ≤ n → a.length + m.length + b.length ≤ 1000 →
    Ev (fun k => hex_Decimal.l1 k (a ++ m ++ b) (a.length : Int) ((a.length : Int) + (m.length : Int) - 1)) (strOfNums (a ++ m.reverse ++ b)) := by
  induction n using Nat.strongRecOn with
  | _ n ih =>
    intro a m b hm hl
    by_cases h1 : m.length ≤ 1
    · refine Ev.step (fun k => by rw [hex_Decimal.l1, if_neg (by omega)]) ?_
      have : m.reverse = m := by
        match m, h1 with
        | [], _ => rfl
        | [_], _ => rfl
      rw [this]
      exact Ev.now _
    · obtain ⟨x, m1, rfl⟩ : ∃ x m1, m = x :: m1 := by
        cases m with
        | nil => simp at h1
        | cons x m1 => exact ⟨x, m1, rfl⟩
      have hne : m1 ≠ [] := by rintro rfl; simp at h1
      obtain ⟨m2, y, rfl⟩ : ∃ m2 y, m1 = m2 ++ [y] := ⟨m1.dropLast, m1.getLast hne, (List.dropLast_concat_getLast hne).symm⟩
      have hL : (x :: (m2 ++ [y])).length = m2.length + 2 := by simp
      have e0 : a ++ (x :: (m2 ++ [y])) ++ b = a ++ x :: (m2 ++ y :: b) := by simp
      have e1 : a ++ x :: (m2 ++ y :: b) = (a ++ x :: m2) ++ y :: b := by simp
      have hra : rd (a ++ x :: (m2 ++ y :: b)) (a.length : Int) = x := by
        unfold rd; rw [Int.toNat_natCast]; simp
      have hj : (a.length : Int) + ((x :: (m2 ++ [y])).length : Int) - 1 = ((a ++ x :: m2).length : Int) := by rw [hL]; simp; omega
      have hry : rd (a ++ x :: (m2 ++ y :: b)) ((a ++ x :: m2).length : Int) = y := by
        unfold rd; rw [Int.toNat_natCast, e1]; simp
      have hs1 : (a ++ x :: (m2 ++ y :: b)).set (a.length : Int).toNat y = a ++ y :: (m2 ++ y :: b) := by rw [Int.toNat_natCast, set_at]
      have hs2 : (a ++ y :: (m2 ++ y :: b)).set ((a ++ x :: m2).length : Int).toNat x = (a ++ [y]) ++ m2 ++ ([x] ++ b) := by
        rw [Int.toNat_natCast, show (a ++ x :: m2).length = (a ++ y :: m2).length by simp, show a ++ y :: (m2 ++ y :: b) = (a ++ y :: m2) ++ y :: b by simp, set_at]
        simp
      have hlen : ((a ++ x :: (m2 ++ y :: b)).length : Int) = (a.length : Int) + (m2.length : Int) + (b.length : Int) + 2 := by simp; omega
      have hlx : ((a ++ x :: m2).length : Int) = (a.length : Int) + (m2.length : Int) + 1 := by simp; omega
      have hw1 : wrap64 ((a.length : Int) + 1) = ((a ++ [y]).length : Int) := by rw [w64 (by omega)]; simp
      have hw2 : wrap64 (((a ++ x :: m2).length : Int) - 1) = ((a ++ [y]).length : Int) + (m2.length : Int) - 1 := by rw [w64 (by omega)]; simp; omega
      rw [e0, hj]
      refine Ev.step (fun k => by rw [hex_Decimal.l1, if_pos (by omega), if_pos (by omega), if_pos (by omega), if_pos (by omega), if_pos (by omega), hra, hry, hs1, hs2, hw1, hw2]) ?_
      have := ih (n - 1) (by omega) (a ++ [y]) m2 ([x] ++ b) (by rw [hL] at hm; omega) (by simp at hl ⊢; omega)
      rw [show a ++ (x :: (m2 ++ [y])).reverse ++ b = a ++ [y] ++ m2.reverse ++ ([x] ++ b) by simp]
      exact this
theorem ev_Decimal_rev (l : List Int) (hl : l.length ≤ 1000) : Ev (fun k => hex_Decimal.j2 k l) (strOfNums l.reverse) := by
  have hw : wrap64 ((l.length : Int) - 1) = (l.length : Int) - 1 := w64 (by omega)
  refine Ev.step (fun k => by rw [hex_Decimal.j2, hw]) ?_
  have := ev_Decimal_swap l.length [] l [] (Nat.le_refl _) (by simp; omega)
  simpa using this
theorem ev_Decimal_loop (x0 : Int) (d : Nat) : ∀ (m : Nat) (acc : List Int), m < 10 ^ (d + 1) → m ≤ 9223372036854775808 → acc.length + d ≤ 100 →
    Ev (fun k => hex_Decimal.l0 k x0 (m : Int) acc) (strOfNums (if x0 < 0 then 45 :: (natD m ++ acc.reverse) else natD m ++ acc.reverse)) := by
  induction d with
  | zero =>
    intro m acc hm hb ha
    have e1 : Int.tmod (m : Int) 10 = (m : Int) := by rw [Int.tmod_eq_emod_of_nonneg (by omega)]; simp at hm; omega
    have e2 : IntKind.u64.wrap (Int.tdiv (m : Int) 10) = 0 := by rw [Int.tdiv_eq_ediv_of_nonneg (by omega), IntWalk.u64_in _ (by omega)]; simp at hm; omega
    have e3 := hexD_at (m : Int) (by omega) (by simp at hm; omega)
    have e4 : hexD (m : Int) = 48 + (m : Int) := hexD_dec (by omega) (by simp at hm; omega)
    have hn := natD_lt (n := m) (by simpa using hm)
    refine Ev.step (fun k => by rw [hex_Decimal.l0, e1, e2, e3, e4, if_pos (by omega), if_pos (by simp at hm; omega), if_pos (by omega), Option.bind_some, if_pos rfl]) ?_
    by_cases hx : x0 < 0
    · refine Ev.congr (fun k => by rw [if_pos hx, if_pos (by simp; omega)]) ?_
      rw [if_pos hx, hn]
      have := ev_Decimal_rev (acc ++ [48 + (m : Int)] ++ [45]) (by simp; omega)
      simpa using this
    · refine Ev.congr (fun k => by rw [if_neg hx]) ?_
      rw [if_neg hx, hn]
      have := ev_Decimal_rev (acc ++ [48 + (m : Int)]) (by simp; omega)
      simpa using this
  | succ d ih =>
    intro m acc hm hb ha
    have e1 : Int.tmod (m : Int) 10 = ((m % 10 : Nat) : Int) := by rw [Int.tmod_eq_emod_of_nonneg (by omega)]; omega
    have e2 : IntKind.u64.wrap (Int.tdiv (m : Int) 10) = ((m / 10 : Nat) : Int) := by rw [Int.tdiv_eq_ediv_of_nonneg (by omega), IntWalk.u64_in _ (by omega)]; omega
    have e3 := hexD_at ((m % 10 : Nat) : Int) (by omega) (by omega)
    have e4 : hexD ((m % 10 : Nat) : Int) = 48 + ((m % 10 : Nat) : Int) := hexD_dec (by omega) (by omega)
    refine Ev.step (fun k => by rw [hex_Decimal.l0, e1, e2, e3, e4, if_pos (by omega), if_pos (by omega), if_pos (by omega), Option.bind_some]) ?_
    by_cases h10 : m < 10
    · have hn := natD_lt h10
      have hm10 : m % 10 = m := by omega
      refine Ev.congr (fun k => by rw [if_pos (by omega)]) ?_
      rw [hm10]
      by_cases hx : x0 < 0
      · refine Ev.congr (fun k => by rw [if_pos hx, if_pos (by simp; omega)]) ?_
        rw [if_pos hx, hn]
        have := ev_Decimal_rev (acc ++ [48 + (m : Int)] ++ [45]) (by simp; omega)
        simpa using this
      · refine Ev.congr (fun k => by rw [if_neg hx]) ?_
        rw [if_neg hx, hn]
        have := ev_Decimal_rev (acc ++ [48 + (m : Int)]) (by simp; omega)
        simpa using this
    · refine Ev.congr (fun k => by rw [if_neg (by omega)]) ?_
      have := ih (m / 10) (acc ++ [48 + ((m % 10 : Nat) : Int)]) (by rw [Nat.pow_succ] at hm; omega) (by omega) (by simp; omega)
      rw [natD_ge h10, List.append_assoc]
      simpa using this
theorem ev_Decimal (n : Int) (h0 : -9223372036854775808 ≤ n) (h1 : n ≤ 9223372036854775807) : Ev (fun k => hex_Decimal.f k n) (strOfNums (decL n)) := by
  unfold decL
  by_cases hn : n < 0
  · have e : IntKind.u64.wrap (-(IntKind.u64.wrap n)) = (n.natAbs : Int) := by
      rw [IntKind.wrap_u64, IntKind.wrap_u64]; omega
    refine Ev.congr (fun k => by rw [hex_Decimal.f, if_pos hn, e]) ?_
    refine Ev.step (fun k => by rw [hex_Decimal.j0]) ?_
    have := ev_Decimal_loop n 19 n.natAbs [] (by omega) (by omega) (by simp)
    rw [if_pos hn] at this ⊢
    simpa using this
  · have e : IntKind.u64.wrap n = (n.natAbs : Int) := by
      rw [IntKind.wrap_u64]; omega
    refine Ev.congr (fun k => by rw [hex_Decimal.f, if_neg hn, e]) ?_
    refine Ev.step (fun k => by rw [hex_Decimal.j0]) ?_
    have := ev_Decimal_loop n 19 n.natAbs [] (by omega) (by omega) (by simp)
    rw [if_neg hn] at this ⊢
    simpa using this
theorem strOf_size (l : List Int) : (strOfNums l).size = l.length := strOfNums_size l
end Go.Proofs.Ytdfghdppbfabfaa.P

namespace Go.Proofs.Ytdfghdppbfabfaa.P
open Go.RowKit Go.Proofs.YtdfghdppbfabfaaW.PrintWords Go.Proofs.YtdfghdppbfabfaaW.PrintLast Go.Proofs.YtdfghdppbfabfaaW.PrintMore
attribute [local go_sem] max2_int min2_int max_two min_two max_three min_three max_four min_four   -- for this text's walks alone
set_option linter.unusedVariables false
set_option linter.unusedSimpArgs false

/-! ### clock_Short: function 23 -/
def clock_Short.f (k : Nat) (a0_0 : Int) (a0_1 : Int) (a0_2 : Int) (a0_3 : Int) (a0_4 : Int) (a0_5 : Int) : Option (ByteArray) := (clock_Time_right.f a0_0 a0_1 a0_2 a0_3 a0_4 a0_5).bind fun t253 => (if t253 = true then ((clock_Time_part.f k a0_0 a0_1 a0_2 a0_3 a0_4 a0_5 (⟨#[]⟩ : ByteArray) (⟨#[]⟩ : ByteArray)).bind fun bt254 => (if bt254.1.size + 1 ≤ 9223372036854775807 then (if (bt254.1 ++ (⟨#[84]⟩ : ByteArray)).size + bt254.2.size ≤ 9223372036854775807 then (if ((bt254.1 ++ (⟨#[84]⟩ : ByteArray)) ++ bt254.2).size + 1 ≤ 9223372036854775807 then (some (((bt254.1 ++ (⟨#[84]⟩ : ByteArray)) ++ bt254.2) ++ (⟨#[90]⟩ : ByteArray))) else (none)) else (none)) else (none))) else (some (⟨#[]⟩ : ByteArray)))
theorem clock_Short.mono : ∀ a0 a1 a2 a3 a4 a5 k, LeO (clock_Short.f k a0 a1 a2 a3 a4 a5) (clock_Short.f (k + 1) a0 a1 a2 a3 a4 a5) := by
  intro a0 a1 a2 a3 a4 a5 k
  unfold clock_Short.f
  repeat' first
      | (with_reducible exact clock_Time_part.mono _ _ _ _ _ _ _ _ _)
      | (with_reducible exact LeO.refl _)
      | (with_reducible exact LeO.none _)
      | (with_reducible refine LeO.ite ?_ ?_)
      | (with_reducible refine LeO.bind ?_ (fun _ => ?_))
      | exact clock_Time_part.mono _ _ _ _ _ _ _ _ _
      | exact LeO.none _
      | refine LeO.ite ?_ ?_
      | refine LeO.bind ?_ (fun _ => ?_)
set_option maxHeartbeats 8000000 in
set_option maxRecDepth 100000 in
theorem clock_Short.calls (k : Nat) (a0_0 : Int) (a0_1 : Int) (a0_2 : Int) (a0_3 : Int) (a0_4 : Int) (a0_5 : Int) (r : ByteArray) (w : World) (h : clock_Short.f k a0_0 a0_1 a0_2 a0_3 a0_4 a0_5 = some r) :
    Calls Try.prog 23 #[.agg #[.int .i64 a0_0, .int .i64 a0_1, .int .i64 a0_2, .int .i64 a0_3, .int .i64 a0_4, .int .i64 a0_5]] w fun e w' => e = .returned (.string r) ∧ Below w.heap.size w w' := by
  have hu28 := Try.underlying28
  have HB := Aside0.mk (Below.refl w.heap.size w)
  have H : ((clock_Time_right.f a0_0 a0_1 a0_2 a0_3 a0_4 a0_5).bind fun t253 => (if t253 = true then ((clock_Time_part.f k a0_0 a0_1 a0_2 a0_3 a0_4 a0_5 (⟨#[]⟩ : ByteArray) (⟨#[]⟩ : ByteArray)).bind fun bt254 => (if bt254.1.size + 1 ≤ 9223372036854775807 then (if (bt254.1 ++ (⟨#[84]⟩ : ByteArray)).size + bt254.2.size ≤ 9223372036854775807 then (if ((bt254.1 ++ (⟨#[84]⟩ : ByteArray)) ++ bt254.2).size + 1 ≤ 9223372036854775807 then (some (((bt254.1 ++ (⟨#[84]⟩ : ByteArray)) ++ bt254.2) ++ (⟨#[90]⟩ : ByteArray))) else (none)) else (none)) else (none))) else (some (⟨#[]⟩ : ByteArray)))) = some r := h
  clear h
  replace H := Option.bind_eq_some_iff.mp H
  obtain ⟨t253, A20, H⟩ := H
  replace H : (if t253 = true then ((clock_Time_part.f k a0_0 a0_1 a0_2 a0_3 a0_4 a0_5 (⟨#[]⟩ : ByteArray) (⟨#[]⟩ : ByteArray)).bind fun bt254 => (if bt254.1.size + 1 ≤ 9223372036854775807 then (if (bt254.1 ++ (⟨#[84]⟩ : ByteArray)).size + bt254.2.size ≤ 9223372036854775807 then (if ((bt254.1 ++ (⟨#[84]⟩ : ByteArray)) ++ bt254.2).size + 1 ≤ 9223372036854775807 then (some (((bt254.1 ++ (⟨#[84]⟩ : ByteArray)) ++ bt254.2) ++ (⟨#[90]⟩ : ByteArray))) else (none)) else (none)) else (none))) else (some (⟨#[]⟩ : ByteArray))) = some r := H
  have A2 := Aside0.mk A20
  clear A20
  by_cases c3 : t253 = true
  · subst c3
    have H1 : ((clock_Time_part.f k a0_0 a0_1 a0_2 a0_3 a0_4 a0_5 (⟨#[]⟩ : ByteArray) (⟨#[]⟩ : ByteArray)).bind fun bt254 => (if bt254.1.size + 1 ≤ 9223372036854775807 then (if (bt254.1 ++ (⟨#[84]⟩ : ByteArray)).size + bt254.2.size ≤ 9223372036854775807 then (if ((bt254.1 ++ (⟨#[84]⟩ : ByteArray)) ++ bt254.2).size + 1 ≤ 9223372036854775807 then (some (((bt254.1 ++ (⟨#[84]⟩ : ByteArray)) ++ bt254.2) ++ (⟨#[90]⟩ : ByteArray))) else (none)) else (none)) else (none))) = some r := by rw [if_pos rfl] at H; exact H
    clear H
    have H := H1
    clear H1
    replace H := Option.bind_eq_some_iff.mp H
    obtain ⟨⟨t254, t255⟩, A40, H⟩ := H
    replace H : (if t254.size + 1 ≤ 9223372036854775807 then (if (t254 ++ (⟨#[84]⟩ : ByteArray)).size + t255.size ≤ 9223372036854775807 then (if ((t254 ++ (⟨#[84]⟩ : ByteArray)) ++ t255).size + 1 ≤ 9223372036854775807 then (some (((t254 ++ (⟨#[84]⟩ : ByteArray)) ++ t255) ++ (⟨#[90]⟩ : ByteArray))) else (none)) else (none)) else (none)) = some r := H
    have A4 := Aside0.mk A40
    clear A40
    by_cases c5 : t254.size + 1 ≤ 9223372036854775807
    · rw [if_pos c5] at H
      have c5b0 := eq_true c5
      have c5b1 : decide (t254.size + 1 ≤ 9223372036854775807) = true := decide_eq_true c5
      try have c5b2 : (9223372036854775807 < t254.size + 1) = False := eq_false (Nat.not_lt.2 c5)
      by_cases c6 : (t254 ++ (⟨#[84]⟩ : ByteArray)).size + t255.size ≤ 9223372036854775807
      · rw [if_pos c6] at H
        have c6b0 := eq_true c6
        have c6b1 : decide ((t254 ++ (⟨#[84]⟩ : ByteArray)).size + t255.size ≤ 9223372036854775807) = true := decide_eq_true c6
        try have c6b2 : (9223372036854775807 < (t254 ++ (⟨#[84]⟩ : ByteArray)).size + t255.size) = False := eq_false (Nat.not_lt.2 c6)
        try have c6z := c6
        try simp only [ByteArray.size_append, show (⟨#[84]⟩ : ByteArray).size = 1 from rfl] at c6z
        try have c6y := eq_true c6z
        try have c6x := decide_eq_true c6z
        try have c6v := eq_false (Nat.not_lt.2 c6z)
        try clear c6z
        by_cases c7 : ((t254 ++ (⟨#[84]⟩ : ByteArray)) ++ t255).size + 1 ≤ 9223372036854775807
        · rw [if_pos c7] at H
          have c7b0 := eq_true c7
          have c7b1 : decide (((t254 ++ (⟨#[84]⟩ : ByteArray)) ++ t255).size + 1 ≤ 9223372036854775807) = true := decide_eq_true c7
          try have c7b2 : (9223372036854775807 < ((t254 ++ (⟨#[84]⟩ : ByteArray)) ++ t255).size + 1) = False := eq_false (Nat.not_lt.2 c7)
          try have c7z := c7
          try simp only [ByteArray.size_append, show (⟨#[84]⟩ : ByteArray).size = 1 from rfl] at c7z
          try have c7y := eq_true c7z
          try have c7x := decide_eq_true c7z
          try have c7v := eq_false (Nat.not_lt.2 c7z)
          try clear c7z
          obtain rfl := Option.some.inj H
          go_enter Try.func23, Try.ntmps23
          go_wp2_with (first | ((with_reducible refine gate_dst (N := 1) rfl ?_); refine box_event ?hg (N := 1) ?hd (cs := #[.int .i64 a0_0, .int .i64 a0_1, .int .i64 a0_2, .int .i64 a0_3, .int .i64 a0_4, .int .i64 a0_5]) (t := 28) ?hr ?_; (case hd => rfl); (case hg => rfl); (case hr => first | (go_simp; done) | (go_simp; rfl)); intro gb252 hg w8 hbox hb; have n0_ := Aside0.mk (below_step (by repeat (first | (with_reducible first | exact HB.out | apply below_alloc | apply pw_below_drewN | apply below_drew1) | exact HB.out)) hb); have n1_ := Aside0.mk (hbox); have n2_ := Aside0.mk ((by rw [hg]; exact (below_size (by repeat (first | (with_reducible first | exact HB.out | apply below_alloc | apply pw_below_drewN | apply below_drew1) | exact HB.out))) : w.heap.size ≤ gb252)); have n3_ := Aside0.mk ((by rw [hg]; exact (below_size (by repeat (first | (with_reducible first | exact HB.out | apply below_alloc | apply pw_below_drewN | apply below_drew1) | exact HB.out))) : w.heap.size ≤ gb252)); clear HB; have HB := n0_; have BK252 := n1_; have GW252 := n2_; have GE252 := n3_; clear n0_ n1_ n2_ n3_; clear hb hbox hg; have hcz9_0 : w8.cell? ⟨gb252, 0, none⟩ = some (.int .i64 a0_0) := (blk_cell BK252.out 0).trans rfl; have hcz9_1 : w8.cell? ⟨gb252, 1, none⟩ = some (.int .i64 a0_1) := (blk_cell BK252.out 1).trans rfl; have hcz9_2 : w8.cell? ⟨gb252, 2, none⟩ = some (.int .i64 a0_2) := (blk_cell BK252.out 2).trans rfl; have hcz9_3 : w8.cell? ⟨gb252, 3, none⟩ = some (.int .i64 a0_3) := (blk_cell BK252.out 3).trans rfl; have hcz9_4 : w8.cell? ⟨gb252, 4, none⟩ = some (.int .i64 a0_4) := (blk_cell BK252.out 4).trans rfl; have hcz9_5 : w8.cell? ⟨gb252, 5, none⟩ = some (.int .i64 a0_5) := (blk_cell BK252.out 5).trans rfl; have hfz9_0 := blk_frozen BK252.out 0; have hfz9_1 := blk_frozen BK252.out 1; have hfz9_2 := blk_frozen BK252.out 2; have hfz9_3 := blk_frozen BK252.out 3; have hfz9_4 := blk_frozen BK252.out 4; have hfz9_5 := blk_frozen BK252.out 5) | ((with_reducible refine gate_callee (f := 46) rfl ?_); refine goesL_ (some 6) rfl rfl Try.func46 (by kernel_rfl) rfl #[.agg #[.int .i64 a0_0, .int .i64 a0_1, .int .i64 a0_2, .int .i64 a0_3, .int .i64 a0_4, .int .i64 a0_5]] rfl (by (try simp only [List.map_toArray, List.map_cons, List.map_nil]); first | done | rfl | (simp only [List.length_drop, List.length_take]; rfl)) ?_; (with_reducible refine (clock_Time_right.calls a0_0 a0_1 a0_2 a0_3 a0_4 a0_5 true _ A2.out).mono ?_); rintro e w10 ⟨rfl, hb⟩; refine ⟨_, rfl, ?_⟩; have n0_ := Aside0.mk (blk_below (g := gb252) (o := .cells #[.int .i64 a0_0, .int .i64 a0_1, .int .i64 a0_2, .int .i64 a0_3, .int .i64 a0_4, .int .i64 a0_5] 28 (0, 0)) (by (with_reducible repeat (first | refine blk_drewN ?_ _ | refine blk_drew ?_ | refine blk_alloc ?_ _)); exact BK252.out) hb); have n1_ := Aside0.mk (below_step (by repeat (first | (with_reducible first | exact HB.out | apply below_alloc | apply pw_below_drewN | apply below_drew1 | refine below_set ?_ GE252.out) | exact HB.out)) hb); clear BK252; clear HB; have BK252 := n0_; have HB := n1_; clear n0_ n1_; (try clear hb); (try clear hb2); (try clear hk); (try clear hi); have hcz11_0 : w10.cell? ⟨gb252, 0, none⟩ = some (.int .i64 a0_0) := (blk_cell BK252.out 0).trans rfl; have hcz11_1 : w10.cell? ⟨gb252, 1, none⟩ = some (.int .i64 a0_1) := (blk_cell BK252.out 1).trans rfl; have hcz11_2 : w10.cell? ⟨gb252, 2, none⟩ = some (.int .i64 a0_2) := (blk_cell BK252.out 2).trans rfl; have hcz11_3 : w10.cell? ⟨gb252, 3, none⟩ = some (.int .i64 a0_3) := (blk_cell BK252.out 3).trans rfl; have hcz11_4 : w10.cell? ⟨gb252, 4, none⟩ = some (.int .i64 a0_4) := (blk_cell BK252.out 4).trans rfl; have hcz11_5 : w10.cell? ⟨gb252, 5, none⟩ = some (.int .i64 a0_5) := (blk_cell BK252.out 5).trans rfl; have hfz11_0 := blk_frozen BK252.out 0; have hfz11_1 := blk_frozen BK252.out 1; have hfz11_2 := blk_frozen BK252.out 2; have hfz11_3 := blk_frozen BK252.out 3; have hfz11_4 := blk_frozen BK252.out 4; have hfz11_5 := blk_frozen BK252.out 5) | ((with_reducible refine gate_callee (f := 48) rfl ?_); refine goesL_ (some 10) rfl rfl Try.func48 (by kernel_rfl) rfl #[.agg #[.int .i64 a0_0, .int .i64 a0_1, .int .i64 a0_2, .int .i64 a0_3, .int .i64 a0_4, .int .i64 a0_5], .string (⟨#[]⟩ : ByteArray), .string (⟨#[]⟩ : ByteArray)] rfl (by (try simp only [List.map_toArray, List.map_cons, List.map_nil]); first | done | rfl | (simp only [List.length_drop, List.length_take]; rfl)) ?_; (with_reducible refine (clock_Time_part.calls k a0_0 a0_1 a0_2 a0_3 a0_4 a0_5 (⟨#[]⟩ : ByteArray) (⟨#[]⟩ : ByteArray) t254 t255 _ A4.out).mono ?_); rintro e w12 ⟨rfl, hb⟩; refine ⟨_, rfl, ?_⟩; have n0_ := Aside0.mk (blk_below (g := gb252) (o := .cells #[.int .i64 a0_0, .int .i64 a0_1, .int .i64 a0_2, .int .i64 a0_3, .int .i64 a0_4, .int .i64 a0_5] 28 (0, 0)) (by (with_reducible repeat (first | refine blk_drewN ?_ _ | refine blk_drew ?_ | refine blk_alloc ?_ _)); exact BK252.out) hb); have n1_ := Aside0.mk (below_step (by repeat (first | (with_reducible first | exact HB.out | apply below_alloc | apply pw_below_drewN | apply below_drew1 | refine below_set ?_ GE252.out) | exact HB.out)) hb); clear BK252; clear HB; have BK252 := n0_; have HB := n1_; clear n0_ n1_; (try clear hb); (try clear hb2); (try clear hk); (try clear hi)))
          go_ret
          exact ⟨by first | rfl | (simp [errW_none, errW_some] <;> rfl) | (simp [*, errW_none, errW_some] <;> rfl), by repeat (first | (with_reducible first | exact HB.out | apply below_alloc | apply pw_below_drewN | apply below_drew1 | refine below_set ?_ GE252.out) | exact HB.out)⟩
        · rw [if_neg c7] at H
          exact absurd H (by simp)
      · rw [if_neg c6] at H
        exact absurd H (by simp)
    · rw [if_neg c5] at H
      exact absurd H (by simp)
  · replace c3 := Bool.eq_false_iff.mpr c3
    subst c3
    have H1 : (some (⟨#[]⟩ : ByteArray)) = some r := by rw [if_neg (show ¬ (false = true) by decide)] at H; exact H
    clear H
    have H := H1
    clear H1
    obtain rfl := Option.some.inj H
    go_enter Try.func23, Try.ntmps23
    go_wp2_with (first | ((with_reducible refine gate_dst (N := 1) rfl ?_); refine box_event ?hg (N := 1) ?hd (cs := #[.int .i64 a0_0, .int .i64 a0_1, .int .i64 a0_2, .int .i64 a0_3, .int .i64 a0_4, .int .i64 a0_5]) (t := 28) ?hr ?_; (case hd => rfl); (case hg => rfl); (case hr => first | (go_simp; done) | (go_simp; rfl)); intro gb252 hg w13 hbox hb; have n0_ := Aside0.mk (below_step (by repeat (first | (with_reducible first | exact HB.out | apply below_alloc | apply pw_below_drewN | apply below_drew1) | exact HB.out)) hb); have n1_ := Aside0.mk (hbox); have n2_ := Aside0.mk ((by rw [hg]; exact (below_size (by repeat (first | (with_reducible first | exact HB.out | apply below_alloc | apply pw_below_drewN | apply below_drew1) | exact HB.out))) : w.heap.size ≤ gb252)); have n3_ := Aside0.mk ((by rw [hg]; exact (below_size (by repeat (first | (with_reducible first | exact HB.out | apply below_alloc | apply pw_below_drewN | apply below_drew1) | exact HB.out))) : w.heap.size ≤ gb252)); clear HB; have HB := n0_; have BK252 := n1_; have GW252 := n2_; have GE252 := n3_; clear n0_ n1_ n2_ n3_; clear hb hbox hg; have hcz14_0 : w13.cell? ⟨gb252, 0, none⟩ = some (.int .i64 a0_0) := (blk_cell BK252.out 0).trans rfl; have hcz14_1 : w13.cell? ⟨gb252, 1, none⟩ = some (.int .i64 a0_1) := (blk_cell BK252.out 1).trans rfl; have hcz14_2 : w13.cell? ⟨gb252, 2, none⟩ = some (.int .i64 a0_2) := (blk_cell BK252.out 2).trans rfl; have hcz14_3 : w13.cell? ⟨gb252, 3, none⟩ = some (.int .i64 a0_3) := (blk_cell BK252.out 3).trans rfl; have hcz14_4 : w13.cell? ⟨gb252, 4, none⟩ = some (.int .i64 a0_4) := (blk_cell BK252.out 4).trans rfl; have hcz14_5 : w13.cell? ⟨gb252, 5, none⟩ = some (.int .i64 a0_5) := (blk_cell BK252.out 5).trans rfl; have hfz14_0 := blk_frozen BK252.out 0; have hfz14_1 := blk_frozen BK252.out 1; have hfz14_2 := blk_frozen BK252.out 2; have hfz14_3 := blk_frozen BK252.out 3; have hfz14_4 := blk_frozen BK252.out 4; have hfz14_5 := blk_frozen BK252.out 5) | ((with_reducible refine gate_callee (f := 46) rfl ?_); refine goesL_ (some 6) rfl rfl Try.func46 (by kernel_rfl) rfl #[.agg #[.int .i64 a0_0, .int .i64 a0_1, .int .i64 a0_2, .int .i64 a0_3, .int .i64 a0_4, .int .i64 a0_5]] rfl (by (try simp only [List.map_toArray, List.map_cons, List.map_nil]); first | done | rfl | (simp only [List.length_drop, List.length_take]; rfl)) ?_; (with_reducible refine (clock_Time_right.calls a0_0 a0_1 a0_2 a0_3 a0_4 a0_5 false _ A2.out).mono ?_); rintro e w15 ⟨rfl, hb⟩; refine ⟨_, rfl, ?_⟩; have n0_ := Aside0.mk (blk_below (g := gb252) (o := .cells #[.int .i64 a0_0, .int .i64 a0_1, .int .i64 a0_2, .int .i64 a0_3, .int .i64 a0_4, .int .i64 a0_5] 28 (0, 0)) (by (with_reducible repeat (first | refine blk_drewN ?_ _ | refine blk_drew ?_ | refine blk_alloc ?_ _)); exact BK252.out) hb); have n1_ := Aside0.mk (below_step (by repeat (first | (with_reducible first | exact HB.out | apply below_alloc | apply pw_below_drewN | apply below_drew1 | refine below_set ?_ GE252.out) | exact HB.out)) hb); clear BK252; clear HB; have BK252 := n0_; have HB := n1_; clear n0_ n1_; (try clear hb); (try clear hb2); (try clear hk); (try clear hi)))
    go_ret
    exact ⟨by first | rfl | (simp [errW_none, errW_some] <;> rfl) | (simp [*, errW_none, errW_some] <;> rfl), by repeat (first | (with_reducible first | exact HB.out | apply below_alloc | apply pw_below_drewN | apply below_drew1 | refine below_set ?_ GE252.out) | exact HB.out)⟩

end Go.Proofs.Ytdfghdppbfabfaa.P

/- Times as texts: the program's. -/
namespace Go.Proofs.Ytdfghdppbfabfaa.P
open Go.RowKit Go.Proofs.YtdfghdppbfabfaaW.PrintWords Go.Proofs.YtdfghdppbfabfaaW.PrintLast Go.Proofs.YtdfghdppbfabfaaW.PrintMore
set_option linter.unusedVariables false
set_option linter.unusedSimpArgs false

def d2 (n : Int) : List Int := [48 + n / 10, 48 + n % 10]
def d4 (n : Int) : List Int := [48 + n / 1000, 48 + n / 100 % 10, 48 + n / 10 % 10, 48 + n % 10]
theorem d2_len (n : Int) : (d2 n).length = 2 := rfl
theorem d4_len (n : Int) : (d4 n).length = 4 := rfl
theorem dec_1 {n : Int} (h : 0 ≤ n ∧ n < 10) : decL n = [48 + n] := by
  unfold decL
  rw [if_neg (by omega), natD_lt (by omega)]
  congr 2
  omega
theorem dec_s {n : Int} (h : 10 ≤ n) : decL n = decL (n / 10) ++ [48 + n % 10] := by
  unfold decL
  rw [if_neg (by omega), if_neg (by omega), natD_ge (by omega), show (n / 10).natAbs = n.natAbs / 10 by omega]
  congr 3
  omega
theorem pad_2 {n : Int} (h : 0 ≤ n ∧ n < 100) : List.replicate (2 - (decL n).length) (48 : Int) ++ decL n = d2 n := by
  unfold d2
  by_cases h1 : n < 10
  · rw [dec_1 ⟨h.1, h1⟩, show n / 10 = 0 by omega, show n % 10 = n by omega]
    rfl
  · rw [dec_s (by omega), dec_1 (n := n / 10) (by omega)]
    rfl
theorem pad_4 {n : Int} (h : 0 ≤ n ∧ n < 10000) : List.replicate (4 - (decL n).length) (48 : Int) ++ decL n = d4 n := by
  unfold d4
  by_cases h1 : n < 10
  · rw [dec_1 ⟨h.1, h1⟩, show n / 1000 = 0 by omega, show n / 100 % 10 = 0 by omega, show n / 10 % 10 = 0 by omega, show n % 10 = n by omega]
    rfl
  · rw [dec_s (by omega)]
    by_cases h2 : n < 100
    · rw [dec_1 (n := n / 10) (by omega), show n / 1000 = 0 by omega, show n / 100 % 10 = 0 by omega, show n / 10 % 10 = n / 10 by omega]
      rfl
    · rw [dec_s (n := n / 10) (by omega)]
      by_cases h3 : n < 1000
      · rw [dec_1 (n := n / 10 / 10) (by omega), show n / 1000 = 0 by omega, show n / 100 % 10 = n / 10 / 10 by omega]
        rfl
      · rw [dec_s (n := n / 10 / 10) (by omega), dec_1 (n := n / 10 / 10 / 10) (by omega), show n / 10 / 10 / 10 = n / 1000 by omega, show n / 10 / 10 % 10 = n / 100 % 10 by omega]
        rfl
theorem ev_pad (z : Int) (hz : z ≤ 100) : ∀ (d : Nat) (l : List Int), (z - l.length).toNat = d → l.length ≤ 100 → Ev (fun k => clock_digits.l0 k z (strOfNums l)) (strOfNums (List.replicate d (48 : Int) ++ l)) := by
  intro d
  induction d with
  | zero =>
    intro l hd hl
    exact Ev.step (fun k => by rw [clock_digits.l0, if_neg (by rw [strOfNums_size]; omega)]; rfl) (Ev.now _)
  | succ d ih =>
    intro l hd hl
    have e := ih (48 :: l) (by rw [List.length_cons]; omega) (by rw [List.length_cons]; omega)
    rw [show List.replicate (d + 1) (48 : Int) ++ l = List.replicate d (48 : Int) ++ 48 :: l by rw [List.replicate_succ']; simp]
    refine Ev.step (fun k => by rw [clock_digits.l0, if_pos (by rw [strOfNums_size]; omega), if_pos (by rw [strOfNums_size]; omega)]) ?_
    rw [show (⟨#[48]⟩ : ByteArray) ++ strOfNums l = strOfNums (48 :: l) by rw [show (48 :: l) = [48] ++ l from rfl, strOf_append]; rfl]
    exact e
theorem ev_digits2 {n : Int} (h : 0 ≤ n ∧ n < 100) : Ev (fun k => clock_digits.f k n 2) (strOfNums (d2 n)) := by
  unfold clock_digits.f
  refine Ev.bind (ev_Decimal n (by omega) (by omega)) ?_
  have hl : (decL n).length ≤ 100 := by
    have := congrArg List.length (pad_2 h)
    simp [d2] at this
    omega
  have e := ev_pad 2 (by omega) _ (decL n) rfl hl
  rw [show ((2 : Int) - (decL n).length).toNat = 2 - (decL n).length by omega, pad_2 h] at e
  exact e
theorem ev_digits4 {n : Int} (h : 0 ≤ n ∧ n < 10000) : Ev (fun k => clock_digits.f k n 4) (strOfNums (d4 n)) := by
  unfold clock_digits.f
  refine Ev.bind (ev_Decimal n (by omega) (by omega)) ?_
  have hl : (decL n).length ≤ 100 := by
    have := congrArg List.length (pad_4 h)
    simp [d4] at this
    omega
  have e := ev_pad 4 (by omega) _ (decL n) rfl hl
  rw [show ((4 : Int) - (decL n).length).toNat = 4 - (decL n).length by omega, pad_4 h] at e
  exact e
def dateB (Y M D : Int) (a : ByteArray) : ByteArray := (((strOfNums (d4 Y) ++ a) ++ strOfNums (d2 M)) ++ a) ++ strOfNums (d2 D)
def timeB (h m s : Int) (a : ByteArray) : ByteArray := (((strOfNums (d2 h) ++ a) ++ strOfNums (d2 m)) ++ a) ++ strOfNums (d2 s)
theorem right_bd {Y M D h m s : Int} (hr : rightT Y M D h m s) : (0 ≤ Y ∧ Y < 10000) ∧ (0 ≤ M ∧ M < 100) ∧ (0 ≤ D ∧ D < 100) ∧ (0 ≤ h ∧ h < 100) ∧ (0 ≤ m ∧ m < 100) ∧ (0 ≤ s ∧ s < 100) := by
  have hm := right_month hr
  have hd := days_bd Y M
  unfold rightT at hr
  omega
theorem ev_part {Y M D h m s : Int} (hr : rightT Y M D h m s) (a b : ByteArray) (ha : a.size ≤ 10) (hb : b.size ≤ 10) : Ev (fun k => clock_Time_part.f k Y M D h m s a b) (dateB Y M D a, timeB h m s b) := by
  obtain ⟨q1, q2, q3, q4, q5, q6⟩ := right_bd hr
  unfold clock_Time_part.f
  refine Ev.bind (ev_digits4 q1) ?_
  refine Ev.congr (fun k => by rw [if_pos (by simp only [ByteArray.size_append, strOfNums_size, d2_len, d4_len]; omega)]) ?_
  refine Ev.bind (ev_digits2 q2) ?_
  refine Ev.congr (fun k => by rw [if_pos (by simp only [ByteArray.size_append, strOfNums_size, d2_len, d4_len]; omega), if_pos (by simp only [ByteArray.size_append, strOfNums_size, d2_len, d4_len]; omega)]) ?_
  refine Ev.bind (ev_digits2 q3) ?_
  refine Ev.congr (fun k => by rw [if_pos (by simp only [ByteArray.size_append, strOfNums_size, d2_len, d4_len]; omega)]) ?_
  refine Ev.bind (ev_digits2 q4) ?_
  refine Ev.congr (fun k => by rw [if_pos (by simp only [ByteArray.size_append, strOfNums_size, d2_len, d4_len]; omega)]) ?_
  refine Ev.bind (ev_digits2 q5) ?_
  refine Ev.congr (fun k => by rw [if_pos (by simp only [ByteArray.size_append, strOfNums_size, d2_len, d4_len]; omega), if_pos (by simp only [ByteArray.size_append, strOfNums_size, d2_len, d4_len]; omega)]) ?_
  refine Ev.bind (ev_digits2 q6) ?_
  refine Ev.congr (fun k => by rw [if_pos (by simp only [ByteArray.size_append, strOfNums_size, d2_len, d4_len]; omega)]) ?_
  exact Ev.now _
theorem dateB_size (Y M D : Int) (a : ByteArray) : (dateB Y M D a).size = 8 + 2 * a.size := by
  simp only [dateB, ByteArray.size_append, strOfNums_size, d2_len, d4_len]; omega
theorem timeB_size (h m s : Int) (a : ByteArray) : (timeB h m s a).size = 6 + 2 * a.size := by
  simp only [timeB, ByteArray.size_append, strOfNums_size, d2_len]; omega
def isoL (Y M D h m s : Int) : List Int := d4 Y ++ ([45] ++ (d2 M ++ ([45] ++ (d2 D ++ ([84] ++ (d2 h ++ ([58] ++ (d2 m ++ ([58] ++ (d2 s ++ [46, 48, 48, 48, 90]))))))))))
def shortL (Y M D h m s : Int) : List Int := d4 Y ++ (d2 M ++ (d2 D ++ ([84] ++ (d2 h ++ (d2 m ++ (d2 s ++ [90]))))))
theorem l45 : (⟨#[45]⟩ : ByteArray) = strOfNums [45] := rfl
theorem l58 : (⟨#[58]⟩ : ByteArray) = strOfNums [58] := rfl
theorem l84 : (⟨#[84]⟩ : ByteArray) = strOfNums [84] := rfl
theorem l90 : (⟨#[90]⟩ : ByteArray) = strOfNums [90] := rfl
theorem l32 : (⟨#[32]⟩ : ByteArray) = strOfNums [32] := rfl
theorem l0 : (⟨#[]⟩ : ByteArray) = strOfNums [] := rfl
theorem lz : (⟨#[46, 48, 48, 48, 90]⟩ : ByteArray) = strOfNums [46, 48, 48, 48, 90] := rfl
theorem lc : (⟨#[44, 32]⟩ : ByteArray) = strOfNums [44, 32] := rfl
theorem lg : (⟨#[32, 71, 77, 84]⟩ : ByteArray) = strOfNums [32, 71, 77, 84] := rfl
open Classical in
noncomputable def isoS (Y M D h m s : Int) : ByteArray := if rightT Y M D h m s then strOfNums (isoL Y M D h m s) else strOfNums []
open Classical in
noncomputable def shortS (Y M D h m s : Int) : ByteArray := if rightT Y M D h m s then strOfNums (shortL Y M D h m s) else strOfNums []
theorem ev_Iso (Y M D h m s : Int) : Ev (fun k => clock_Iso.f k Y M D h m s) (isoS Y M D h m s) := by
  unfold clock_Iso.f isoS
  by_cases hr : rightT Y M D h m s
  · refine Ev.congr (fun k => by rw [right_eq, Option.bind_some, if_pos (decide_eq_true hr)]) ?_
    rw [if_pos hr]
    refine Ev.bind (ev_part hr _ _ (by decide) (by decide)) ?_
    have e1 : (⟨#[45]⟩ : ByteArray).size = 1 := rfl
    have e2 : (⟨#[58]⟩ : ByteArray).size = 1 := rfl
    have e3 : (⟨#[84]⟩ : ByteArray).size = 1 := rfl
    refine Ev.congr (fun k => by rw [if_pos (by simp only [dateB_size]; omega), if_pos (by simp only [ByteArray.size_append, dateB_size, timeB_size]; omega), if_pos (by simp only [ByteArray.size_append, dateB_size, timeB_size]; omega)]) ?_
    rw [show (dateB Y M D (⟨#[45]⟩ : ByteArray) ++ (⟨#[84]⟩ : ByteArray) ++ timeB h m s (⟨#[58]⟩ : ByteArray) ++ (⟨#[46, 48, 48, 48, 90]⟩ : ByteArray)) = strOfNums (isoL Y M D h m s) by
      rw [l45, l58, l84, lz]; simp only [dateB, timeB, isoL, ← strOf_append, List.append_assoc]]
    exact Ev.now _
  · rw [if_neg hr]
    exact Ev.congr (fun k => by rw [right_eq, Option.bind_some, if_neg (by simpa using hr)]; rfl) (Ev.now _)
theorem ev_Short (Y M D h m s : Int) : Ev (fun k => clock_Short.f k Y M D h m s) (shortS Y M D h m s) := by
  unfold clock_Short.f shortS
  by_cases hr : rightT Y M D h m s
  · refine Ev.congr (fun k => by rw [right_eq, Option.bind_some, if_pos (decide_eq_true hr)]) ?_
    rw [if_pos hr]
    refine Ev.bind (ev_part hr _ _ (by decide) (by decide)) ?_
    have e1 : (⟨#[]⟩ : ByteArray).size = 0 := rfl
    have e3 : (⟨#[84]⟩ : ByteArray).size = 1 := rfl
    refine Ev.congr (fun k => by rw [if_pos (by simp only [dateB_size]; omega), if_pos (by simp only [ByteArray.size_append, dateB_size, timeB_size]; omega), if_pos (by simp only [ByteArray.size_append, dateB_size, timeB_size]; omega)]) ?_
    rw [show (dateB Y M D (⟨#[]⟩ : ByteArray) ++ (⟨#[84]⟩ : ByteArray) ++ timeB h m s (⟨#[]⟩ : ByteArray) ++ (⟨#[90]⟩ : ByteArray)) = strOfNums (shortL Y M D h m s) by
      rw [l0, l84, l90]; simp only [dateB, timeB, shortL, ← strOf_append, List.append_assoc, List.nil_append]]
    exact Ev.now _
  · rw [if_neg hr]
    exact Ev.congr (fun k => by rw [right_eq, Option.bind_some, if_neg (by simpa using hr)]; rfl) (Ev.now _)
/-! ### The form of the web -/
def dayNamesL : List Int := [83, 117, 110, 77, 111, 110, 84, 117, 101, 87, 101, 100, 84, 104, 117, 70, 114, 105, 83, 97, 116]
def monNamesL : List Int := [74, 97, 110, 70, 101, 98, 77, 97, 114, 65, 112, 114, 77, 97, 121, 74, 117, 110, 74, 117, 108, 65, 117, 103, 83, 101, 112, 79, 99, 116, 78, 111, 118, 68, 101, 99]
def dayL (w : Int) : List Int := (dayNamesL.drop (3 * w.toNat)).take 3
def monL (k : Int) : List Int := (monNamesL.drop (3 * k.toNat)).take 3
theorem dayL_len {w : Int} (h : 0 ≤ w ∧ w < 7) : (dayL w).length = 3 := by
  have key : ∀ i : Fin 7, (dayL (i.val : Int)).length = 3 := by decide
  obtain ⟨m, rfl⟩ := Int.eq_ofNat_of_zero_le h.1
  exact key ⟨m, by omega⟩
theorem monL_len {w : Int} (h : 0 ≤ w ∧ w < 12) : (monL w).length = 3 := by
  have key : ∀ i : Fin 12, (monL (i.val : Int)).length = 3 := by decide
  obtain ⟨m, rfl⟩ := Int.eq_ofNat_of_zero_le h.1
  exact key ⟨m, by omega⟩
abbrev dayB : ByteArray := ⟨#[83, 117, 110, 77, 111, 110, 84, 117, 101, 87, 101, 100, 84, 104, 117, 70, 114, 105, 83, 97, 116]⟩
abbrev monB : ByteArray := ⟨#[74, 97, 110, 70, 101, 98, 77, 97, 114, 65, 112, 114, 77, 97, 121, 74, 117, 110, 74, 117, 108, 65, 117, 103, 83, 101, 112, 79, 99, 116, 78, 111, 118, 68, 101, 99]⟩
theorem dayB_cut {w : Int} (h : 0 ≤ w ∧ w < 7) : dayB.extract (3 * w).toNat (3 * (w + 1)).toNat = strOfNums (dayL w) := by
  have key : ∀ i : Fin 7, dayB.extract (3 * (i.val : Int)).toNat (3 * ((i.val : Int) + 1)).toNat = strOfNums (dayL (i.val : Int)) := by decide +kernel
  obtain ⟨m, rfl⟩ := Int.eq_ofNat_of_zero_le h.1
  exact key ⟨m, by omega⟩
theorem monB_cut {w : Int} (h : 0 ≤ w ∧ w < 12) : monB.extract (3 * w).toNat (3 * (w + 1)).toNat = strOfNums (monL w) := by
  have key : ∀ i : Fin 12, monB.extract (3 * (i.val : Int)).toNat (3 * ((i.val : Int) + 1)).toNat = strOfNums (monL (i.val : Int)) := by decide +kernel
  obtain ⟨m, rfl⟩ := Int.eq_ofNat_of_zero_le h.1
  exact key ⟨m, by omega⟩
theorem dayname_eq {w : Int} (h : 0 ≤ w ∧ w < 7) : clock_name.f dayB w = some (strOfNums (dayL w)) := by
  have hs : (dayB.size : Int) = 21 := rfl
  unfold clock_name.f
  rw [wk64 (n := 3 * w) (by omega), wk64 (n := w + 1) (by omega), wk64 (n := 3 * (w + 1)) (by omega), if_pos (by omega), if_pos (by omega), if_pos (by rw [hs]; omega), dayB_cut h]
theorem monname_eq {w : Int} (h : 0 ≤ w ∧ w < 12) : clock_name.f monB w = some (strOfNums (monL w)) := by
  have hs : (monB.size : Int) = 36 := rfl
  unfold clock_name.f
  rw [wk64 (n := 3 * w) (by omega), wk64 (n := w + 1) (by omega), wk64 (n := 3 * (w + 1)) (by omega), if_pos (by omega), if_pos (by omega), if_pos (by rw [hs]; omega), monB_cut h]
def webL (w Y M D h m s : Int) : List Int := dayL w ++ ([44, 32] ++ (d2 D ++ ([32] ++ (monL (M - 1) ++ ([32] ++ (d4 Y ++ ([32] ++ (d2 h ++ ([58] ++ (d2 m ++ ([58] ++ (d2 s ++ [32, 71, 77, 84]))))))))))))
open Classical in
noncomputable def webS (Y M D h m s : Int) : ByteArray := if rightT Y M D h m s then strOfNums (webL ((dayN Y M D + 1) % 7) Y M D h m s) else strOfNums []
theorem ev_Web (Y M D h m s : Int) : Ev (fun k => clock_Web.f k Y M D h m s) (webS Y M D h m s) := by
  unfold clock_Web.f webS
  by_cases hr : rightT Y M D h m s
  · refine Ev.congr (fun k => by rw [right_eq, Option.bind_some, if_pos (decide_eq_true hr)]) ?_
    rw [if_pos hr]
    obtain ⟨q1, q2, q3, q4, q5, q6⟩ := right_bd hr
    have hm := right_month hr
    have hw : 0 ≤ (dayN Y M D + 1) % 7 ∧ (dayN Y M D + 1) % 7 < 7 := by omega
    have hwk := ev_Weekday Y M D h m s
    unfold weekT at hwk
    rw [if_pos hr] at hwk
    generalize (dayN Y M D + 1) % 7 = w at *
    have hk : 0 ≤ M - 1 ∧ M - 1 < 12 := by omega
    have n1 := dayL_len hw
    have n2 := monL_len hk
    refine Ev.bind (ev_part hr _ _ (by decide) (by decide)) ?_
    refine Ev.bind hwk ?_
    refine Ev.congr (fun k => by rw [dayname_eq hw, Option.bind_some, if_pos (by rw [strOfNums_size, n1]; omega)]) ?_
    refine Ev.bind (ev_digits2 q3) ?_
    have e1 : (⟨#[44, 32]⟩ : ByteArray).size = 2 := rfl
    have e2 : (⟨#[32]⟩ : ByteArray).size = 1 := rfl
    have e3 : (⟨#[58]⟩ : ByteArray).size = 1 := rfl
    have e4 : (⟨#[32, 71, 77, 84]⟩ : ByteArray).size = 4 := rfl
    refine Ev.congr (fun k => by rw [if_pos (by simp only [ByteArray.size_append, strOfNums_size, d2_len, d4_len, n1, n2, e1, e2]; omega), if_pos (by simp only [ByteArray.size_append, strOfNums_size, d2_len, d4_len, n1, n2, e1, e2]; omega), wk64 (n := M - 1) (by omega), monname_eq hk, Option.bind_some]) ?_
    refine Ev.congr (fun k => by rw [if_pos (by simp only [ByteArray.size_append, strOfNums_size, d2_len, d4_len, n1, n2, e1, e2]; omega), if_pos (by simp only [ByteArray.size_append, strOfNums_size, d2_len, d4_len, n1, n2, e1, e2]; omega)]) ?_
    refine Ev.bind (ev_digits4 q1) ?_
    refine Ev.congr (fun k => by rw [if_pos (by simp only [ByteArray.size_append, strOfNums_size, d2_len, d4_len, n1, n2, e1, e2]; omega), if_pos (by simp only [ByteArray.size_append, strOfNums_size, d2_len, d4_len, n1, n2, e1, e2]; omega), if_pos (by simp only [ByteArray.size_append, strOfNums_size, d2_len, d4_len, n1, n2, e1, e2, timeB_size, e3]; omega), if_pos (by simp only [ByteArray.size_append, strOfNums_size, d2_len, d4_len, n1, n2, e1, e2, timeB_size, e3]; omega)]) ?_
    refine Ev.congr (fun k => show _ = some (strOfNums (webL w Y M D h m s)) from ?_) (Ev.now _)
    congr 1
    rw [l32, lc, l58, lg]
    simp only [timeB, webL, ← strOf_append, List.append_assoc]
  · rw [if_neg hr]
    exact Ev.congr (fun k => by rw [right_eq, Option.bind_some, if_neg (by simpa using hr)]; rfl) (Ev.now _)
end Go.Proofs.Ytdfghdppbfabfaa.P

namespace Go.Proofs.Ytdfghdppbfabfaa.P
open Go.RowKit Go.Proofs.YtdfghdppbfabfaaW.PrintWords Go.Proofs.YtdfghdppbfabfaaW.PrintLast Go.Proofs.YtdfghdppbfabfaaW.PrintMore
attribute [local go_sem] max2_int min2_int max_two min_two max_three min_three max_four min_four   -- for this text's walks alone
set_option linter.unusedVariables false
set_option linter.unusedSimpArgs false

/-! ### clock_field: function 55 -/
def clock_field.f (k : Nat) (a0 : ByteArray) (a1 : Int) (a2 : Int) : Option (Int) := if 0 ≤ a1 then (if a1 ≤ a2 then (if a2 ≤ (a0.size : Int) then ((hex_ReadDecimal.f k (a0.extract (a1 : Int).toNat (a2 : Int).toNat)).bind fun bt300 => (if bt300.2 = true then (some bt300.1) else (some (-1)))) else (none)) else (none)) else (none)
theorem clock_field.mono : ∀ a0 a1 a2 k, LeO (clock_field.f k a0 a1 a2) (clock_field.f (k + 1) a0 a1 a2) := by
  intro a0 a1 a2 k
  unfold clock_field.f
  repeat' first
      | (with_reducible exact hex_ReadDecimal.mono _ _)
      | (with_reducible exact LeO.refl _)
      | (with_reducible exact LeO.none _)
      | (with_reducible refine LeO.ite ?_ ?_)
      | (with_reducible refine LeO.bind ?_ (fun _ => ?_))
      | exact hex_ReadDecimal.mono _ _
      | exact LeO.none _
      | refine LeO.ite ?_ ?_
      | refine LeO.bind ?_ (fun _ => ?_)
set_option maxHeartbeats 8000000 in
set_option maxRecDepth 100000 in
theorem clock_field.calls (k : Nat) (a0 : ByteArray) (a1 : Int) (a2 : Int) (r : Int) (w : World) (h : clock_field.f k a0 a1 a2 = some r) :
    Calls Try.prog 55 #[.string a0, .int .i64 a1, .int .i64 a2] w fun e w' => e = .returned (.int .i64 r) ∧ Below w.heap.size w w' := by
  have HB := Aside0.mk (Below.refl w.heap.size w)
  have H : (if 0 ≤ a1 then (if a1 ≤ a2 then (if a2 ≤ (a0.size : Int) then ((hex_ReadDecimal.f k (a0.extract (a1 : Int).toNat (a2 : Int).toNat)).bind fun bt300 => (if bt300.2 = true then (some bt300.1) else (some (-1)))) else (none)) else (none)) else (none)) = some r := h
  clear h
  by_cases c4 : 0 ≤ a1
  · rw [if_pos c4] at H
    have c4b0 := eq_true c4
    have c4b1 : decide (0 ≤ a1) = true := decide_eq_true c4
    clear c4
    by_cases c5 : a1 ≤ a2
    · rw [if_pos c5] at H
      have c5b0 := eq_true c5
      have c5b1 : decide (a1 ≤ a2) = true := decide_eq_true c5
      clear c5
      by_cases c6 : a2 ≤ (a0.size : Int)
      · rw [if_pos c6] at H
        have c6b0 := eq_true c6
        have c6b1 : decide (a2 ≤ (a0.size : Int)) = true := decide_eq_true c6
        clear c6
        replace H := Option.bind_eq_some_iff.mp H
        obtain ⟨⟨t300, t301⟩, A70, H⟩ := H
        replace H : (if t301 = true then (some t300) else (some (-1))) = some r := H
        have A7 := Aside0.mk A70
        clear A70
        by_cases c8 : t301 = true
        · subst c8
          have H1 : (some t300) = some r := by rw [if_pos rfl] at H; exact H
          clear H
          have H := H1
          clear H1
          obtain rfl := Option.some.inj H
          go_enter Try.func55, Try.ntmps55
          go_wp2_with (first | ((with_reducible refine gate_callee (f := 69) rfl ?_); refine goesL_ (some 14) rfl rfl Try.func69 (by kernel_rfl) rfl #[.string (a0.extract (a1 : Int).toNat (a2 : Int).toNat)] rfl (by (try simp only [List.map_toArray, List.map_cons, List.map_nil]); first | done | rfl | (simp only [List.length_drop, List.length_take]; rfl)) ?_; (with_reducible refine (hex_ReadDecimal.calls k (a0.extract (a1 : Int).toNat (a2 : Int).toNat) t300 true _ A7.out).mono ?_); rintro e w9 ⟨rfl, hb⟩; refine ⟨_, rfl, ?_⟩; have n0_ := Aside0.mk (below_step (by repeat (first | (with_reducible first | exact HB.out | apply below_alloc | apply pw_below_drewN | apply below_drew1) | exact HB.out)) hb); clear HB; have HB := n0_; clear n0_; (try clear hb); (try clear hb2); (try clear hk); (try clear hi)))
          go_ret
          exact ⟨by first | rfl | (simp [errW_none, errW_some] <;> rfl) | (simp [*, errW_none, errW_some] <;> rfl), by repeat (first | (with_reducible first | exact HB.out | apply below_alloc | apply pw_below_drewN | apply below_drew1) | exact HB.out)⟩
        · replace c8 := Bool.eq_false_iff.mpr c8
          subst c8
          have H1 : (some (-1)) = some r := by rw [if_neg (show ¬ (false = true) by decide)] at H; exact H
          clear H
          have H := H1
          clear H1
          obtain rfl := Option.some.inj H
          go_enter Try.func55, Try.ntmps55
          go_wp2_with (first | ((with_reducible refine gate_callee (f := 69) rfl ?_); refine goesL_ (some 14) rfl rfl Try.func69 (by kernel_rfl) rfl #[.string (a0.extract (a1 : Int).toNat (a2 : Int).toNat)] rfl (by (try simp only [List.map_toArray, List.map_cons, List.map_nil]); first | done | rfl | (simp only [List.length_drop, List.length_take]; rfl)) ?_; (with_reducible refine (hex_ReadDecimal.calls k (a0.extract (a1 : Int).toNat (a2 : Int).toNat) t300 false _ A7.out).mono ?_); rintro e w10 ⟨rfl, hb⟩; refine ⟨_, rfl, ?_⟩; have n0_ := Aside0.mk (below_step (by repeat (first | (with_reducible first | exact HB.out | apply below_alloc | apply pw_below_drewN | apply below_drew1) | exact HB.out)) hb); clear HB; have HB := n0_; clear n0_; (try clear hb); (try clear hb2); (try clear hk); (try clear hi)))
          go_ret
          exact ⟨by first | rfl | (simp [errW_none, errW_some] <;> rfl) | (simp [*, errW_none, errW_some] <;> rfl), by repeat (first | (with_reducible first | exact HB.out | apply below_alloc | apply pw_below_drewN | apply below_drew1) | exact HB.out)⟩
      · rw [if_neg c6] at H
        exact absurd H (by simp)
    · rw [if_neg c5] at H
      exact absurd H (by simp)
  · rw [if_neg c4] at H
    exact absurd H (by simp)

end Go.Proofs.Ytdfghdppbfabfaa.P

namespace Go.Proofs.Ytdfghdppbfabfaa.P
open Go.RowKit Go.Proofs.YtdfghdppbfabfaaW.PrintWords Go.Proofs.YtdfghdppbfabfaaW.PrintLast Go.Proofs.YtdfghdppbfabfaaW.PrintMore
attribute [local go_sem] max2_int min2_int max_two min_two max_three min_three max_four min_four   -- for this text's walks alone
set_option linter.unusedVariables false
set_option linter.unusedSimpArgs false

/-! ### clock_kept: function 56 -/
def clock_kept.f (a0_0 : Int) (a0_1 : Int) (a0_2 : Int) (a0_3 : Int) (a0_4 : Int) (a0_5 : Int) (a1 : ByteArray) (a2 : ByteArray) : Option (Int × Int × Int × Int × Int × Int × Bool) := if a1.toList = ([] : List UInt8) then (some (0, 0, 0, 0, 0, 0, false)) else (if a1.toList = a2.toList then (some (a0_0, a0_1, a0_2, a0_3, a0_4, a0_5, true)) else (some (0, 0, 0, 0, 0, 0, false)))
set_option maxHeartbeats 8000000 in
set_option maxRecDepth 100000 in
theorem clock_kept.calls (a0_0 : Int) (a0_1 : Int) (a0_2 : Int) (a0_3 : Int) (a0_4 : Int) (a0_5 : Int) (a1 : ByteArray) (a2 : ByteArray) (r1 : Int) (r2 : Int) (r3 : Int) (r4 : Int) (r5 : Int) (r6 : Int) (r7 : Bool) (w : World) (h : clock_kept.f a0_0 a0_1 a0_2 a0_3 a0_4 a0_5 a1 a2 = some (r1, r2, r3, r4, r5, r6, r7)) :
    Calls Try.prog 56 #[.agg #[.int .i64 a0_0, .int .i64 a0_1, .int .i64 a0_2, .int .i64 a0_3, .int .i64 a0_4, .int .i64 a0_5], .string a1, .string a2] w fun e w' => e = .returned (.tuple #[.agg #[.int .i64 r1, .int .i64 r2, .int .i64 r3, .int .i64 r4, .int .i64 r5, .int .i64 r6], .bool r7]) ∧ Below w.heap.size w w' := by
  have hu28 := Try.underlying28
  have HB := Aside0.mk (Below.refl w.heap.size w)
  have H : (if a1.toList = ([] : List UInt8) then (some (0, 0, 0, 0, 0, 0, false)) else (if a1.toList = a2.toList then (some (a0_0, a0_1, a0_2, a0_3, a0_4, a0_5, true)) else (some (0, 0, 0, 0, 0, 0, false)))) = some (r1, r2, r3, r4, r5, r6, r7) := h
  clear h
  by_cases c4 : a1.toList = ([] : List UInt8)
  · rw [if_pos c4] at H
    have c4b0 : (a1.toList == ([] : List UInt8)) = true := beq_iff_eq.mpr c4
    have c4b1 : (a1.toList != ([] : List UInt8)) = false := bne_eq_false_iff_eq.mpr c4
    clear c4
    simp only [Option.some.injEq, Prod.mk.injEq] at H
    obtain ⟨rfl, rfl, rfl, rfl, rfl, rfl, rfl⟩ := H
    go_enter Try.func56, Try.ntmps56
    go_wp2_with (first | ((with_reducible refine gate_dst (N := 3) rfl ?_); refine box_event ?hg (N := 3) ?hd (cs := #[.int .i64 a0_0, .int .i64 a0_1, .int .i64 a0_2, .int .i64 a0_3, .int .i64 a0_4, .int .i64 a0_5]) (t := 28) ?hr ?_; (case hd => rfl); (case hg => rfl); (case hr => first | (go_simp; done) | (go_simp; rfl)); intro gb302 hg w5 hbox hb; have n0_ := Aside0.mk (below_step (by repeat (first | (with_reducible first | exact HB.out | apply below_alloc | apply pw_below_drewN | apply below_drew1) | exact HB.out)) hb); have n1_ := Aside0.mk (hbox); have n2_ := Aside0.mk ((by rw [hg]; exact (below_size (by repeat (first | (with_reducible first | exact HB.out | apply below_alloc | apply pw_below_drewN | apply below_drew1) | exact HB.out))) : w.heap.size ≤ gb302)); have n3_ := Aside0.mk ((by rw [hg]; exact (below_size (by repeat (first | (with_reducible first | exact HB.out | apply below_alloc | apply pw_below_drewN | apply below_drew1) | exact HB.out))) : w.heap.size ≤ gb302)); clear HB; have HB := n0_; have BK302 := n1_; have GW302 := n2_; have GE302 := n3_; clear n0_ n1_ n2_ n3_; clear hb hbox hg) | ((with_reducible refine gate_dst (N := 6) rfl ?_); refine box_event ?hg (N := 6) ?hd (cs := #[.int .i64 0, .int .i64 0, .int .i64 0, .int .i64 0, .int .i64 0, .int .i64 0]) (t := 28) ?hr ?_; (case hd => rfl); (case hg => rfl); (case hr => first | (go_simp; done) | (go_simp; rfl)); intro gb303 hg w6 hbox hb; have n0_ := Aside0.mk (blk_below (g := gb302) (o := .cells #[.int .i64 a0_0, .int .i64 a0_1, .int .i64 a0_2, .int .i64 a0_3, .int .i64 a0_4, .int .i64 a0_5] 28 (0, 0)) (by (with_reducible repeat (first | refine blk_drewN ?_ _ | refine blk_drew ?_ | refine blk_alloc ?_ _)); exact BK302.out) hb); have n1_ := Aside0.mk (below_step (by repeat (first | (with_reducible first | exact HB.out | apply below_alloc | apply pw_below_drewN | apply below_drew1 | refine below_set ?_ GE302.out) | exact HB.out)) hb); have n2_ := Aside0.mk (hbox); have n3_ := Aside0.mk ((by rw [hg]; exact (below_size (by repeat (first | (with_reducible first | exact HB.out | apply below_alloc | apply pw_below_drewN | apply below_drew1 | refine below_set ?_ GE302.out) | exact HB.out))) : w.heap.size ≤ gb303)); have n4_ := Aside0.mk ((by rw [hg]; exact (below_size (by repeat (first | (with_reducible first | exact HB.out | apply below_alloc | apply pw_below_drewN | apply below_drew1 | refine below_set ?_ GE302.out) | exact HB.out))) : w.heap.size ≤ gb303)); have n5_ := Aside0.mk ((by rw [hg]; exact Nat.ne_of_lt (blk_lt (g := gb302) (o := .cells #[.int .i64 a0_0, .int .i64 a0_1, .int .i64 a0_2, .int .i64 a0_3, .int .i64 a0_4, .int .i64 a0_5] 28 (0, 0)) (by (with_reducible repeat (first | refine blk_drewN ?_ _ | refine blk_drew ?_ | refine blk_alloc ?_ _)); exact BK302.out)) : gb302 ≠ gb303)); have n6_ := Aside0.mk ((by rw [hg]; exact Nat.ne_of_gt (blk_lt (g := gb302) (o := .cells #[.int .i64 a0_0, .int .i64 a0_1, .int .i64 a0_2, .int .i64 a0_3, .int .i64 a0_4, .int .i64 a0_5] 28 (0, 0)) (by (with_reducible repeat (first | refine blk_drewN ?_ _ | refine blk_drew ?_ | refine blk_alloc ?_ _)); exact BK302.out)) : gb303 ≠ gb302)); clear BK302; clear HB; have BK302 := n0_; have HB := n1_; have BK303 := n2_; have GW303 := n3_; have GE303 := n4_; have NB302_303 := n5_; have NB303_302 := n6_; clear n0_ n1_ n2_ n3_ n4_ n5_ n6_; clear hb hbox hg; have hnb7 := NB303_302.out; have hnc7 := NB302_303.out; have hcz8_0 : w6.cell? ⟨gb303, 0, none⟩ = some (.int .i64 0) := (blk_cell BK303.out 0).trans rfl; have hcz8_1 : w6.cell? ⟨gb303, 1, none⟩ = some (.int .i64 0) := (blk_cell BK303.out 1).trans rfl; have hcz8_2 : w6.cell? ⟨gb303, 2, none⟩ = some (.int .i64 0) := (blk_cell BK303.out 2).trans rfl; have hcz8_3 : w6.cell? ⟨gb303, 3, none⟩ = some (.int .i64 0) := (blk_cell BK303.out 3).trans rfl; have hcz8_4 : w6.cell? ⟨gb303, 4, none⟩ = some (.int .i64 0) := (blk_cell BK303.out 4).trans rfl; have hcz8_5 : w6.cell? ⟨gb303, 5, none⟩ = some (.int .i64 0) := (blk_cell BK303.out 5).trans rfl; have hfz8_0 := blk_frozen BK303.out 0; have hfz8_1 := blk_frozen BK303.out 1; have hfz8_2 := blk_frozen BK303.out 2; have hfz8_3 := blk_frozen BK303.out 3; have hfz8_4 := blk_frozen BK303.out 4; have hfz8_5 := blk_frozen BK303.out 5))
    refine bodyPost_ret (results_ct rfl _ _ gb303 28 #[.int .i64 0, .int .i64 0, .int .i64 0, .int .i64 0, .int .i64 0, .int .i64 0] (0, 0) _ rfl (by (with_reducible repeat (first | refine blk_drewN ?_ _ | refine blk_drew ?_ | refine blk_alloc ?_ _)); refine blk_put (cs := #[.int .i64 0, .int .i64 0, .int .i64 0, .int .i64 0, .int .i64 0, .int .i64 0]) ?_ 5 _ rfl; (with_reducible repeat (first | refine blk_drewN ?_ _ | refine blk_drew ?_ | refine blk_alloc ?_ _)); refine blk_put (cs := #[.int .i64 0, .int .i64 0, .int .i64 0, .int .i64 0, .int .i64 0, .int .i64 0]) ?_ 4 _ rfl; (with_reducible repeat (first | refine blk_drewN ?_ _ | refine blk_drew ?_ | refine blk_alloc ?_ _)); refine blk_put (cs := #[.int .i64 0, .int .i64 0, .int .i64 0, .int .i64 0, .int .i64 0, .int .i64 0]) ?_ 3 _ rfl; (with_reducible repeat (first | refine blk_drewN ?_ _ | refine blk_drew ?_ | refine blk_alloc ?_ _)); refine blk_put (cs := #[.int .i64 0, .int .i64 0, .int .i64 0, .int .i64 0, .int .i64 0, .int .i64 0]) ?_ 2 _ rfl; (with_reducible repeat (first | refine blk_drewN ?_ _ | refine blk_drew ?_ | refine blk_alloc ?_ _)); refine blk_put (cs := #[.int .i64 0, .int .i64 0, .int .i64 0, .int .i64 0, .int .i64 0, .int .i64 0]) ?_ 1 _ rfl; (with_reducible repeat (first | refine blk_drewN ?_ _ | refine blk_drew ?_ | refine blk_alloc ?_ _)); refine blk_put (cs := #[.int .i64 0, .int .i64 0, .int .i64 0, .int .i64 0, .int .i64 0, .int .i64 0]) ?_ 0 _ rfl; (with_reducible repeat (first | refine blk_drewN ?_ _ | refine blk_drew ?_ | refine blk_alloc ?_ _)); exact BK303.out) Try.underlying28 rfl (by kernel_rfl)) rfl ?_
    exact ⟨by first | rfl | (simp [errW_none, errW_some] <;> rfl) | (simp [*, errW_none, errW_some] <;> rfl), by repeat (first | (with_reducible first | exact HB.out | apply below_alloc | apply pw_below_drewN | apply below_drew1 | refine below_set ?_ GE302.out | refine below_set ?_ GE303.out) | exact HB.out)⟩
  · rw [if_neg c4] at H
    have c4b0 : (a1.toList == ([] : List UInt8)) = false := beq_eq_false_iff_ne.mpr c4
    have c4b1 : (a1.toList != ([] : List UInt8)) = true := bne_iff_ne.mpr c4
    by_cases c9 : a1.toList = a2.toList
    · rw [if_pos c9] at H
      have c9b0 : (a1.toList == a2.toList) = true := beq_iff_eq.mpr c9
      have c9b1 : (a1.toList != a2.toList) = false := bne_eq_false_iff_eq.mpr c9
      clear c9
      simp only [Option.some.injEq, Prod.mk.injEq] at H
      obtain ⟨rfl, rfl, rfl, rfl, rfl, rfl, rfl⟩ := H
      go_enter Try.func56, Try.ntmps56
      go_wp2_with (first | ((with_reducible refine gate_dst (N := 3) rfl ?_); refine box_event ?hg (N := 3) ?hd (cs := #[.int .i64 a0_0, .int .i64 a0_1, .int .i64 a0_2, .int .i64 a0_3, .int .i64 a0_4, .int .i64 a0_5]) (t := 28) ?hr ?_; (case hd => rfl); (case hg => rfl); (case hr => first | (go_simp; done) | (go_simp; rfl)); intro gb302 hg w10 hbox hb; have n0_ := Aside0.mk (below_step (by repeat (first | (with_reducible first | exact HB.out | apply below_alloc | apply pw_below_drewN | apply below_drew1) | exact HB.out)) hb); have n1_ := Aside0.mk (hbox); have n2_ := Aside0.mk ((by rw [hg]; exact (below_size (by repeat (first | (with_reducible first | exact HB.out | apply below_alloc | apply pw_below_drewN | apply below_drew1) | exact HB.out))) : w.heap.size ≤ gb302)); have n3_ := Aside0.mk ((by rw [hg]; exact (below_size (by repeat (first | (with_reducible first | exact HB.out | apply below_alloc | apply pw_below_drewN | apply below_drew1) | exact HB.out))) : w.heap.size ≤ gb302)); clear HB; have HB := n0_; have BK302 := n1_; have GW302 := n2_; have GE302 := n3_; clear n0_ n1_ n2_ n3_; clear hb hbox hg) | ((with_reducible refine gate_dst (N := 6) rfl ?_); refine box_event ?hg (N := 6) ?hd (cs := #[.int .i64 0, .int .i64 0, .int .i64 0, .int .i64 0, .int .i64 0, .int .i64 0]) (t := 28) ?hr ?_; (case hd => rfl); (case hg => rfl); (case hr => first | (go_simp; done) | (go_simp; rfl)); intro gb303 hg w11 hbox hb; have n0_ := Aside0.mk (blk_below (g := gb302) (o := .cells #[.int .i64 a0_0, .int .i64 a0_1, .int .i64 a0_2, .int .i64 a0_3, .int .i64 a0_4, .int .i64 a0_5] 28 (0, 0)) (by (with_reducible repeat (first | refine blk_drewN ?_ _ | refine blk_drew ?_ | refine blk_alloc ?_ _)); exact BK302.out) hb); have n1_ := Aside0.mk (below_step (by repeat (first | (with_reducible first | exact HB.out | apply below_alloc | apply pw_below_drewN | apply below_drew1 | refine below_set ?_ GE302.out) | exact HB.out)) hb); have n2_ := Aside0.mk (hbox); have n3_ := Aside0.mk ((by rw [hg]; exact (below_size (by repeat (first | (with_reducible first | exact HB.out | apply below_alloc | apply pw_below_drewN | apply below_drew1 | refine below_set ?_ GE302.out) | exact HB.out))) : w.heap.size ≤ gb303)); have n4_ := Aside0.mk ((by rw [hg]; exact (below_size (by repeat (first | (with_reducible first | exact HB.out | apply below_alloc | apply pw_below_drewN | apply below_drew1 | refine below_set ?_ GE302.out) | exact HB.out))) : w.heap.size ≤ gb303)); have n5_ := Aside0.mk ((by rw [hg]; exact Nat.ne_of_lt (blk_lt (g := gb302) (o := .cells #[.int .i64 a0_0, .int .i64 a0_1, .int .i64 a0_2, .int .i64 a0_3, .int .i64 a0_4, .int .i64 a0_5] 28 (0, 0)) (by (with_reducible repeat (first | refine blk_drewN ?_ _ | refine blk_drew ?_ | refine blk_alloc ?_ _)); exact BK302.out)) : gb302 ≠ gb303)); have n6_ := Aside0.mk ((by rw [hg]; exact Nat.ne_of_gt (blk_lt (g := gb302) (o := .cells #[.int .i64 a0_0, .int .i64 a0_1, .int .i64 a0_2, .int .i64 a0_3, .int .i64 a0_4, .int .i64 a0_5] 28 (0, 0)) (by (with_reducible repeat (first | refine blk_drewN ?_ _ | refine blk_drew ?_ | refine blk_alloc ?_ _)); exact BK302.out)) : gb303 ≠ gb302)); clear BK302; clear HB; have BK302 := n0_; have HB := n1_; have BK303 := n2_; have GW303 := n3_; have GE303 := n4_; have NB302_303 := n5_; have NB303_302 := n6_; clear n0_ n1_ n2_ n3_ n4_ n5_ n6_; clear hb hbox hg; have hnb12 := NB302_303.out; have hnc12 := NB303_302.out; have hcz13_0 : w11.cell? ⟨gb302, 0, none⟩ = some (.int .i64 a0_0) := (blk_cell BK302.out 0).trans rfl; have hcz13_1 : w11.cell? ⟨gb302, 1, none⟩ = some (.int .i64 a0_1) := (blk_cell BK302.out 1).trans rfl; have hcz13_2 : w11.cell? ⟨gb302, 2, none⟩ = some (.int .i64 a0_2) := (blk_cell BK302.out 2).trans rfl; have hcz13_3 : w11.cell? ⟨gb302, 3, none⟩ = some (.int .i64 a0_3) := (blk_cell BK302.out 3).trans rfl; have hcz13_4 : w11.cell? ⟨gb302, 4, none⟩ = some (.int .i64 a0_4) := (blk_cell BK302.out 4).trans rfl; have hcz13_5 : w11.cell? ⟨gb302, 5, none⟩ = some (.int .i64 a0_5) := (blk_cell BK302.out 5).trans rfl; have hfz13_0 := blk_frozen BK302.out 0; have hfz13_1 := blk_frozen BK302.out 1; have hfz13_2 := blk_frozen BK302.out 2; have hfz13_3 := blk_frozen BK302.out 3; have hfz13_4 := blk_frozen BK302.out 4; have hfz13_5 := blk_frozen BK302.out 5; have hcz14_0 : w11.cell? ⟨gb303, 0, none⟩ = some (.int .i64 0) := (blk_cell BK303.out 0).trans rfl; have hcz14_1 : w11.cell? ⟨gb303, 1, none⟩ = some (.int .i64 0) := (blk_cell BK303.out 1).trans rfl; have hcz14_2 : w11.cell? ⟨gb303, 2, none⟩ = some (.int .i64 0) := (blk_cell BK303.out 2).trans rfl; have hcz14_3 : w11.cell? ⟨gb303, 3, none⟩ = some (.int .i64 0) := (blk_cell BK303.out 3).trans rfl; have hcz14_4 : w11.cell? ⟨gb303, 4, none⟩ = some (.int .i64 0) := (blk_cell BK303.out 4).trans rfl; have hcz14_5 : w11.cell? ⟨gb303, 5, none⟩ = some (.int .i64 0) := (blk_cell BK303.out 5).trans rfl; have hfz14_0 := blk_frozen BK303.out 0; have hfz14_1 := blk_frozen BK303.out 1; have hfz14_2 := blk_frozen BK303.out 2; have hfz14_3 := blk_frozen BK303.out 3; have hfz14_4 := blk_frozen BK303.out 4; have hfz14_5 := blk_frozen BK303.out 5))
      refine bodyPost_ret (results_ct rfl _ _ gb303 28 #[.int .i64 a0_0, .int .i64 a0_1, .int .i64 a0_2, .int .i64 a0_3, .int .i64 a0_4, .int .i64 a0_5] (0, 0) _ rfl (by (with_reducible repeat (first | refine blk_drewN ?_ _ | refine blk_drew ?_ | refine blk_alloc ?_ _)); refine blk_put (cs := #[.int .i64 a0_0, .int .i64 a0_1, .int .i64 a0_2, .int .i64 a0_3, .int .i64 a0_4, .int .i64 0]) ?_ 5 _ rfl; (with_reducible repeat (first | refine blk_drewN ?_ _ | refine blk_drew ?_ | refine blk_alloc ?_ _)); refine blk_put (cs := #[.int .i64 a0_0, .int .i64 a0_1, .int .i64 a0_2, .int .i64 a0_3, .int .i64 0, .int .i64 0]) ?_ 4 _ rfl; (with_reducible repeat (first | refine blk_drewN ?_ _ | refine blk_drew ?_ | refine blk_alloc ?_ _)); refine blk_put (cs := #[.int .i64 a0_0, .int .i64 a0_1, .int .i64 a0_2, .int .i64 0, .int .i64 0, .int .i64 0]) ?_ 3 _ rfl; (with_reducible repeat (first | refine blk_drewN ?_ _ | refine blk_drew ?_ | refine blk_alloc ?_ _)); refine blk_put (cs := #[.int .i64 a0_0, .int .i64 a0_1, .int .i64 0, .int .i64 0, .int .i64 0, .int .i64 0]) ?_ 2 _ rfl; (with_reducible repeat (first | refine blk_drewN ?_ _ | refine blk_drew ?_ | refine blk_alloc ?_ _)); refine blk_put (cs := #[.int .i64 a0_0, .int .i64 0, .int .i64 0, .int .i64 0, .int .i64 0, .int .i64 0]) ?_ 1 _ rfl; (with_reducible repeat (first | refine blk_drewN ?_ _ | refine blk_drew ?_ | refine blk_alloc ?_ _)); refine blk_put (cs := #[.int .i64 0, .int .i64 0, .int .i64 0, .int .i64 0, .int .i64 0, .int .i64 0]) ?_ 0 _ rfl; (with_reducible repeat (first | refine blk_drewN ?_ _ | refine blk_drew ?_ | refine blk_alloc ?_ _)); exact BK303.out) Try.underlying28 rfl (by kernel_rfl)) rfl ?_
      exact ⟨by first | rfl | (simp [errW_none, errW_some] <;> rfl) | (simp [*, errW_none, errW_some] <;> rfl), by repeat (first | (with_reducible first | exact HB.out | apply below_alloc | apply pw_below_drewN | apply below_drew1 | refine below_set ?_ GE302.out | refine below_set ?_ GE303.out) | exact HB.out)⟩
    · rw [if_neg c9] at H
      have c9b0 : (a1.toList == a2.toList) = false := beq_eq_false_iff_ne.mpr c9
      have c9b1 : (a1.toList != a2.toList) = true := bne_iff_ne.mpr c9
      simp only [Option.some.injEq, Prod.mk.injEq] at H
      obtain ⟨rfl, rfl, rfl, rfl, rfl, rfl, rfl⟩ := H
      go_enter Try.func56, Try.ntmps56
      go_wp2_with (first | ((with_reducible refine gate_dst (N := 3) rfl ?_); refine box_event ?hg (N := 3) ?hd (cs := #[.int .i64 a0_0, .int .i64 a0_1, .int .i64 a0_2, .int .i64 a0_3, .int .i64 a0_4, .int .i64 a0_5]) (t := 28) ?hr ?_; (case hd => rfl); (case hg => rfl); (case hr => first | (go_simp; done) | (go_simp; rfl)); intro gb302 hg w15 hbox hb; have n0_ := Aside0.mk (below_step (by repeat (first | (with_reducible first | exact HB.out | apply below_alloc | apply pw_below_drewN | apply below_drew1) | exact HB.out)) hb); have n1_ := Aside0.mk (hbox); have n2_ := Aside0.mk ((by rw [hg]; exact (below_size (by repeat (first | (with_reducible first | exact HB.out | apply below_alloc | apply pw_below_drewN | apply below_drew1) | exact HB.out))) : w.heap.size ≤ gb302)); have n3_ := Aside0.mk ((by rw [hg]; exact (below_size (by repeat (first | (with_reducible first | exact HB.out | apply below_alloc | apply pw_below_drewN | apply below_drew1) | exact HB.out))) : w.heap.size ≤ gb302)); clear HB; have HB := n0_; have BK302 := n1_; have GW302 := n2_; have GE302 := n3_; clear n0_ n1_ n2_ n3_; clear hb hbox hg) | ((with_reducible refine gate_dst (N := 6) rfl ?_); refine box_event ?hg (N := 6) ?hd (cs := #[.int .i64 0, .int .i64 0, .int .i64 0, .int .i64 0, .int .i64 0, .int .i64 0]) (t := 28) ?hr ?_; (case hd => rfl); (case hg => rfl); (case hr => first | (go_simp; done) | (go_simp; rfl)); intro gb303 hg w16 hbox hb; have n0_ := Aside0.mk (blk_below (g := gb302) (o := .cells #[.int .i64 a0_0, .int .i64 a0_1, .int .i64 a0_2, .int .i64 a0_3, .int .i64 a0_4, .int .i64 a0_5] 28 (0, 0)) (by (with_reducible repeat (first | refine blk_drewN ?_ _ | refine blk_drew ?_ | refine blk_alloc ?_ _)); exact BK302.out) hb); have n1_ := Aside0.mk (below_step (by repeat (first | (with_reducible first | exact HB.out | apply below_alloc | apply pw_below_drewN | apply below_drew1 | refine below_set ?_ GE302.out) | exact HB.out)) hb); have n2_ := Aside0.mk (hbox); have n3_ := Aside0.mk ((by rw [hg]; exact (below_size (by repeat (first | (with_reducible first | exact HB.out | apply below_alloc | apply pw_below_drewN | apply below_drew1 | refine below_set ?_ GE302.out) | exact HB.out))) : w.heap.size ≤ gb303)); have n4_ := Aside0.mk ((by rw [hg]; exact (below_size (by repeat (first | (with_reducible first | exact HB.out | apply below_alloc | apply pw_below_drewN | apply below_drew1 | refine below_set ?_ GE302.out) | exact HB.out))) : w.heap.size ≤ gb303)); have n5_ := Aside0.mk ((by rw [hg]; exact Nat.ne_of_lt (blk_lt (g := gb302) (o := .cells #[.int .i64 a0_0, .int .i64 a0_1, .int .i64 a0_2, .int .i64 a0_3, .int .i64 a0_4, .int .i64 a0_5] 28 (0, 0)) (by (with_reducible repeat (first | refine blk_drewN ?_ _ | refine blk_drew ?_ | refine blk_alloc ?_ _)); exact BK302.out)) : gb302 ≠ gb303)); have n6_ := Aside0.mk ((by rw [hg]; exact Nat.ne_of_gt (blk_lt (g := gb302) (o := .cells #[.int .i64 a0_0, .int .i64 a0_1, .int .i64 a0_2, .int .i64 a0_3, .int .i64 a0_4, .int .i64 a0_5] 28 (0, 0)) (by (with_reducible repeat (first | refine blk_drewN ?_ _ | refine blk_drew ?_ | refine blk_alloc ?_ _)); exact BK302.out)) : gb303 ≠ gb302)); clear BK302; clear HB; have BK302 := n0_; have HB := n1_; have BK303 := n2_; have GW303 := n3_; have GE303 := n4_; have NB302_303 := n5_; have NB303_302 := n6_; clear n0_ n1_ n2_ n3_ n4_ n5_ n6_; clear hb hbox hg; have hnb17 := NB303_302.out; have hnc17 := NB302_303.out; have hcz18_0 : w16.cell? ⟨gb303, 0, none⟩ = some (.int .i64 0) := (blk_cell BK303.out 0).trans rfl; have hcz18_1 : w16.cell? ⟨gb303, 1, none⟩ = some (.int .i64 0) := (blk_cell BK303.out 1).trans rfl; have hcz18_2 : w16.cell? ⟨gb303, 2, none⟩ = some (.int .i64 0) := (blk_cell BK303.out 2).trans rfl; have hcz18_3 : w16.cell? ⟨gb303, 3, none⟩ = some (.int .i64 0) := (blk_cell BK303.out 3).trans rfl; have hcz18_4 : w16.cell? ⟨gb303, 4, none⟩ = some (.int .i64 0) := (blk_cell BK303.out 4).trans rfl; have hcz18_5 : w16.cell? ⟨gb303, 5, none⟩ = some (.int .i64 0) := (blk_cell BK303.out 5).trans rfl; have hfz18_0 := blk_frozen BK303.out 0; have hfz18_1 := blk_frozen BK303.out 1; have hfz18_2 := blk_frozen BK303.out 2; have hfz18_3 := blk_frozen BK303.out 3; have hfz18_4 := blk_frozen BK303.out 4; have hfz18_5 := blk_frozen BK303.out 5))
      refine bodyPost_ret (results_ct rfl _ _ gb303 28 #[.int .i64 0, .int .i64 0, .int .i64 0, .int .i64 0, .int .i64 0, .int .i64 0] (0, 0) _ rfl (by (with_reducible repeat (first | refine blk_drewN ?_ _ | refine blk_drew ?_ | refine blk_alloc ?_ _)); refine blk_put (cs := #[.int .i64 0, .int .i64 0, .int .i64 0, .int .i64 0, .int .i64 0, .int .i64 0]) ?_ 5 _ rfl; (with_reducible repeat (first | refine blk_drewN ?_ _ | refine blk_drew ?_ | refine blk_alloc ?_ _)); refine blk_put (cs := #[.int .i64 0, .int .i64 0, .int .i64 0, .int .i64 0, .int .i64 0, .int .i64 0]) ?_ 4 _ rfl; (with_reducible repeat (first | refine blk_drewN ?_ _ | refine blk_drew ?_ | refine blk_alloc ?_ _)); refine blk_put (cs := #[.int .i64 0, .int .i64 0, .int .i64 0, .int .i64 0, .int .i64 0, .int .i64 0]) ?_ 3 _ rfl; (with_reducible repeat (first | refine blk_drewN ?_ _ | refine blk_drew ?_ | refine blk_alloc ?_ _)); refine blk_put (cs := #[.int .i64 0, .int .i64 0, .int .i64 0, .int .i64 0, .int .i64 0, .int .i64 0]) ?_ 2 _ rfl; (with_reducible repeat (first | refine blk_drewN ?_ _ | refine blk_drew ?_ | refine blk_alloc ?_ _)); refine blk_put (cs := #[.int .i64 0, .int .i64 0, .int .i64 0, .int .i64 0, .int .i64 0, .int .i64 0]) ?_ 1 _ rfl; (with_reducible repeat (first | refine blk_drewN ?_ _ | refine blk_drew ?_ | refine blk_alloc ?_ _)); refine blk_put (cs := #[.int .i64 0, .int .i64 0, .int .i64 0, .int .i64 0, .int .i64 0, .int .i64 0]) ?_ 0 _ rfl; (with_reducible repeat (first | refine blk_drewN ?_ _ | refine blk_drew ?_ | refine blk_alloc ?_ _)); exact BK303.out) Try.underlying28 rfl (by kernel_rfl)) rfl ?_
      exact ⟨by first | rfl | (simp [errW_none, errW_some] <;> rfl) | (simp [*, errW_none, errW_some] <;> rfl), by repeat (first | (with_reducible first | exact HB.out | apply below_alloc | apply pw_below_drewN | apply below_drew1 | refine below_set ?_ GE302.out | refine below_set ?_ GE303.out) | exact HB.out)⟩

end Go.Proofs.Ytdfghdppbfabfaa.P

namespace Go.Proofs.Ytdfghdppbfabfaa.P
open Go.RowKit Go.Proofs.YtdfghdppbfabfaaW.PrintWords Go.Proofs.YtdfghdppbfabfaaW.PrintLast Go.Proofs.YtdfghdppbfabfaaW.PrintMore
attribute [local go_sem] max2_int min2_int max_two min_two max_three min_three max_four min_four   -- for this text's walks alone
set_option linter.unusedVariables false
set_option linter.unusedSimpArgs false

/-! ### clock_ReadIso: function 31 -/
def clock_ReadIso.f (k : Nat) (a0 : ByteArray) : Option (Int × Int × Int × Int × Int × Int × Bool) := if (a0.size : Int) = 24 then ((clock_field.f k a0 0 4).bind fun t329 => ((clock_field.f k a0 5 7).bind fun t330 => ((clock_field.f k a0 8 10).bind fun t331 => ((clock_field.f k a0 11 13).bind fun t332 => ((clock_field.f k a0 14 16).bind fun t333 => ((clock_field.f k a0 17 19).bind fun t334 => ((clock_Iso.f k t329 t330 t331 t332 t333 t334).bind fun t336 => ((clock_kept.f t329 t330 t331 t332 t333 t334 t336 a0).bind fun bt337 => (some (bt337.1, bt337.2.1, bt337.2.2.1, bt337.2.2.2.1, bt337.2.2.2.2.1, bt337.2.2.2.2.2.1, bt337.2.2.2.2.2.2)))))))))) else (some (0, 0, 0, 0, 0, 0, false))
theorem clock_ReadIso.mono : ∀ a0 k, LeO (clock_ReadIso.f k a0) (clock_ReadIso.f (k + 1) a0) := by
  intro a0 k
  unfold clock_ReadIso.f
  repeat' first
      | (with_reducible exact clock_Iso.mono _ _ _ _ _ _ _)
      | (with_reducible exact clock_field.mono _ _ _ _)
      | (with_reducible exact LeO.refl _)
      | (with_reducible exact LeO.none _)
      | (with_reducible refine LeO.ite ?_ ?_)
      | (with_reducible refine LeO.bind ?_ (fun _ => ?_))
      | exact clock_Iso.mono _ _ _ _ _ _ _
      | exact clock_field.mono _ _ _ _
      | exact LeO.none _
      | refine LeO.ite ?_ ?_
      | refine LeO.bind ?_ (fun _ => ?_)
def clock_ReadIso.T4 : Bool × List (List Nat × List Nat) := (true, [([], []), ([], []), ([1], [1]), ([], []), ([0, 2, 3, 2], [0, 2, 3]), ([4], [4]), ([4], [4]), ([5, 4, 0, 1, 2, 3, 4, 5, 6], [5]), ([6, 7, 0, 1, 2, 3, 4, 5, 6, 7], [6])])
def clock_ReadIso.B4 : List Nat := [0, 0, 2, 0, 15, 31, 31, 127, 255]
theorem clock_ReadIso.tab4 : rtab .any (opsOf Try.f31 4) = clock_ReadIso.T4 := by kernel_rfl
theorem clock_ReadIso.bits4 : waitsOk clock_ReadIso.T4.2 clock_ReadIso.B4 = true := by kernel_rfl
set_option maxHeartbeats 8000000 in
set_option maxRecDepth 100000 in
theorem clock_ReadIso.calls (k : Nat) (a0 : ByteArray) (r1 : Int) (r2 : Int) (r3 : Int) (r4 : Int) (r5 : Int) (r6 : Int) (r7 : Bool) (w : World) (h : clock_ReadIso.f k a0 = some (r1, r2, r3, r4, r5, r6, r7)) :
    Calls Try.prog 31 #[.string a0] w fun e w' => e = .returned (.tuple #[.agg #[.int .i64 r1, .int .i64 r2, .int .i64 r3, .int .i64 r4, .int .i64 r5, .int .i64 r6], .bool r7]) ∧ Below w.heap.size w w' := by
  have hu28 := Try.underlying28
  have HB := Aside0.mk (Below.refl w.heap.size w)
  have H : (if (a0.size : Int) = 24 then ((clock_field.f k a0 0 4).bind fun t329 => ((clock_field.f k a0 5 7).bind fun t330 => ((clock_field.f k a0 8 10).bind fun t331 => ((clock_field.f k a0 11 13).bind fun t332 => ((clock_field.f k a0 14 16).bind fun t333 => ((clock_field.f k a0 17 19).bind fun t334 => ((clock_Iso.f k t329 t330 t331 t332 t333 t334).bind fun t336 => ((clock_kept.f t329 t330 t331 t332 t333 t334 t336 a0).bind fun bt337 => (some (bt337.1, bt337.2.1, bt337.2.2.1, bt337.2.2.2.1, bt337.2.2.2.2.1, bt337.2.2.2.2.2.1, bt337.2.2.2.2.2.2)))))))))) else (some (0, 0, 0, 0, 0, 0, false))) = some (r1, r2, r3, r4, r5, r6, r7) := h
  clear h
  by_cases c2 : (a0.size : Int) = 24
  · rw [if_pos c2] at H
    have c2b0 : ((a0.size : Int) == 24) = true := beq_iff_eq.mpr c2
    have c2b1 : ((a0.size : Int) != 24) = false := bne_eq_false_iff_eq.mpr c2
    clear c2
    replace H := Option.bind_eq_some_iff.mp H
    obtain ⟨t329, A30, H⟩ := H
    replace H : ((clock_field.f k a0 5 7).bind fun t330 => ((clock_field.f k a0 8 10).bind fun t331 => ((clock_field.f k a0 11 13).bind fun t332 => ((clock_field.f k a0 14 16).bind fun t333 => ((clock_field.f k a0 17 19).bind fun t334 => ((clock_Iso.f k t329 t330 t331 t332 t333 t334).bind fun t336 => ((clock_kept.f t329 t330 t331 t332 t333 t334 t336 a0).bind fun bt337 => (some (bt337.1, bt337.2.1, bt337.2.2.1, bt337.2.2.2.1, bt337.2.2.2.2.1, bt337.2.2.2.2.2.1, bt337.2.2.2.2.2.2))))))))) = some (r1, r2, r3, r4, r5, r6, r7) := H
    have A3 := Aside0.mk A30
    clear A30
    replace H := Option.bind_eq_some_iff.mp H
    obtain ⟨t330, A40, H⟩ := H
    replace H : ((clock_field.f k a0 8 10).bind fun t331 => ((clock_field.f k a0 11 13).bind fun t332 => ((clock_field.f k a0 14 16).bind fun t333 => ((clock_field.f k a0 17 19).bind fun t334 => ((clock_Iso.f k t329 t330 t331 t332 t333 t334).bind fun t336 => ((clock_kept.f t329 t330 t331 t332 t333 t334 t336 a0).bind fun bt337 => (some (bt337.1, bt337.2.1, bt337.2.2.1, bt337.2.2.2.1, bt337.2.2.2.2.1, bt337.2.2.2.2.2.1, bt337.2.2.2.2.2.2)))))))) = some (r1, r2, r3, r4, r5, r6, r7) := H
    have A4 := Aside0.mk A40
    clear A40
    replace H := Option.bind_eq_some_iff.mp H
    obtain ⟨t331, A50, H⟩ := H
    replace H : ((clock_field.f k a0 11 13).bind fun t332 => ((clock_field.f k a0 14 16).bind fun t333 => ((clock_field.f k a0 17 19).bind fun t334 => ((clock_Iso.f k t329 t330 t331 t332 t333 t334).bind fun t336 => ((clock_kept.f t329 t330 t331 t332 t333 t334 t336 a0).bind fun bt337 => (some (bt337.1, bt337.2.1, bt337.2.2.1, bt337.2.2.2.1, bt337.2.2.2.2.1, bt337.2.2.2.2.2.1, bt337.2.2.2.2.2.2))))))) = some (r1, r2, r3, r4, r5, r6, r7) := H
    have A5 := Aside0.mk A50
    clear A50
    replace H := Option.bind_eq_some_iff.mp H
    obtain ⟨t332, A60, H⟩ := H
    replace H : ((clock_field.f k a0 14 16).bind fun t333 => ((clock_field.f k a0 17 19).bind fun t334 => ((clock_Iso.f k t329 t330 t331 t332 t333 t334).bind fun t336 => ((clock_kept.f t329 t330 t331 t332 t333 t334 t336 a0).bind fun bt337 => (some (bt337.1, bt337.2.1, bt337.2.2.1, bt337.2.2.2.1, bt337.2.2.2.2.1, bt337.2.2.2.2.2.1, bt337.2.2.2.2.2.2)))))) = some (r1, r2, r3, r4, r5, r6, r7) := H
    have A6 := Aside0.mk A60
    clear A60
    replace H := Option.bind_eq_some_iff.mp H
    obtain ⟨t333, A70, H⟩ := H
    replace H : ((clock_field.f k a0 17 19).bind fun t334 => ((clock_Iso.f k t329 t330 t331 t332 t333 t334).bind fun t336 => ((clock_kept.f t329 t330 t331 t332 t333 t334 t336 a0).bind fun bt337 => (some (bt337.1, bt337.2.1, bt337.2.2.1, bt337.2.2.2.1, bt337.2.2.2.2.1, bt337.2.2.2.2.2.1, bt337.2.2.2.2.2.2))))) = some (r1, r2, r3, r4, r5, r6, r7) := H
    have A7 := Aside0.mk A70
    clear A70
    replace H := Option.bind_eq_some_iff.mp H
    obtain ⟨t334, A80, H⟩ := H
    replace H : ((clock_Iso.f k t329 t330 t331 t332 t333 t334).bind fun t336 => ((clock_kept.f t329 t330 t331 t332 t333 t334 t336 a0).bind fun bt337 => (some (bt337.1, bt337.2.1, bt337.2.2.1, bt337.2.2.2.1, bt337.2.2.2.2.1, bt337.2.2.2.2.2.1, bt337.2.2.2.2.2.2)))) = some (r1, r2, r3, r4, r5, r6, r7) := H
    have A8 := Aside0.mk A80
    clear A80
    replace H := Option.bind_eq_some_iff.mp H
    obtain ⟨t336, A90, H⟩ := H
    replace H : ((clock_kept.f t329 t330 t331 t332 t333 t334 t336 a0).bind fun bt337 => (some (bt337.1, bt337.2.1, bt337.2.2.1, bt337.2.2.2.1, bt337.2.2.2.2.1, bt337.2.2.2.2.2.1, bt337.2.2.2.2.2.2))) = some (r1, r2, r3, r4, r5, r6, r7) := H
    have A9 := Aside0.mk A90
    clear A90
    replace H := Option.bind_eq_some_iff.mp H
    obtain ⟨⟨t337, t338, t339, t340, t341, t342, t343⟩, A100, H⟩ := H
    replace H : (some (t337, t338, t339, t340, t341, t342, t343)) = some (r1, r2, r3, r4, r5, r6, r7) := H
    have A10 := Aside0.mk A100
    clear A100
    simp only [Option.some.injEq, Prod.mk.injEq] at H
    obtain ⟨rfl, rfl, rfl, rfl, rfl, rfl, rfl⟩ := H
    go_enter Try.func31, Try.ntmps31
    try go_wp2_with (first | ((with_reducible refine gate_dst (N := 2) rfl ?_); refine box_event ?hg (N := 2) ?hd (cs := #[.int .i64 0, .int .i64 0, .int .i64 0, .int .i64 0, .int .i64 0, .int .i64 0]) (t := 28) ?hr ?_; (case hd => rfl); (case hg => rfl); (case hr => first | (go_simp; done) | (go_simp; rfl)); intro gb328 hg w11 hbox hb; have n0_ := Aside0.mk (below_step (by repeat (first | (with_reducible first | exact HB.out | apply below_alloc | apply pw_below_drewN | apply below_drew1) | exact HB.out)) hb); have n1_ := Aside0.mk (hbox); have n2_ := Aside0.mk ((by rw [hg]; exact (below_size (by repeat (first | (with_reducible first | exact HB.out | apply below_alloc | apply pw_below_drewN | apply below_drew1) | exact HB.out))) : w.heap.size ≤ gb328)); have n3_ := Aside0.mk ((by rw [hg]; exact (below_size (by repeat (first | (with_reducible first | exact HB.out | apply below_alloc | apply pw_below_drewN | apply below_drew1) | exact HB.out))) : w.heap.size ≤ gb328)); clear HB; have HB := n0_; have BK328 := n1_; have GW328 := n2_; have GE328 := n3_; clear n0_ n1_ n2_ n3_; clear hb hbox hg) | ((with_reducible refine gate_callee (f := 55) rfl ?_); refine goesL_ (some 10) rfl rfl Try.func55 (by kernel_rfl) rfl #[.string a0, .int .i64 0, .int .i64 4] rfl (by (try simp only [List.map_toArray, List.map_cons, List.map_nil]); first | done | rfl | (simp only [List.length_drop, List.length_take]; rfl)) ?_; (with_reducible refine (clock_field.calls k a0 0 4 t329 _ A3.out).mono ?_); rintro e w12 ⟨rfl, hb⟩; refine ⟨_, rfl, ?_⟩; have n0_ := Aside0.mk (blk_below (g := gb328) (o := .cells #[.int .i64 0, .int .i64 0, .int .i64 0, .int .i64 0, .int .i64 0, .int .i64 0] 28 (0, 0)) (by (with_reducible repeat (first | refine blk_drewN ?_ _ | refine blk_drew ?_ | refine blk_alloc ?_ _)); exact BK328.out) hb); have n1_ := Aside0.mk (below_step (by repeat (first | (with_reducible first | exact HB.out | apply below_alloc | apply pw_below_drewN | apply below_drew1 | refine below_set ?_ GE328.out) | exact HB.out)) hb); clear BK328; clear HB; have BK328 := n0_; have HB := n1_; clear n0_ n1_; (try clear hb); (try clear hb2); (try clear hk); (try clear hi)) | ((with_reducible refine gate_callee (f := 55) rfl ?_); refine goesL_ (some 12) rfl rfl Try.func55 (by kernel_rfl) rfl #[.string a0, .int .i64 5, .int .i64 7] rfl (by (try simp only [List.map_toArray, List.map_cons, List.map_nil]); first | done | rfl | (simp only [List.length_drop, List.length_take]; rfl)) ?_; (with_reducible refine (clock_field.calls k a0 5 7 t330 _ A4.out).mono ?_); rintro e w13 ⟨rfl, hb⟩; refine ⟨_, rfl, ?_⟩; have n0_ := Aside0.mk (blk_below (g := gb328) (o := .cells #[.int .i64 0, .int .i64 0, .int .i64 0, .int .i64 0, .int .i64 0, .int .i64 0] 28 (0, 0)) (by (with_reducible repeat (first | refine blk_drewN ?_ _ | refine blk_drew ?_ | refine blk_alloc ?_ _)); exact BK328.out) hb); have n1_ := Aside0.mk (below_step (by repeat (first | (with_reducible first | exact HB.out | apply below_alloc | apply pw_below_drewN | apply below_drew1 | refine below_set ?_ GE328.out) | exact HB.out)) hb); clear BK328; clear HB; have BK328 := n0_; have HB := n1_; clear n0_ n1_; (try clear hb); (try clear hb2); (try clear hk); (try clear hi)) | ((with_reducible refine gate_callee (f := 55) rfl ?_); refine goesL_ (some 14) rfl rfl Try.func55 (by kernel_rfl) rfl #[.string a0, .int .i64 8, .int .i64 10] rfl (by (try simp only [List.map_toArray, List.map_cons, List.map_nil]); first | done | rfl | (simp only [List.length_drop, List.length_take]; rfl)) ?_; (with_reducible refine (clock_field.calls k a0 8 10 t331 _ A5.out).mono ?_); rintro e w14 ⟨rfl, hb⟩; refine ⟨_, rfl, ?_⟩; have n0_ := Aside0.mk (blk_below (g := gb328) (o := .cells #[.int .i64 0, .int .i64 0, .int .i64 0, .int .i64 0, .int .i64 0, .int .i64 0] 28 (0, 0)) (by (with_reducible repeat (first | refine blk_drewN ?_ _ | refine blk_drew ?_ | refine blk_alloc ?_ _)); exact BK328.out) hb); have n1_ := Aside0.mk (below_step (by repeat (first | (with_reducible first | exact HB.out | apply below_alloc | apply pw_below_drewN | apply below_drew1 | refine below_set ?_ GE328.out) | exact HB.out)) hb); clear BK328; clear HB; have BK328 := n0_; have HB := n1_; clear n0_ n1_; (try clear hb); (try clear hb2); (try clear hk); (try clear hi)) | ((with_reducible refine gate_callee (f := 55) rfl ?_); refine goesL_ (some 16) rfl rfl Try.func55 (by kernel_rfl) rfl #[.string a0, .int .i64 11, .int .i64 13] rfl (by (try simp only [List.map_toArray, List.map_cons, List.map_nil]); first | done | rfl | (simp only [List.length_drop, List.length_take]; rfl)) ?_; (with_reducible refine (clock_field.calls k a0 11 13 t332 _ A6.out).mono ?_); rintro e w15 ⟨rfl, hb⟩; refine ⟨_, rfl, ?_⟩; have n0_ := Aside0.mk (blk_below (g := gb328) (o := .cells #[.int .i64 0, .int .i64 0, .int .i64 0, .int .i64 0, .int .i64 0, .int .i64 0] 28 (0, 0)) (by (with_reducible repeat (first | refine blk_drewN ?_ _ | refine blk_drew ?_ | refine blk_alloc ?_ _)); exact BK328.out) hb); have n1_ := Aside0.mk (below_step (by repeat (first | (with_reducible first | exact HB.out | apply below_alloc | apply pw_below_drewN | apply below_drew1 | refine below_set ?_ GE328.out) | exact HB.out)) hb); clear BK328; clear HB; have BK328 := n0_; have HB := n1_; clear n0_ n1_; (try clear hb); (try clear hb2); (try clear hk); (try clear hi)) | ((with_reducible refine gate_callee (f := 55) rfl ?_); refine goesL_ (some 18) rfl rfl Try.func55 (by kernel_rfl) rfl #[.string a0, .int .i64 14, .int .i64 16] rfl (by (try simp only [List.map_toArray, List.map_cons, List.map_nil]); first | done | rfl | (simp only [List.length_drop, List.length_take]; rfl)) ?_; (with_reducible refine (clock_field.calls k a0 14 16 t333 _ A7.out).mono ?_); rintro e w16 ⟨rfl, hb⟩; refine ⟨_, rfl, ?_⟩; have n0_ := Aside0.mk (blk_below (g := gb328) (o := .cells #[.int .i64 0, .int .i64 0, .int .i64 0, .int .i64 0, .int .i64 0, .int .i64 0] 28 (0, 0)) (by (with_reducible repeat (first | refine blk_drewN ?_ _ | refine blk_drew ?_ | refine blk_alloc ?_ _)); exact BK328.out) hb); have n1_ := Aside0.mk (below_step (by repeat (first | (with_reducible first | exact HB.out | apply below_alloc | apply pw_below_drewN | apply below_drew1 | refine below_set ?_ GE328.out) | exact HB.out)) hb); clear BK328; clear HB; have BK328 := n0_; have HB := n1_; clear n0_ n1_; (try clear hb); (try clear hb2); (try clear hk); (try clear hi)) | ((with_reducible refine gate_callee (f := 55) rfl ?_); refine goesL_ (some 20) rfl rfl Try.func55 (by kernel_rfl) rfl #[.string a0, .int .i64 17, .int .i64 19] rfl (by (try simp only [List.map_toArray, List.map_cons, List.map_nil]); first | done | rfl | (simp only [List.length_drop, List.length_take]; rfl)) ?_; (with_reducible refine (clock_field.calls k a0 17 19 t334 _ A8.out).mono ?_); rintro e w17 ⟨rfl, hb⟩; refine ⟨_, rfl, ?_⟩; have n0_ := Aside0.mk (blk_below (g := gb328) (o := .cells #[.int .i64 0, .int .i64 0, .int .i64 0, .int .i64 0, .int .i64 0, .int .i64 0] 28 (0, 0)) (by (with_reducible repeat (first | refine blk_drewN ?_ _ | refine blk_drew ?_ | refine blk_alloc ?_ _)); exact BK328.out) hb); have n1_ := Aside0.mk (below_step (by repeat (first | (with_reducible first | exact HB.out | apply below_alloc | apply pw_below_drewN | apply below_drew1 | refine below_set ?_ GE328.out) | exact HB.out)) hb); clear BK328; clear HB; have BK328 := n0_; have HB := n1_; clear n0_ n1_; (try clear hb); (try clear hb2); (try clear hk); (try clear hi)) | ((with_reducible refine gate_dst (N := 4) rfl ?_); refine box_event ?hg (N := 4) ?hd (cs := #[.int .i64 0, .int .i64 0, .int .i64 0, .int .i64 0, .int .i64 0, .int .i64 0]) (t := 28) ?hr ?_; (case hd => rfl); (case hg => rfl); (case hr => first | (go_simp; done) | (go_simp; rfl)); intro gb335 hg w18 hbox hb; have n0_ := Aside0.mk (blk_below (g := gb328) (o := .cells #[.int .i64 0, .int .i64 0, .int .i64 0, .int .i64 0, .int .i64 0, .int .i64 0] 28 (0, 0)) (by (with_reducible repeat (first | refine blk_drewN ?_ _ | refine blk_drew ?_ | refine blk_alloc ?_ _)); exact BK328.out) hb); have n1_ := Aside0.mk (below_step (by repeat (first | (with_reducible first | exact HB.out | apply below_alloc | apply pw_below_drewN | apply below_drew1 | refine below_set ?_ GE328.out) | exact HB.out)) hb); have n2_ := Aside0.mk (hbox); have n3_ := Aside0.mk ((by rw [hg]; exact (below_size (by repeat (first | (with_reducible first | exact HB.out | apply below_alloc | apply pw_below_drewN | apply below_drew1 | refine below_set ?_ GE328.out) | exact HB.out))) : w.heap.size ≤ gb335)); have n4_ := Aside0.mk ((by rw [hg]; exact (below_size (by repeat (first | (with_reducible first | exact HB.out | apply below_alloc | apply pw_below_drewN | apply below_drew1 | refine below_set ?_ GE328.out) | exact HB.out))) : w.heap.size ≤ gb335)); have n5_ := Aside0.mk ((by rw [hg]; exact Nat.ne_of_lt (blk_lt (g := gb328) (o := .cells #[.int .i64 0, .int .i64 0, .int .i64 0, .int .i64 0, .int .i64 0, .int .i64 0] 28 (0, 0)) (by (with_reducible repeat (first | refine blk_drewN ?_ _ | refine blk_drew ?_ | refine blk_alloc ?_ _)); exact BK328.out)) : gb328 ≠ gb335)); have n6_ := Aside0.mk ((by rw [hg]; exact Nat.ne_of_gt (blk_lt (g := gb328) (o := .cells #[.int .i64 0, .int .i64 0, .int .i64 0, .int .i64 0, .int .i64 0, .int .i64 0] 28 (0, 0)) (by (with_reducible repeat (first | refine blk_drewN ?_ _ | refine blk_drew ?_ | refine blk_alloc ?_ _)); exact BK328.out)) : gb335 ≠ gb328)); clear BK328; clear HB; have BK328 := n0_; have HB := n1_; have BK335 := n2_; have GW335 := n3_; have GE335 := n4_; have NB328_335 := n5_; have NB335_328 := n6_; clear n0_ n1_ n2_ n3_ n4_ n5_ n6_; clear hb hbox hg; have hnb19 := NB335_328.out; have hnc19 := NB328_335.out; have hcz20_0 : w18.cell? ⟨gb335, 0, none⟩ = some (.int .i64 0) := (blk_cell BK335.out 0).trans rfl; have hcz20_1 : w18.cell? ⟨gb335, 1, none⟩ = some (.int .i64 0) := (blk_cell BK335.out 1).trans rfl; have hcz20_2 : w18.cell? ⟨gb335, 2, none⟩ = some (.int .i64 0) := (blk_cell BK335.out 2).trans rfl; have hcz20_3 : w18.cell? ⟨gb335, 3, none⟩ = some (.int .i64 0) := (blk_cell BK335.out 3).trans rfl; have hcz20_4 : w18.cell? ⟨gb335, 4, none⟩ = some (.int .i64 0) := (blk_cell BK335.out 4).trans rfl; have hcz20_5 : w18.cell? ⟨gb335, 5, none⟩ = some (.int .i64 0) := (blk_cell BK335.out 5).trans rfl; have hfz20_0 := blk_frozen BK335.out 0; have hfz20_1 := blk_frozen BK335.out 1; have hfz20_2 := blk_frozen BK335.out 2; have hfz20_3 := blk_frozen BK335.out 3; have hfz20_4 := blk_frozen BK335.out 4; have hfz20_5 := blk_frozen BK335.out 5))
    have n0_ : Aside0 (((((((w18.setCell ⟨gb335, 0, none⟩ (.int .i64 t329)).setCell ⟨gb335, 1, none⟩ (.int .i64 t330)).setCell ⟨gb335, 2, none⟩ (.int .i64 t331)).setCell ⟨gb335, 3, none⟩ (.int .i64 t332)).setCell ⟨gb335, 4, none⟩ (.int .i64 t333)).setCell ⟨gb335, 5, none⟩ (.int .i64 t334)).heap[gb328]? = some (.cells #[.int .i64 0, .int .i64 0, .int .i64 0, .int .i64 0, .int .i64 0, .int .i64 0] 28 (0, 0))) := ⟨by (with_reducible repeat (first | refine blk_drewN ?_ _ | refine blk_drew ?_ | refine blk_alloc ?_ _)); refine blk_far ?_ NB328_335.out _; (with_reducible repeat (first | refine blk_drewN ?_ _ | refine blk_drew ?_ | refine blk_alloc ?_ _)); refine blk_far ?_ NB328_335.out _; (with_reducible repeat (first | refine blk_drewN ?_ _ | refine blk_drew ?_ | refine blk_alloc ?_ _)); refine blk_far ?_ NB328_335.out _; (with_reducible repeat (first | refine blk_drewN ?_ _ | refine blk_drew ?_ | refine blk_alloc ?_ _)); refine blk_far ?_ NB328_335.out _; (with_reducible repeat (first | refine blk_drewN ?_ _ | refine blk_drew ?_ | refine blk_alloc ?_ _)); refine blk_far ?_ NB328_335.out _; (with_reducible repeat (first | refine blk_drewN ?_ _ | refine blk_drew ?_ | refine blk_alloc ?_ _)); refine blk_far ?_ NB328_335.out _; (with_reducible repeat (first | refine blk_drewN ?_ _ | refine blk_drew ?_ | refine blk_alloc ?_ _)); exact BK328.out⟩
    have n1_ : Aside0 (((((((w18.setCell ⟨gb335, 0, none⟩ (.int .i64 t329)).setCell ⟨gb335, 1, none⟩ (.int .i64 t330)).setCell ⟨gb335, 2, none⟩ (.int .i64 t331)).setCell ⟨gb335, 3, none⟩ (.int .i64 t332)).setCell ⟨gb335, 4, none⟩ (.int .i64 t333)).setCell ⟨gb335, 5, none⟩ (.int .i64 t334)).heap[gb335]? = some (.cells #[.int .i64 t329, .int .i64 t330, .int .i64 t331, .int .i64 t332, .int .i64 t333, .int .i64 t334] 28 (0, 0))) := ⟨by (with_reducible repeat (first | refine blk_drewN ?_ _ | refine blk_drew ?_ | refine blk_alloc ?_ _)); refine blk_put (cs := #[.int .i64 t329, .int .i64 t330, .int .i64 t331, .int .i64 t332, .int .i64 t333, .int .i64 0]) ?_ 5 _ rfl; (with_reducible repeat (first | refine blk_drewN ?_ _ | refine blk_drew ?_ | refine blk_alloc ?_ _)); refine blk_put (cs := #[.int .i64 t329, .int .i64 t330, .int .i64 t331, .int .i64 t332, .int .i64 0, .int .i64 0]) ?_ 4 _ rfl; (with_reducible repeat (first | refine blk_drewN ?_ _ | refine blk_drew ?_ | refine blk_alloc ?_ _)); refine blk_put (cs := #[.int .i64 t329, .int .i64 t330, .int .i64 t331, .int .i64 0, .int .i64 0, .int .i64 0]) ?_ 3 _ rfl; (with_reducible repeat (first | refine blk_drewN ?_ _ | refine blk_drew ?_ | refine blk_alloc ?_ _)); refine blk_put (cs := #[.int .i64 t329, .int .i64 t330, .int .i64 0, .int .i64 0, .int .i64 0, .int .i64 0]) ?_ 2 _ rfl; (with_reducible repeat (first | refine blk_drewN ?_ _ | refine blk_drew ?_ | refine blk_alloc ?_ _)); refine blk_put (cs := #[.int .i64 t329, .int .i64 0, .int .i64 0, .int .i64 0, .int .i64 0, .int .i64 0]) ?_ 1 _ rfl; (with_reducible repeat (first | refine blk_drewN ?_ _ | refine blk_drew ?_ | refine blk_alloc ?_ _)); refine blk_put (cs := #[.int .i64 0, .int .i64 0, .int .i64 0, .int .i64 0, .int .i64 0, .int .i64 0]) ?_ 0 _ rfl; (with_reducible repeat (first | refine blk_drewN ?_ _ | refine blk_drew ?_ | refine blk_alloc ?_ _)); exact BK335.out⟩
    have n2_ : Aside0 (Below w.heap.size w ((((((w18.setCell ⟨gb335, 0, none⟩ (.int .i64 t329)).setCell ⟨gb335, 1, none⟩ (.int .i64 t330)).setCell ⟨gb335, 2, none⟩ (.int .i64 t331)).setCell ⟨gb335, 3, none⟩ (.int .i64 t332)).setCell ⟨gb335, 4, none⟩ (.int .i64 t333)).setCell ⟨gb335, 5, none⟩ (.int .i64 t334))) := ⟨by repeat (first | (with_reducible first | exact HB.out | apply below_alloc | apply pw_below_drewN | apply below_drew1 | refine below_set ?_ GE328.out | refine below_set ?_ GE335.out) | exact HB.out)⟩
    (try clear BK328)
    (try clear BK335)
    (try clear HB)
    generalize ((((((w18.setCell ⟨gb335, 0, none⟩ (.int .i64 t329)).setCell ⟨gb335, 1, none⟩ (.int .i64 t330)).setCell ⟨gb335, 2, none⟩ (.int .i64 t331)).setCell ⟨gb335, 3, none⟩ (.int .i64 t332)).setCell ⟨gb335, 4, none⟩ (.int .i64 t333)).setCell ⟨gb335, 5, none⟩ (.int .i64 t334)) = w21 at n0_ n1_ n2_ ⊢
    have BK328 := n0_
    have BK335 := n1_
    have HB := n2_
    clear n0_ n1_ n2_
    have n0_ := Aside0.mk (blk_drew BK328.out)
    have n1_ := Aside0.mk (blk_drew BK335.out)
    have n2_ := Aside0.mk (below_drew1 HB.out)
    clear BK328
    clear BK335
    clear HB
    have BK328 := n0_
    have BK335 := n1_
    have HB := n2_
    clear n0_ n1_ n2_
    refine start_ (n := 9) (S := fun w' => w'.cell? ⟨gb335, 0, none⟩ = some (.int .i64 t329) ∧ w'.cell? ⟨gb335, 1, none⟩ = some (.int .i64 t330) ∧ w'.cell? ⟨gb335, 2, none⟩ = some (.int .i64 t331) ∧ w'.cell? ⟨gb335, 3, none⟩ = some (.int .i64 t332) ∧ w'.cell? ⟨gb335, 4, none⟩ = some (.int .i64 t333) ∧ w'.cell? ⟨gb335, 5, none⟩ = some (.int .i64 t334)) (ds := []) #[false, false, false, false, false, false, false, false, false] (by kernel_rfl) rfl rfl ⟨(blk_cell BK335.out 0).trans rfl, (blk_cell BK335.out 1).trans rfl, (blk_cell BK335.out 2).trans rfl, (blk_cell BK335.out 3).trans rfl, (blk_cell BK335.out 4).trans rfl, (blk_cell BK335.out 5).trans rfl⟩ (fun hHeld => ?_); refine with_tabW clock_ReadIso.tab4 clock_ReadIso.bits4 (fun HT_ HW_ => ?_)
    generalize w21.drew = w22 at BK328 BK335 HB hHeld ⊢
    refine pure_ (i := 3) (N := some 25) (v := ?_) (a' := ?_) #[false, false, false, true, false, false, false, false, false] rfl rfl (any_of HT_.out (by kernel_rfl)) (fun _ _ _ h => h) (Or.inl ⟨by rfl, ?_⟩) ?_ ?_
    rotate_left
    · intro w'
      go_simp
      with_reducible rfl
    rotate_left
    · simp only [Act.put, List.setIfInBounds_toArray, List.set_cons_zero, List.set_cons_succ, i64_w, i32_w]
      rfl
    refine take_ (i := 0) (N := some 22) (v := ?_) (a' := ?_) #[true, false, false, true, false, false, false, false, false] rfl rfl (take_ofW HT_.out HW_.out (by kernel_rfl)) (fun _ _ _ h => h) (Or.inl ⟨by rfl, ?_⟩) hHeld ?_ ?_
    rotate_left
    · rintro w' ⟨s0, s1, s2, s3, s4, s5⟩
      go_simp
      with_reducible rfl
    rotate_left
    · simp only [Act.put, List.setIfInBounds_toArray, List.set_cons_zero, List.set_cons_succ, i64_w, i32_w]
      rfl
    refine take_ (i := 1) (N := some 23) (v := ?_) (a' := ?_) #[true, true, false, true, false, false, false, false, false] rfl rfl (take_ofW HT_.out HW_.out (by kernel_rfl)) (fun _ _ _ h => h) (Or.inl ⟨by rfl, ?_⟩) hHeld ?_ ?_
    rotate_left
    · rintro w' ⟨s0, s1, s2, s3, s4, s5⟩
      go_simp
      with_reducible rfl
    rotate_left
    · simp only [Act.put, List.setIfInBounds_toArray, List.set_cons_zero, List.set_cons_succ, i64_w, i32_w]
      rfl
    refine one_ (i := 2) (N := some 24) #[true, true, true, true, false, false, false, false, false] rfl rfl (one_of HT_.out (by kernel_rfl)) (by decide) (fun K hK => ?_)
    refine goes_ Try.func15 (by kernel_rfl) rfl #[.agg #[.int .i64 t329, .int .i64 t330, .int .i64 t331, .int .i64 t332, .int .i64 t333, .int .i64 t334]] (by rfl) rfl rfl (by (try simp only [List.map_toArray, List.map_cons, List.map_nil]); first | done | rfl | (simp only [List.length_drop, List.length_take]; rfl)) ?_
    with_reducible refine (clock_Iso.calls k t329 t330 t331 t332 t333 t334 t336 _ A9.out).mono ?_
    rintro e w23 ⟨rfl, hb⟩
    refine ⟨_, rfl, ?_⟩
    have n0_ := Aside0.mk (blk_below (g := gb328) (o := .cells #[.int .i64 0, .int .i64 0, .int .i64 0, .int .i64 0, .int .i64 0, .int .i64 0] 28 (0, 0)) (by (with_reducible repeat (first | refine blk_drewN ?_ _ | refine blk_drew ?_ | refine blk_alloc ?_ _)); exact BK328.out) hb)
    have n1_ := Aside0.mk (blk_below (g := gb335) (o := .cells #[.int .i64 t329, .int .i64 t330, .int .i64 t331, .int .i64 t332, .int .i64 t333, .int .i64 t334] 28 (0, 0)) (by (with_reducible repeat (first | refine blk_drewN ?_ _ | refine blk_drew ?_ | refine blk_alloc ?_ _)); exact BK335.out) hb)
    have n2_ := Aside0.mk (below_step (by repeat (first | (with_reducible first | exact HB.out | apply below_alloc | apply pw_below_drewN | apply below_drew1 | refine below_set ?_ GE328.out | refine below_set ?_ GE335.out) | exact HB.out)) hb)
    clear BK328
    clear BK335
    clear HB
    have BK328 := n0_
    have BK335 := n1_
    have HB := n2_
    clear n0_ n1_ n2_
    (try clear hb)
    (try clear hb2)
    (try clear hk)
    (try clear hi)
    refine hK.out _ _ ⟨(blk_cell BK335.out 0).trans rfl, (blk_cell BK335.out 1).trans rfl, (blk_cell BK335.out 2).trans rfl, (blk_cell BK335.out 3).trans rfl, (blk_cell BK335.out 4).trans rfl, (blk_cell BK335.out 5).trans rfl⟩ (fun hHeld => ?_)
    clear hK K
    refine norm_ (a' := ?_) ?_ ?_
    rotate_left
    · show Act.put _ (some 24) _ = _
      simp only [Act.put, List.setIfInBounds_toArray, List.set_cons_zero, List.set_cons_succ, i64_w, i32_w]
      rfl
    refine one_ (i := 4) (N := some 26) #[true, true, true, true, true, false, false, false, false] rfl rfl (one_of HT_.out (by kernel_rfl)) (by decide) (fun K hK => ?_)
    refine goes_ Try.func56 (by kernel_rfl) rfl #[.agg #[.int .i64 t329, .int .i64 t330, .int .i64 t331, .int .i64 t332, .int .i64 t333, .int .i64 t334], .string t336, .string a0] (by rfl) rfl rfl (by (try simp only [List.map_toArray, List.map_cons, List.map_nil]); first | done | rfl | (simp only [List.length_drop, List.length_take]; rfl)) ?_
    with_reducible refine (clock_kept.calls t329 t330 t331 t332 t333 t334 t336 a0 t337 t338 t339 t340 t341 t342 t343 _ A10.out).mono ?_
    rintro e w24 ⟨rfl, hb⟩
    refine ⟨_, rfl, ?_⟩
    have n0_ := Aside0.mk (blk_below (g := gb328) (o := .cells #[.int .i64 0, .int .i64 0, .int .i64 0, .int .i64 0, .int .i64 0, .int .i64 0] 28 (0, 0)) (by (with_reducible repeat (first | refine blk_drewN ?_ _ | refine blk_drew ?_ | refine blk_alloc ?_ _)); exact BK328.out) hb)
    have n1_ := Aside0.mk (blk_below (g := gb335) (o := .cells #[.int .i64 t329, .int .i64 t330, .int .i64 t331, .int .i64 t332, .int .i64 t333, .int .i64 t334] 28 (0, 0)) (by (with_reducible repeat (first | refine blk_drewN ?_ _ | refine blk_drew ?_ | refine blk_alloc ?_ _)); exact BK335.out) hb)
    have n2_ := Aside0.mk (below_step (by repeat (first | (with_reducible first | exact HB.out | apply below_alloc | apply pw_below_drewN | apply below_drew1 | refine below_set ?_ GE328.out | refine below_set ?_ GE335.out) | exact HB.out)) hb)
    clear BK328
    clear BK335
    clear HB
    have BK328 := n0_
    have BK335 := n1_
    have HB := n2_
    clear n0_ n1_ n2_
    (try clear hb)
    (try clear hb2)
    (try clear hk)
    (try clear hi)
    refine hK.out _ _ ⟨(blk_cell BK335.out 0).trans rfl, (blk_cell BK335.out 1).trans rfl, (blk_cell BK335.out 2).trans rfl, (blk_cell BK335.out 3).trans rfl, (blk_cell BK335.out 4).trans rfl, (blk_cell BK335.out 5).trans rfl⟩ (fun hHeld => ?_)
    clear hK K
    refine norm_ (a' := ?_) ?_ ?_
    rotate_left
    · show Act.put _ (some 26) _ = _
      simp only [Act.put, List.setIfInBounds_toArray, List.set_cons_zero, List.set_cons_succ, i64_w, i32_w]
      rfl
    refine pure_ (i := 5) (N := some 27) (v := ?_) (a' := ?_) #[true, true, true, true, true, true, false, false, false] rfl rfl (any_of HT_.out (by kernel_rfl)) (fun _ _ _ h => h) (Or.inl ⟨by rfl, ?_⟩) ?_ ?_
    rotate_left
    · intro w'
      go_simp
      with_reducible rfl
    rotate_left
    · simp only [Act.put, List.setIfInBounds_toArray, List.set_cons_zero, List.set_cons_succ, i64_w, i32_w]
      rfl
    refine pure_ (i := 6) (N := some 28) (v := ?_) (a' := ?_) #[true, true, true, true, true, true, true, false, false] rfl rfl (any_of HT_.out (by kernel_rfl)) (fun _ _ _ h => h) (Or.inl ⟨by rfl, ?_⟩) ?_ ?_
    rotate_left
    · intro w'
      go_simp
      with_reducible rfl
    rotate_left
    · simp only [Act.put, List.setIfInBounds_toArray, List.set_cons_zero, List.set_cons_succ, i64_w, i32_w]
      rfl
    refine one_ (i := 7) (N := none) #[true, true, true, true, true, true, true, true, false] rfl rfl (one_of HT_.out (by kernel_rfl)) (by decide) (fun K hK => ?_)
    have hs25 : w24.cell? ⟨gb328, 0, none⟩ = some (.int .i64 0) := (blk_cell BK328.out 0).trans rfl
    have hfs25 := blk_frozen BK328.out 0
    have hns25_1 := NB335_328.out
    have hms25_1 := NB328_335.out
    have hs26 : w24.cell? ⟨gb328, 1, none⟩ = some (.int .i64 0) := (blk_cell BK328.out 1).trans rfl
    have hfs26 := blk_frozen BK328.out 1
    have hns26_1 := NB335_328.out
    have hms26_1 := NB328_335.out
    have hs27 : w24.cell? ⟨gb328, 2, none⟩ = some (.int .i64 0) := (blk_cell BK328.out 2).trans rfl
    have hfs27 := blk_frozen BK328.out 2
    have hns27_1 := NB335_328.out
    have hms27_1 := NB328_335.out
    have hs28 : w24.cell? ⟨gb328, 3, none⟩ = some (.int .i64 0) := (blk_cell BK328.out 3).trans rfl
    have hfs28 := blk_frozen BK328.out 3
    have hns28_1 := NB335_328.out
    have hms28_1 := NB328_335.out
    have hs29 : w24.cell? ⟨gb328, 4, none⟩ = some (.int .i64 0) := (blk_cell BK328.out 4).trans rfl
    have hfs29 := blk_frozen BK328.out 4
    have hns29_1 := NB335_328.out
    have hms29_1 := NB328_335.out
    have hs30 : w24.cell? ⟨gb328, 5, none⟩ = some (.int .i64 0) := (blk_cell BK328.out 5).trans rfl
    have hfs30 := blk_frozen BK328.out 5
    have hns30_1 := NB335_328.out
    have hms30_1 := NB328_335.out
    refine skip_ (w1 := ?_) (by rfl) rfl ?_ ?_
    rotate_left
    · go_simp
      rfl
    refine hK.out _ _ ⟨((cell_far (p := ⟨gb328, _, none⟩) NB335_328.out _).trans (((cell_far (p := ⟨gb328, _, none⟩) NB335_328.out _).trans (((cell_far (p := ⟨gb328, _, none⟩) NB335_328.out _).trans (((cell_far (p := ⟨gb328, _, none⟩) NB335_328.out _).trans (((cell_far (p := ⟨gb328, _, none⟩) NB335_328.out _).trans (((cell_far (p := ⟨gb328, _, none⟩) NB335_328.out _).trans (hHeld.1)))))))))))), ((cell_far (p := ⟨gb328, _, none⟩) NB335_328.out _).trans (((cell_far (p := ⟨gb328, _, none⟩) NB335_328.out _).trans (((cell_far (p := ⟨gb328, _, none⟩) NB335_328.out _).trans (((cell_far (p := ⟨gb328, _, none⟩) NB335_328.out _).trans (((cell_far (p := ⟨gb328, _, none⟩) NB335_328.out _).trans (((cell_far (p := ⟨gb328, _, none⟩) NB335_328.out _).trans (hHeld.2.1)))))))))))), ((cell_far (p := ⟨gb328, _, none⟩) NB335_328.out _).trans (((cell_far (p := ⟨gb328, _, none⟩) NB335_328.out _).trans (((cell_far (p := ⟨gb328, _, none⟩) NB335_328.out _).trans (((cell_far (p := ⟨gb328, _, none⟩) NB335_328.out _).trans (((cell_far (p := ⟨gb328, _, none⟩) NB335_328.out _).trans (((cell_far (p := ⟨gb328, _, none⟩) NB335_328.out _).trans (hHeld.2.2.1)))))))))))), ((cell_far (p := ⟨gb328, _, none⟩) NB335_328.out _).trans (((cell_far (p := ⟨gb328, _, none⟩) NB335_328.out _).trans (((cell_far (p := ⟨gb328, _, none⟩) NB335_328.out _).trans (((cell_far (p := ⟨gb328, _, none⟩) NB335_328.out _).trans (((cell_far (p := ⟨gb328, _, none⟩) NB335_328.out _).trans (((cell_far (p := ⟨gb328, _, none⟩) NB335_328.out _).trans (hHeld.2.2.2.1)))))))))))), ((cell_far (p := ⟨gb328, _, none⟩) NB335_328.out _).trans (((cell_far (p := ⟨gb328, _, none⟩) NB335_328.out _).trans (((cell_far (p := ⟨gb328, _, none⟩) NB335_328.out _).trans (((cell_far (p := ⟨gb328, _, none⟩) NB335_328.out _).trans (((cell_far (p := ⟨gb328, _, none⟩) NB335_328.out _).trans (((cell_far (p := ⟨gb328, _, none⟩) NB335_328.out _).trans (hHeld.2.2.2.2.1)))))))))))), ((cell_far (p := ⟨gb328, _, none⟩) NB335_328.out _).trans (((cell_far (p := ⟨gb328, _, none⟩) NB335_328.out _).trans (((cell_far (p := ⟨gb328, _, none⟩) NB335_328.out _).trans (((cell_far (p := ⟨gb328, _, none⟩) NB335_328.out _).trans (((cell_far (p := ⟨gb328, _, none⟩) NB335_328.out _).trans (((cell_far (p := ⟨gb328, _, none⟩) NB335_328.out _).trans (hHeld.2.2.2.2.2))))))))))))⟩ (fun hHeld => ?_)
    clear hK K
    refine pure_ (i := 8) (N := some 3) (v := ?_) (a' := ?_) #[true, true, true, true, true, true, true, true, true] rfl rfl (any_of HT_.out (by kernel_rfl)) (fun _ _ _ h => h) (Or.inl ⟨by rfl, ?_⟩) ?_ ?_
    rotate_left
    · intro w'
      go_simp
      with_reducible rfl
    rotate_left
    · simp only [Act.put, List.setIfInBounds_toArray, List.set_cons_zero, List.set_cons_succ, i64_w, i32_w]
      rfl
    refine done_ (done_of HT_.out (by kernel_rfl)) ?_
    try go_wp2
    refine bodyPost_ret (results_ct rfl _ _ gb328 28 #[.int .i64 t337, .int .i64 t338, .int .i64 t339, .int .i64 t340, .int .i64 t341, .int .i64 t342] (0, 0) _ rfl (by (with_reducible repeat (first | refine blk_drewN ?_ _ | refine blk_drew ?_ | refine blk_alloc ?_ _)); refine blk_put (cs := #[.int .i64 t337, .int .i64 t338, .int .i64 t339, .int .i64 t340, .int .i64 t341, .int .i64 0]) ?_ 5 _ rfl; (with_reducible repeat (first | refine blk_drewN ?_ _ | refine blk_drew ?_ | refine blk_alloc ?_ _)); refine blk_put (cs := #[.int .i64 t337, .int .i64 t338, .int .i64 t339, .int .i64 t340, .int .i64 0, .int .i64 0]) ?_ 4 _ rfl; (with_reducible repeat (first | refine blk_drewN ?_ _ | refine blk_drew ?_ | refine blk_alloc ?_ _)); refine blk_put (cs := #[.int .i64 t337, .int .i64 t338, .int .i64 t339, .int .i64 0, .int .i64 0, .int .i64 0]) ?_ 3 _ rfl; (with_reducible repeat (first | refine blk_drewN ?_ _ | refine blk_drew ?_ | refine blk_alloc ?_ _)); refine blk_put (cs := #[.int .i64 t337, .int .i64 t338, .int .i64 0, .int .i64 0, .int .i64 0, .int .i64 0]) ?_ 2 _ rfl; (with_reducible repeat (first | refine blk_drewN ?_ _ | refine blk_drew ?_ | refine blk_alloc ?_ _)); refine blk_put (cs := #[.int .i64 t337, .int .i64 0, .int .i64 0, .int .i64 0, .int .i64 0, .int .i64 0]) ?_ 1 _ rfl; (with_reducible repeat (first | refine blk_drewN ?_ _ | refine blk_drew ?_ | refine blk_alloc ?_ _)); refine blk_put (cs := #[.int .i64 0, .int .i64 0, .int .i64 0, .int .i64 0, .int .i64 0, .int .i64 0]) ?_ 0 _ rfl; (with_reducible repeat (first | refine blk_drewN ?_ _ | refine blk_drew ?_ | refine blk_alloc ?_ _)); exact BK328.out) Try.underlying28 rfl (by kernel_rfl)) rfl ?_
    exact ⟨by first | rfl | (simp [errW_none, errW_some] <;> rfl) | (simp [*, errW_none, errW_some] <;> rfl), by repeat (first | (with_reducible first | exact HB.out | apply below_alloc | apply pw_below_drewN | apply below_drew1 | refine below_set ?_ GE328.out | refine below_set ?_ GE335.out) | exact HB.out)⟩
  · rw [if_neg c2] at H
    have c2b0 : ((a0.size : Int) == 24) = false := beq_eq_false_iff_ne.mpr c2
    have c2b1 : ((a0.size : Int) != 24) = true := bne_iff_ne.mpr c2
    simp only [Option.some.injEq, Prod.mk.injEq] at H
    obtain ⟨rfl, rfl, rfl, rfl, rfl, rfl, rfl⟩ := H
    go_enter Try.func31, Try.ntmps31
    go_wp2_with (first | ((with_reducible refine gate_dst (N := 2) rfl ?_); refine box_event ?hg (N := 2) ?hd (cs := #[.int .i64 0, .int .i64 0, .int .i64 0, .int .i64 0, .int .i64 0, .int .i64 0]) (t := 28) ?hr ?_; (case hd => rfl); (case hg => rfl); (case hr => first | (go_simp; done) | (go_simp; rfl)); intro gb328 hg w31 hbox hb; have n0_ := Aside0.mk (below_step (by repeat (first | (with_reducible first | exact HB.out | apply below_alloc | apply pw_below_drewN | apply below_drew1) | exact HB.out)) hb); have n1_ := Aside0.mk (hbox); have n2_ := Aside0.mk ((by rw [hg]; exact (below_size (by repeat (first | (with_reducible first | exact HB.out | apply below_alloc | apply pw_below_drewN | apply below_drew1) | exact HB.out))) : w.heap.size ≤ gb328)); have n3_ := Aside0.mk ((by rw [hg]; exact (below_size (by repeat (first | (with_reducible first | exact HB.out | apply below_alloc | apply pw_below_drewN | apply below_drew1) | exact HB.out))) : w.heap.size ≤ gb328)); clear HB; have HB := n0_; have BK328 := n1_; have GW328 := n2_; have GE328 := n3_; clear n0_ n1_ n2_ n3_; clear hb hbox hg; have hcz32_0 : w31.cell? ⟨gb328, 0, none⟩ = some (.int .i64 0) := (blk_cell BK328.out 0).trans rfl; have hcz32_1 : w31.cell? ⟨gb328, 1, none⟩ = some (.int .i64 0) := (blk_cell BK328.out 1).trans rfl; have hcz32_2 : w31.cell? ⟨gb328, 2, none⟩ = some (.int .i64 0) := (blk_cell BK328.out 2).trans rfl; have hcz32_3 : w31.cell? ⟨gb328, 3, none⟩ = some (.int .i64 0) := (blk_cell BK328.out 3).trans rfl; have hcz32_4 : w31.cell? ⟨gb328, 4, none⟩ = some (.int .i64 0) := (blk_cell BK328.out 4).trans rfl; have hcz32_5 : w31.cell? ⟨gb328, 5, none⟩ = some (.int .i64 0) := (blk_cell BK328.out 5).trans rfl; have hfz32_0 := blk_frozen BK328.out 0; have hfz32_1 := blk_frozen BK328.out 1; have hfz32_2 := blk_frozen BK328.out 2; have hfz32_3 := blk_frozen BK328.out 3; have hfz32_4 := blk_frozen BK328.out 4; have hfz32_5 := blk_frozen BK328.out 5))
    refine bodyPost_ret (results_ct rfl _ _ gb328 28 #[.int .i64 0, .int .i64 0, .int .i64 0, .int .i64 0, .int .i64 0, .int .i64 0] (0, 0) _ rfl (by (with_reducible repeat (first | refine blk_drewN ?_ _ | refine blk_drew ?_ | refine blk_alloc ?_ _)); refine blk_put (cs := #[.int .i64 0, .int .i64 0, .int .i64 0, .int .i64 0, .int .i64 0, .int .i64 0]) ?_ 5 _ rfl; (with_reducible repeat (first | refine blk_drewN ?_ _ | refine blk_drew ?_ | refine blk_alloc ?_ _)); refine blk_put (cs := #[.int .i64 0, .int .i64 0, .int .i64 0, .int .i64 0, .int .i64 0, .int .i64 0]) ?_ 4 _ rfl; (with_reducible repeat (first | refine blk_drewN ?_ _ | refine blk_drew ?_ | refine blk_alloc ?_ _)); refine blk_put (cs := #[.int .i64 0, .int .i64 0, .int .i64 0, .int .i64 0, .int .i64 0, .int .i64 0]) ?_ 3 _ rfl; (with_reducible repeat (first | refine blk_drewN ?_ _ | refine blk_drew ?_ | refine blk_alloc ?_ _)); refine blk_put (cs := #[.int .i64 0, .int .i64 0, .int .i64 0, .int .i64 0, .int .i64 0, .int .i64 0]) ?_ 2 _ rfl; (with_reducible repeat (first | refine blk_drewN ?_ _ | refine blk_drew ?_ | refine blk_alloc ?_ _)); refine blk_put (cs := #[.int .i64 0, .int .i64 0, .int .i64 0, .int .i64 0, .int .i64 0, .int .i64 0]) ?_ 1 _ rfl; (with_reducible repeat (first | refine blk_drewN ?_ _ | refine blk_drew ?_ | refine blk_alloc ?_ _)); refine blk_put (cs := #[.int .i64 0, .int .i64 0, .int .i64 0, .int .i64 0, .int .i64 0, .int .i64 0]) ?_ 0 _ rfl; (with_reducible repeat (first | refine blk_drewN ?_ _ | refine blk_drew ?_ | refine blk_alloc ?_ _)); exact BK328.out) Try.underlying28 rfl (by kernel_rfl)) rfl ?_
    exact ⟨by first | rfl | (simp [errW_none, errW_some] <;> rfl) | (simp [*, errW_none, errW_some] <;> rfl), by repeat (first | (with_reducible first | exact HB.out | apply below_alloc | apply pw_below_drewN | apply below_drew1 | refine below_set ?_ GE328.out) | exact HB.out)⟩

end Go.Proofs.Ytdfghdppbfabfaa.P

namespace Go.Proofs.Ytdfghdppbfabfaa.P
open Go.RowKit Go.Proofs.YtdfghdppbfabfaaW.PrintWords Go.Proofs.YtdfghdppbfabfaaW.PrintLast Go.Proofs.YtdfghdppbfabfaaW.PrintMore
attribute [local go_sem] max2_int min2_int max_two min_two max_three min_three max_four min_four   -- for this text's walks alone
set_option linter.unusedVariables false
set_option linter.unusedSimpArgs false

/-! ### clock_ReadShort: function 33 -/
def clock_ReadShort.f (k : Nat) (a0 : ByteArray) : Option (Int × Int × Int × Int × Int × Int × Bool) := if (a0.size : Int) = 16 then ((clock_field.f k a0 0 4).bind fun t354 => ((clock_field.f k a0 4 6).bind fun t355 => ((clock_field.f k a0 6 8).bind fun t356 => ((clock_field.f k a0 9 11).bind fun t357 => ((clock_field.f k a0 11 13).bind fun t358 => ((clock_field.f k a0 13 15).bind fun t359 => ((clock_Short.f k t354 t355 t356 t357 t358 t359).bind fun t361 => ((clock_kept.f t354 t355 t356 t357 t358 t359 t361 a0).bind fun bt362 => (some (bt362.1, bt362.2.1, bt362.2.2.1, bt362.2.2.2.1, bt362.2.2.2.2.1, bt362.2.2.2.2.2.1, bt362.2.2.2.2.2.2)))))))))) else (some (0, 0, 0, 0, 0, 0, false))
theorem clock_ReadShort.mono : ∀ a0 k, LeO (clock_ReadShort.f k a0) (clock_ReadShort.f (k + 1) a0) := by
  intro a0 k
  unfold clock_ReadShort.f
  repeat' first
      | (with_reducible exact clock_Short.mono _ _ _ _ _ _ _)
      | (with_reducible exact clock_field.mono _ _ _ _)
      | (with_reducible exact LeO.refl _)
      | (with_reducible exact LeO.none _)
      | (with_reducible refine LeO.ite ?_ ?_)
      | (with_reducible refine LeO.bind ?_ (fun _ => ?_))
      | exact clock_Short.mono _ _ _ _ _ _ _
      | exact clock_field.mono _ _ _ _
      | exact LeO.none _
      | refine LeO.ite ?_ ?_
      | refine LeO.bind ?_ (fun _ => ?_)
def clock_ReadShort.T4 : Bool × List (List Nat × List Nat) := (true, [([], []), ([], []), ([1], [1]), ([], []), ([0, 2, 3, 2], [0, 2, 3]), ([4], [4]), ([4], [4]), ([5, 4, 0, 1, 2, 3, 4, 5, 6], [5]), ([6, 7, 0, 1, 2, 3, 4, 5, 6, 7], [6])])
def clock_ReadShort.B4 : List Nat := [0, 0, 2, 0, 15, 31, 31, 127, 255]
theorem clock_ReadShort.tab4 : rtab .any (opsOf Try.f33 4) = clock_ReadShort.T4 := by kernel_rfl
theorem clock_ReadShort.bits4 : waitsOk clock_ReadShort.T4.2 clock_ReadShort.B4 = true := by kernel_rfl
set_option maxHeartbeats 8000000 in
set_option maxRecDepth 100000 in
theorem clock_ReadShort.calls (k : Nat) (a0 : ByteArray) (r1 : Int) (r2 : Int) (r3 : Int) (r4 : Int) (r5 : Int) (r6 : Int) (r7 : Bool) (w : World) (h : clock_ReadShort.f k a0 = some (r1, r2, r3, r4, r5, r6, r7)) :
    Calls Try.prog 33 #[.string a0] w fun e w' => e = .returned (.tuple #[.agg #[.int .i64 r1, .int .i64 r2, .int .i64 r3, .int .i64 r4, .int .i64 r5, .int .i64 r6], .bool r7]) ∧ Below w.heap.size w w' := by
  have hu28 := Try.underlying28
  have HB := Aside0.mk (Below.refl w.heap.size w)
  have H : (if (a0.size : Int) = 16 then ((clock_field.f k a0 0 4).bind fun t354 => ((clock_field.f k a0 4 6).bind fun t355 => ((clock_field.f k a0 6 8).bind fun t356 => ((clock_field.f k a0 9 11).bind fun t357 => ((clock_field.f k a0 11 13).bind fun t358 => ((clock_field.f k a0 13 15).bind fun t359 => ((clock_Short.f k t354 t355 t356 t357 t358 t359).bind fun t361 => ((clock_kept.f t354 t355 t356 t357 t358 t359 t361 a0).bind fun bt362 => (some (bt362.1, bt362.2.1, bt362.2.2.1, bt362.2.2.2.1, bt362.2.2.2.2.1, bt362.2.2.2.2.2.1, bt362.2.2.2.2.2.2)))))))))) else (some (0, 0, 0, 0, 0, 0, false))) = some (r1, r2, r3, r4, r5, r6, r7) := h
  clear h
  by_cases c2 : (a0.size : Int) = 16
  · rw [if_pos c2] at H
    have c2b0 : ((a0.size : Int) == 16) = true := beq_iff_eq.mpr c2
    have c2b1 : ((a0.size : Int) != 16) = false := bne_eq_false_iff_eq.mpr c2
    clear c2
    replace H := Option.bind_eq_some_iff.mp H
    obtain ⟨t354, A30, H⟩ := H
    replace H : ((clock_field.f k a0 4 6).bind fun t355 => ((clock_field.f k a0 6 8).bind fun t356 => ((clock_field.f k a0 9 11).bind fun t357 => ((clock_field.f k a0 11 13).bind fun t358 => ((clock_field.f k a0 13 15).bind fun t359 => ((clock_Short.f k t354 t355 t356 t357 t358 t359).bind fun t361 => ((clock_kept.f t354 t355 t356 t357 t358 t359 t361 a0).bind fun bt362 => (some (bt362.1, bt362.2.1, bt362.2.2.1, bt362.2.2.2.1, bt362.2.2.2.2.1, bt362.2.2.2.2.2.1, bt362.2.2.2.2.2.2))))))))) = some (r1, r2, r3, r4, r5, r6, r7) := H
    have A3 := Aside0.mk A30
    clear A30
    replace H := Option.bind_eq_some_iff.mp H
    obtain ⟨t355, A40, H⟩ := H
    replace H : ((clock_field.f k a0 6 8).bind fun t356 => ((clock_field.f k a0 9 11).bind fun t357 => ((clock_field.f k a0 11 13).bind fun t358 => ((clock_field.f k a0 13 15).bind fun t359 => ((clock_Short.f k t354 t355 t356 t357 t358 t359).bind fun t361 => ((clock_kept.f t354 t355 t356 t357 t358 t359 t361 a0).bind fun bt362 => (some (bt362.1, bt362.2.1, bt362.2.2.1, bt362.2.2.2.1, bt362.2.2.2.2.1, bt362.2.2.2.2.2.1, bt362.2.2.2.2.2.2)))))))) = some (r1, r2, r3, r4, r5, r6, r7) := H
    have A4 := Aside0.mk A40
    clear A40
    replace H := Option.bind_eq_some_iff.mp H
    obtain ⟨t356, A50, H⟩ := H
    replace H : ((clock_field.f k a0 9 11).bind fun t357 => ((clock_field.f k a0 11 13).bind fun t358 => ((clock_field.f k a0 13 15).bind fun t359 => ((clock_Short.f k t354 t355 t356 t357 t358 t359).bind fun t361 => ((clock_kept.f t354 t355 t356 t357 t358 t359 t361 a0).bind fun bt362 => (some (bt362.1, bt362.2.1, bt362.2.2.1, bt362.2.2.2.1, bt362.2.2.2.2.1, bt362.2.2.2.2.2.1, bt362.2.2.2.2.2.2))))))) = some (r1, r2, r3, r4, r5, r6, r7) := H
    have A5 := Aside0.mk A50
    clear A50
    replace H := Option.bind_eq_some_iff.mp H
    obtain ⟨t357, A60, H⟩ := H
    replace H : ((clock_field.f k a0 11 13).bind fun t358 => ((clock_field.f k a0 13 15).bind fun t359 => ((clock_Short.f k t354 t355 t356 t357 t358 t359).bind fun t361 => ((clock_kept.f t354 t355 t356 t357 t358 t359 t361 a0).bind fun bt362 => (some (bt362.1, bt362.2.1, bt362.2.2.1, bt362.2.2.2.1, bt362.2.2.2.2.1, bt362.2.2.2.2.2.1, bt362.2.2.2.2.2.2)))))) = some (r1, r2, r3, r4, r5, r6, r7) := H
    have A6 := Aside0.mk A60
    clear A60
    replace H := Option.bind_eq_some_iff.mp H
    obtain ⟨t358, A70, H⟩ := H
    replace H : ((clock_field.f k a0 13 15).bind fun t359 => ((clock_Short.f k t354 t355 t356 t357 t358 t359).bind fun t361 => ((clock_kept.f t354 t355 t356 t357 t358 t359 t361 a0).bind fun bt362 => (some (bt362.1, bt362.2.1, bt362.2.2.1, bt362.2.2.2.1, bt362.2.2.2.2.1, bt362.2.2.2.2.2.1, bt362.2.2.2.2.2.2))))) = some (r1, r2, r3, r4, r5, r6, r7) := H
    have A7 := Aside0.mk A70
    clear A70
    replace H := Option.bind_eq_some_iff.mp H
    obtain ⟨t359, A80, H⟩ := H
    replace H : ((clock_Short.f k t354 t355 t356 t357 t358 t359).bind fun t361 => ((clock_kept.f t354 t355 t356 t357 t358 t359 t361 a0).bind fun bt362 => (some (bt362.1, bt362.2.1, bt362.2.2.1, bt362.2.2.2.1, bt362.2.2.2.2.1, bt362.2.2.2.2.2.1, bt362.2.2.2.2.2.2)))) = some (r1, r2, r3, r4, r5, r6, r7) := H
    have A8 := Aside0.mk A80
    clear A80
    replace H := Option.bind_eq_some_iff.mp H
    obtain ⟨t361, A90, H⟩ := H
    replace H : ((clock_kept.f t354 t355 t356 t357 t358 t359 t361 a0).bind fun bt362 => (some (bt362.1, bt362.2.1, bt362.2.2.1, bt362.2.2.2.1, bt362.2.2.2.2.1, bt362.2.2.2.2.2.1, bt362.2.2.2.2.2.2))) = some (r1, r2, r3, r4, r5, r6, r7) := H
    have A9 := Aside0.mk A90
    clear A90
    replace H := Option.bind_eq_some_iff.mp H
    obtain ⟨⟨t362, t363, t364, t365, t366, t367, t368⟩, A100, H⟩ := H
    replace H : (some (t362, t363, t364, t365, t366, t367, t368)) = some (r1, r2, r3, r4, r5, r6, r7) := H
    have A10 := Aside0.mk A100
    clear A100
    simp only [Option.some.injEq, Prod.mk.injEq] at H
    obtain ⟨rfl, rfl, rfl, rfl, rfl, rfl, rfl⟩ := H
    go_enter Try.func33, Try.ntmps33
    try go_wp2_with (first | ((with_reducible refine gate_dst (N := 2) rfl ?_); refine box_event ?hg (N := 2) ?hd (cs := #[.int .i64 0, .int .i64 0, .int .i64 0, .int .i64 0, .int .i64 0, .int .i64 0]) (t := 28) ?hr ?_; (case hd => rfl); (case hg => rfl); (case hr => first | (go_simp; done) | (go_simp; rfl)); intro gb353 hg w11 hbox hb; have n0_ := Aside0.mk (below_step (by repeat (first | (with_reducible first | exact HB.out | apply below_alloc | apply pw_below_drewN | apply below_drew1) | exact HB.out)) hb); have n1_ := Aside0.mk (hbox); have n2_ := Aside0.mk ((by rw [hg]; exact (below_size (by repeat (first | (with_reducible first | exact HB.out | apply below_alloc | apply pw_below_drewN | apply below_drew1) | exact HB.out))) : w.heap.size ≤ gb353)); have n3_ := Aside0.mk ((by rw [hg]; exact (below_size (by repeat (first | (with_reducible first | exact HB.out | apply below_alloc | apply pw_below_drewN | apply below_drew1) | exact HB.out))) : w.heap.size ≤ gb353)); clear HB; have HB := n0_; have BK353 := n1_; have GW353 := n2_; have GE353 := n3_; clear n0_ n1_ n2_ n3_; clear hb hbox hg) | ((with_reducible refine gate_callee (f := 55) rfl ?_); refine goesL_ (some 10) rfl rfl Try.func55 (by kernel_rfl) rfl #[.string a0, .int .i64 0, .int .i64 4] rfl (by (try simp only [List.map_toArray, List.map_cons, List.map_nil]); first | done | rfl | (simp only [List.length_drop, List.length_take]; rfl)) ?_; (with_reducible refine (clock_field.calls k a0 0 4 t354 _ A3.out).mono ?_); rintro e w12 ⟨rfl, hb⟩; refine ⟨_, rfl, ?_⟩; have n0_ := Aside0.mk (blk_below (g := gb353) (o := .cells #[.int .i64 0, .int .i64 0, .int .i64 0, .int .i64 0, .int .i64 0, .int .i64 0] 28 (0, 0)) (by (with_reducible repeat (first | refine blk_drewN ?_ _ | refine blk_drew ?_ | refine blk_alloc ?_ _)); exact BK353.out) hb); have n1_ := Aside0.mk (below_step (by repeat (first | (with_reducible first | exact HB.out | apply below_alloc | apply pw_below_drewN | apply below_drew1 | refine below_set ?_ GE353.out) | exact HB.out)) hb); clear BK353; clear HB; have BK353 := n0_; have HB := n1_; clear n0_ n1_; (try clear hb); (try clear hb2); (try clear hk); (try clear hi)) | ((with_reducible refine gate_callee (f := 55) rfl ?_); refine goesL_ (some 12) rfl rfl Try.func55 (by kernel_rfl) rfl #[.string a0, .int .i64 4, .int .i64 6] rfl (by (try simp only [List.map_toArray, List.map_cons, List.map_nil]); first | done | rfl | (simp only [List.length_drop, List.length_take]; rfl)) ?_; (with_reducible refine (clock_field.calls k a0 4 6 t355 _ A4.out).mono ?_); rintro e w13 ⟨rfl, hb⟩; refine ⟨_, rfl, ?_⟩; have n0_ := Aside0.mk (blk_below (g := gb353) (o := .cells #[.int .i64 0, .int .i64 0, .int .i64 0, .int .i64 0, .int .i64 0, .int .i64 0] 28 (0, 0)) (by (with_reducible repeat (first | refine blk_drewN ?_ _ | refine blk_drew ?_ | refine blk_alloc ?_ _)); exact BK353.out) hb); have n1_ := Aside0.mk (below_step (by repeat (first | (with_reducible first | exact HB.out | apply below_alloc | apply pw_below_drewN | apply below_drew1 | refine below_set ?_ GE353.out) | exact HB.out)) hb); clear BK353; clear HB; have BK353 := n0_; have HB := n1_; clear n0_ n1_; (try clear hb); (try clear hb2); (try clear hk); (try clear hi)) | ((with_reducible refine gate_callee (f := 55) rfl ?_); refine goesL_ (some 14) rfl rfl Try.func55 (by kernel_rfl) rfl #[.string a0, .int .i64 6, .int .i64 8] rfl (by (try simp only [List.map_toArray, List.map_cons, List.map_nil]); first | done | rfl | (simp only [List.length_drop, List.length_take]; rfl)) ?_; (with_reducible refine (clock_field.calls k a0 6 8 t356 _ A5.out).mono ?_); rintro e w14 ⟨rfl, hb⟩; refine ⟨_, rfl, ?_⟩; have n0_ := Aside0.mk (blk_below (g := gb353) (o := .cells #[.int .i64 0, .int .i64 0, .int .i64 0, .int .i64 0, .int .i64 0, .int .i64 0] 28 (0, 0)) (by (with_reducible repeat (first | refine blk_drewN ?_ _ | refine blk_drew ?_ | refine blk_alloc ?_ _)); exact BK353.out) hb); have n1_ := Aside0.mk (below_step (by repeat (first | (with_reducible first | exact HB.out | apply below_alloc | apply pw_below_drewN | apply below_drew1 | refine below_set ?_ GE353.out) | exact HB.out)) hb); clear BK353; clear HB; have BK353 := n0_; have HB := n1_; clear n0_ n1_; (try clear hb); (try clear hb2); (try clear hk); (try clear hi)) | ((with_reducible refine gate_callee (f := 55) rfl ?_); refine goesL_ (some 16) rfl rfl Try.func55 (by kernel_rfl) rfl #[.string a0, .int .i64 9, .int .i64 11] rfl (by (try simp only [List.map_toArray, List.map_cons, List.map_nil]); first | done | rfl | (simp only [List.length_drop, List.length_take]; rfl)) ?_; (with_reducible refine (clock_field.calls k a0 9 11 t357 _ A6.out).mono ?_); rintro e w15 ⟨rfl, hb⟩; refine ⟨_, rfl, ?_⟩; have n0_ := Aside0.mk (blk_below (g := gb353) (o := .cells #[.int .i64 0, .int .i64 0, .int .i64 0, .int .i64 0, .int .i64 0, .int .i64 0] 28 (0, 0)) (by (with_reducible repeat (first | refine blk_drewN ?_ _ | refine blk_drew ?_ | refine blk_alloc ?_ _)); exact BK353.out) hb); have n1_ := Aside0.mk (below_step (by repeat (first | (with_reducible first | exact HB.out | apply below_alloc | apply pw_below_drewN | apply below_drew1 | refine below_set ?_ GE353.out) | exact HB.out)) hb); clear BK353; clear HB; have BK353 := n0_; have HB := n1_; clear n0_ n1_; (try clear hb); (try clear hb2); (try clear hk); (try clear hi)) | ((with_reducible refine gate_callee (f := 55) rfl ?_); refine goesL_ (some 18) rfl rfl Try.func55 (by kernel_rfl) rfl #[.string a0, .int .i64 11, .int .i64 13] rfl (by (try simp only [List.map_toArray, List.map_cons, List.map_nil]); first | done | rfl | (simp only [List.length_drop, List.length_take]; rfl)) ?_; (with_reducible refine (clock_field.calls k a0 11 13 t358 _ A7.out).mono ?_); rintro e w16 ⟨rfl, hb⟩; refine ⟨_, rfl, ?_⟩; have n0_ := Aside0.mk (blk_below (g := gb353) (o := .cells #[.int .i64 0, .int .i64 0, .int .i64 0, .int .i64 0, .int .i64 0, .int .i64 0] 28 (0, 0)) (by (with_reducible repeat (first | refine blk_drewN ?_ _ | refine blk_drew ?_ | refine blk_alloc ?_ _)); exact BK353.out) hb); have n1_ := Aside0.mk (below_step (by repeat (first | (with_reducible first | exact HB.out | apply below_alloc | apply pw_below_drewN | apply below_drew1 | refine below_set ?_ GE353.out) | exact HB.out)) hb); clear BK353; clear HB; have BK353 := n0_; have HB := n1_; clear n0_ n1_; (try clear hb); (try clear hb2); (try clear hk); (try clear hi)) | ((with_reducible refine gate_callee (f := 55) rfl ?_); refine goesL_ (some 20) rfl rfl Try.func55 (by kernel_rfl) rfl #[.string a0, .int .i64 13, .int .i64 15] rfl (by (try simp only [List.map_toArray, List.map_cons, List.map_nil]); first | done | rfl | (simp only [List.length_drop, List.length_take]; rfl)) ?_; (with_reducible refine (clock_field.calls k a0 13 15 t359 _ A8.out).mono ?_); rintro e w17 ⟨rfl, hb⟩; refine ⟨_, rfl, ?_⟩; have n0_ := Aside0.mk (blk_below (g := gb353) (o := .cells #[.int .i64 0, .int .i64 0, .int .i64 0, .int .i64 0, .int .i64 0, .int .i64 0] 28 (0, 0)) (by (with_reducible repeat (first | refine blk_drewN ?_ _ | refine blk_drew ?_ | refine blk_alloc ?_ _)); exact BK353.out) hb); have n1_ := Aside0.mk (below_step (by repeat (first | (with_reducible first | exact HB.out | apply below_alloc | apply pw_below_drewN | apply below_drew1 | refine below_set ?_ GE353.out) | exact HB.out)) hb); clear BK353; clear HB; have BK353 := n0_; have HB := n1_; clear n0_ n1_; (try clear hb); (try clear hb2); (try clear hk); (try clear hi)) | ((with_reducible refine gate_dst (N := 4) rfl ?_); refine box_event ?hg (N := 4) ?hd (cs := #[.int .i64 0, .int .i64 0, .int .i64 0, .int .i64 0, .int .i64 0, .int .i64 0]) (t := 28) ?hr ?_; (case hd => rfl); (case hg => rfl); (case hr => first | (go_simp; done) | (go_simp; rfl)); intro gb360 hg w18 hbox hb; have n0_ := Aside0.mk (blk_below (g := gb353) (o := .cells #[.int .i64 0, .int .i64 0, .int .i64 0, .int .i64 0, .int .i64 0, .int .i64 0] 28 (0, 0)) (by (with_reducible repeat (first | refine blk_drewN ?_ _ | refine blk_drew ?_ | refine blk_alloc ?_ _)); exact BK353.out) hb); have n1_ := Aside0.mk (below_step (by repeat (first | (with_reducible first | exact HB.out | apply below_alloc | apply pw_below_drewN | apply below_drew1 | refine below_set ?_ GE353.out) | exact HB.out)) hb); have n2_ := Aside0.mk (hbox); have n3_ := Aside0.mk ((by rw [hg]; exact (below_size (by repeat (first | (with_reducible first | exact HB.out | apply below_alloc | apply pw_below_drewN | apply below_drew1 | refine below_set ?_ GE353.out) | exact HB.out))) : w.heap.size ≤ gb360)); have n4_ := Aside0.mk ((by rw [hg]; exact (below_size (by repeat (first | (with_reducible first | exact HB.out | apply below_alloc | apply pw_below_drewN | apply below_drew1 | refine below_set ?_ GE353.out) | exact HB.out))) : w.heap.size ≤ gb360)); have n5_ := Aside0.mk ((by rw [hg]; exact Nat.ne_of_lt (blk_lt (g := gb353) (o := .cells #[.int .i64 0, .int .i64 0, .int .i64 0, .int .i64 0, .int .i64 0, .int .i64 0] 28 (0, 0)) (by (with_reducible repeat (first | refine blk_drewN ?_ _ | refine blk_drew ?_ | refine blk_alloc ?_ _)); exact BK353.out)) : gb353 ≠ gb360)); have n6_ := Aside0.mk ((by rw [hg]; exact Nat.ne_of_gt (blk_lt (g := gb353) (o := .cells #[.int .i64 0, .int .i64 0, .int .i64 0, .int .i64 0, .int .i64 0, .int .i64 0] 28 (0, 0)) (by (with_reducible repeat (first | refine blk_drewN ?_ _ | refine blk_drew ?_ | refine blk_alloc ?_ _)); exact BK353.out)) : gb360 ≠ gb353)); clear BK353; clear HB; have BK353 := n0_; have HB := n1_; have BK360 := n2_; have GW360 := n3_; have GE360 := n4_; have NB353_360 := n5_; have NB360_353 := n6_; clear n0_ n1_ n2_ n3_ n4_ n5_ n6_; clear hb hbox hg; have hnb19 := NB360_353.out; have hnc19 := NB353_360.out; have hcz20_0 : w18.cell? ⟨gb360, 0, none⟩ = some (.int .i64 0) := (blk_cell BK360.out 0).trans rfl; have hcz20_1 : w18.cell? ⟨gb360, 1, none⟩ = some (.int .i64 0) := (blk_cell BK360.out 1).trans rfl; have hcz20_2 : w18.cell? ⟨gb360, 2, none⟩ = some (.int .i64 0) := (blk_cell BK360.out 2).trans rfl; have hcz20_3 : w18.cell? ⟨gb360, 3, none⟩ = some (.int .i64 0) := (blk_cell BK360.out 3).trans rfl; have hcz20_4 : w18.cell? ⟨gb360, 4, none⟩ = some (.int .i64 0) := (blk_cell BK360.out 4).trans rfl; have hcz20_5 : w18.cell? ⟨gb360, 5, none⟩ = some (.int .i64 0) := (blk_cell BK360.out 5).trans rfl; have hfz20_0 := blk_frozen BK360.out 0; have hfz20_1 := blk_frozen BK360.out 1; have hfz20_2 := blk_frozen BK360.out 2; have hfz20_3 := blk_frozen BK360.out 3; have hfz20_4 := blk_frozen BK360.out 4; have hfz20_5 := blk_frozen BK360.out 5))
    have n0_ : Aside0 (((((((w18.setCell ⟨gb360, 0, none⟩ (.int .i64 t354)).setCell ⟨gb360, 1, none⟩ (.int .i64 t355)).setCell ⟨gb360, 2, none⟩ (.int .i64 t356)).setCell ⟨gb360, 3, none⟩ (.int .i64 t357)).setCell ⟨gb360, 4, none⟩ (.int .i64 t358)).setCell ⟨gb360, 5, none⟩ (.int .i64 t359)).heap[gb353]? = some (.cells #[.int .i64 0, .int .i64 0, .int .i64 0, .int .i64 0, .int .i64 0, .int .i64 0] 28 (0, 0))) := ⟨by (with_reducible repeat (first | refine blk_drewN ?_ _ | refine blk_drew ?_ | refine blk_alloc ?_ _)); refine blk_far ?_ NB353_360.out _; (with_reducible repeat (first | refine blk_drewN ?_ _ | refine blk_drew ?_ | refine blk_alloc ?_ _)); refine blk_far ?_ NB353_360.out _; (with_reducible repeat (first | refine blk_drewN ?_ _ | refine blk_drew ?_ | refine blk_alloc ?_ _)); refine blk_far ?_ NB353_360.out _; (with_reducible repeat (first | refine blk_drewN ?_ _ | refine blk_drew ?_ | refine blk_alloc ?_ _)); refine blk_far ?_ NB353_360.out _; (with_reducible repeat (first | refine blk_drewN ?_ _ | refine blk_drew ?_ | refine blk_alloc ?_ _)); refine blk_far ?_ NB353_360.out _; (with_reducible repeat (first | refine blk_drewN ?_ _ | refine blk_drew ?_ | refine blk_alloc ?_ _)); refine blk_far ?_ NB353_360.out _; (with_reducible repeat (first | refine blk_drewN ?_ _ | refine blk_drew ?_ | refine blk_alloc ?_ _)); exact BK353.out⟩
    have n1_ : Aside0 (((((((w18.setCell ⟨gb360, 0, none⟩ (.int .i64 t354)).setCell ⟨gb360, 1, none⟩ (.int .i64 t355)).setCell ⟨gb360, 2, none⟩ (.int .i64 t356)).setCell ⟨gb360, 3, none⟩ (.int .i64 t357)).setCell ⟨gb360, 4, none⟩ (.int .i64 t358)).setCell ⟨gb360, 5, none⟩ (.int .i64 t359)).heap[gb360]? = some (.cells #[.int .i64 t354, .int .i64 t355, .int .i64 t356, .int .i64 t357, .int .i64 t358, .int .i64 t359] 28 (0, 0))) := ⟨by (with_reducible repeat (first | refine blk_drewN ?_ _ | refine blk_drew ?_ | refine blk_alloc ?_ _)); refine blk_put (cs := #[.int .i64 t354, .int .i64 t355, .int .i64 t356, .int .i64 t357, .int .i64 t358, .int .i64 0]) ?_ 5 _ rfl; (with_reducible repeat (first | refine blk_drewN ?_ _ | refine blk_drew ?_ | refine blk_alloc ?_ _)); refine blk_put (cs := #[.int .i64 t354, .int .i64 t355, .int .i64 t356, .int .i64 t357, .int .i64 0, .int .i64 0]) ?_ 4 _ rfl; (with_reducible repeat (first | refine blk_drewN ?_ _ | refine blk_drew ?_ | refine blk_alloc ?_ _)); refine blk_put (cs := #[.int .i64 t354, .int .i64 t355, .int .i64 t356, .int .i64 0, .int .i64 0, .int .i64 0]) ?_ 3 _ rfl; (with_reducible repeat (first | refine blk_drewN ?_ _ | refine blk_drew ?_ | refine blk_alloc ?_ _)); refine blk_put (cs := #[.int .i64 t354, .int .i64 t355, .int .i64 0, .int .i64 0, .int .i64 0, .int .i64 0]) ?_ 2 _ rfl; (with_reducible repeat (first | refine blk_drewN ?_ _ | refine blk_drew ?_ | refine blk_alloc ?_ _)); refine blk_put (cs := #[.int .i64 t354, .int .i64 0, .int .i64 0, .int .i64 0, .int .i64 0, .int .i64 0]) ?_ 1 _ rfl; (with_reducible repeat (first | refine blk_drewN ?_ _ | refine blk_drew ?_ | refine blk_alloc ?_ _)); refine blk_put (cs := #[.int .i64 0, .int .i64 0, .int .i64 0, .int .i64 0, .int .i64 0, .int .i64 0]) ?_ 0 _ rfl; (with_reducible repeat (first | refine blk_drewN ?_ _ | refine blk_drew ?_ | refine blk_alloc ?_ _)); exact BK360.out⟩
    have n2_ : Aside0 (Below w.heap.size w ((((((w18.setCell ⟨gb360, 0, none⟩ (.int .i64 t354)).setCell ⟨gb360, 1, none⟩ (.int .i64 t355)).setCell ⟨gb360, 2, none⟩ (.int .i64 t356)).setCell ⟨gb360, 3, none⟩ (.int .i64 t357)).setCell ⟨gb360, 4, none⟩ (.int .i64 t358)).setCell ⟨gb360, 5, none⟩ (.int .i64 t359))) := ⟨by repeat (first | (with_reducible first | exact HB.out | apply below_alloc | apply pw_below_drewN | apply below_drew1 | refine below_set ?_ GE353.out | refine below_set ?_ GE360.out) | exact HB.out)⟩
    (try clear BK353)
    (try clear BK360)
    (try clear HB)
    generalize ((((((w18.setCell ⟨gb360, 0, none⟩ (.int .i64 t354)).setCell ⟨gb360, 1, none⟩ (.int .i64 t355)).setCell ⟨gb360, 2, none⟩ (.int .i64 t356)).setCell ⟨gb360, 3, none⟩ (.int .i64 t357)).setCell ⟨gb360, 4, none⟩ (.int .i64 t358)).setCell ⟨gb360, 5, none⟩ (.int .i64 t359)) = w21 at n0_ n1_ n2_ ⊢
    have BK353 := n0_
    have BK360 := n1_
    have HB := n2_
    clear n0_ n1_ n2_
    have n0_ := Aside0.mk (blk_drew BK353.out)
    have n1_ := Aside0.mk (blk_drew BK360.out)
    have n2_ := Aside0.mk (below_drew1 HB.out)
    clear BK353
    clear BK360
    clear HB
    have BK353 := n0_
    have BK360 := n1_
    have HB := n2_
    clear n0_ n1_ n2_
    refine start_ (n := 9) (S := fun w' => w'.cell? ⟨gb360, 0, none⟩ = some (.int .i64 t354) ∧ w'.cell? ⟨gb360, 1, none⟩ = some (.int .i64 t355) ∧ w'.cell? ⟨gb360, 2, none⟩ = some (.int .i64 t356) ∧ w'.cell? ⟨gb360, 3, none⟩ = some (.int .i64 t357) ∧ w'.cell? ⟨gb360, 4, none⟩ = some (.int .i64 t358) ∧ w'.cell? ⟨gb360, 5, none⟩ = some (.int .i64 t359)) (ds := []) #[false, false, false, false, false, false, false, false, false] (by kernel_rfl) rfl rfl ⟨(blk_cell BK360.out 0).trans rfl, (blk_cell BK360.out 1).trans rfl, (blk_cell BK360.out 2).trans rfl, (blk_cell BK360.out 3).trans rfl, (blk_cell BK360.out 4).trans rfl, (blk_cell BK360.out 5).trans rfl⟩ (fun hHeld => ?_); refine with_tabW clock_ReadShort.tab4 clock_ReadShort.bits4 (fun HT_ HW_ => ?_)
    generalize w21.drew = w22 at BK353 BK360 HB hHeld ⊢
    refine pure_ (i := 3) (N := some 25) (v := ?_) (a' := ?_) #[false, false, false, true, false, false, false, false, false] rfl rfl (any_of HT_.out (by kernel_rfl)) (fun _ _ _ h => h) (Or.inl ⟨by rfl, ?_⟩) ?_ ?_
    rotate_left
    · intro w'
      go_simp
      with_reducible rfl
    rotate_left
    · simp only [Act.put, List.setIfInBounds_toArray, List.set_cons_zero, List.set_cons_succ, i64_w, i32_w]
      rfl
    refine take_ (i := 0) (N := some 22) (v := ?_) (a' := ?_) #[true, false, false, true, false, false, false, false, false] rfl rfl (take_ofW HT_.out HW_.out (by kernel_rfl)) (fun _ _ _ h => h) (Or.inl ⟨by rfl, ?_⟩) hHeld ?_ ?_
    rotate_left
    · rintro w' ⟨s0, s1, s2, s3, s4, s5⟩
      go_simp
      with_reducible rfl
    rotate_left
    · simp only [Act.put, List.setIfInBounds_toArray, List.set_cons_zero, List.set_cons_succ, i64_w, i32_w]
      rfl
    refine take_ (i := 1) (N := some 23) (v := ?_) (a' := ?_) #[true, true, false, true, false, false, false, false, false] rfl rfl (take_ofW HT_.out HW_.out (by kernel_rfl)) (fun _ _ _ h => h) (Or.inl ⟨by rfl, ?_⟩) hHeld ?_ ?_
    rotate_left
    · rintro w' ⟨s0, s1, s2, s3, s4, s5⟩
      go_simp
      with_reducible rfl
    rotate_left
    · simp only [Act.put, List.setIfInBounds_toArray, List.set_cons_zero, List.set_cons_succ, i64_w, i32_w]
      rfl
    refine one_ (i := 2) (N := some 24) #[true, true, true, true, false, false, false, false, false] rfl rfl (one_of HT_.out (by kernel_rfl)) (by decide) (fun K hK => ?_)
    refine goes_ Try.func23 (by kernel_rfl) rfl #[.agg #[.int .i64 t354, .int .i64 t355, .int .i64 t356, .int .i64 t357, .int .i64 t358, .int .i64 t359]] (by rfl) rfl rfl (by (try simp only [List.map_toArray, List.map_cons, List.map_nil]); first | done | rfl | (simp only [List.length_drop, List.length_take]; rfl)) ?_
    with_reducible refine (clock_Short.calls k t354 t355 t356 t357 t358 t359 t361 _ A9.out).mono ?_
    rintro e w23 ⟨rfl, hb⟩
    refine ⟨_, rfl, ?_⟩
    have n0_ := Aside0.mk (blk_below (g := gb353) (o := .cells #[.int .i64 0, .int .i64 0, .int .i64 0, .int .i64 0, .int .i64 0, .int .i64 0] 28 (0, 0)) (by (with_reducible repeat (first | refine blk_drewN ?_ _ | refine blk_drew ?_ | refine blk_alloc ?_ _)); exact BK353.out) hb)
    have n1_ := Aside0.mk (blk_below (g := gb360) (o := .cells #[.int .i64 t354, .int .i64 t355, .int .i64 t356, .int .i64 t357, .int .i64 t358, .int .i64 t359] 28 (0, 0)) (by (with_reducible repeat (first | refine blk_drewN ?_ _ | refine blk_drew ?_ | refine blk_alloc ?_ _)); exact BK360.out) hb)
    have n2_ := Aside0.mk (below_step (by repeat (first | (with_reducible first | exact HB.out | apply below_alloc | apply pw_below_drewN | apply below_drew1 | refine below_set ?_ GE353.out | refine below_set ?_ GE360.out) | exact HB.out)) hb)
    clear BK353
    clear BK360
    clear HB
    have BK353 := n0_
    have BK360 := n1_
    have HB := n2_
    clear n0_ n1_ n2_
    (try clear hb)
    (try clear hb2)
    (try clear hk)
    (try clear hi)
    refine hK.out _ _ ⟨(blk_cell BK360.out 0).trans rfl, (blk_cell BK360.out 1).trans rfl, (blk_cell BK360.out 2).trans rfl, (blk_cell BK360.out 3).trans rfl, (blk_cell BK360.out 4).trans rfl, (blk_cell BK360.out 5).trans rfl⟩ (fun hHeld => ?_)
    clear hK K
    refine norm_ (a' := ?_) ?_ ?_
    rotate_left
    · show Act.put _ (some 24) _ = _
      simp only [Act.put, List.setIfInBounds_toArray, List.set_cons_zero, List.set_cons_succ, i64_w, i32_w]
      rfl
    refine one_ (i := 4) (N := some 26) #[true, true, true, true, true, false, false, false, false] rfl rfl (one_of HT_.out (by kernel_rfl)) (by decide) (fun K hK => ?_)
    refine goes_ Try.func56 (by kernel_rfl) rfl #[.agg #[.int .i64 t354, .int .i64 t355, .int .i64 t356, .int .i64 t357, .int .i64 t358, .int .i64 t359], .string t361, .string a0] (by rfl) rfl rfl (by (try simp only [List.map_toArray, List.map_cons, List.map_nil]); first | done | rfl | (simp only [List.length_drop, List.length_take]; rfl)) ?_
    with_reducible refine (clock_kept.calls t354 t355 t356 t357 t358 t359 t361 a0 t362 t363 t364 t365 t366 t367 t368 _ A10.out).mono ?_
    rintro e w24 ⟨rfl, hb⟩
    refine ⟨_, rfl, ?_⟩
    have n0_ := Aside0.mk (blk_below (g := gb353) (o := .cells #[.int .i64 0, .int .i64 0, .int .i64 0, .int .i64 0, .int .i64 0, .int .i64 0] 28 (0, 0)) (by (with_reducible repeat (first | refine blk_drewN ?_ _ | refine blk_drew ?_ | refine blk_alloc ?_ _)); exact BK353.out) hb)
    have n1_ := Aside0.mk (blk_below (g := gb360) (o := .cells #[.int .i64 t354, .int .i64 t355, .int .i64 t356, .int .i64 t357, .int .i64 t358, .int .i64 t359] 28 (0, 0)) (by (with_reducible repeat (first | refine blk_drewN ?_ _ | refine blk_drew ?_ | refine blk_alloc ?_ _)); exact BK360.out) hb)
    have n2_ := Aside0.mk (below_step (by repeat (first | (with_reducible first | exact HB.out | apply below_alloc | apply pw_below_drewN | apply below_drew1 | refine below_set ?_ GE353.out | refine below_set ?_ GE360.out) | exact HB.out)) hb)
    clear BK353
    clear BK360
    clear HB
    have BK353 := n0_
    have BK360 := n1_
    have HB := n2_
    clear n0_ n1_ n2_
    (try clear hb)
    (try clear hb2)
    (try clear hk)
    (try clear hi)
    refine hK.out _ _ ⟨(blk_cell BK360.out 0).trans rfl, (blk_cell BK360.out 1).trans rfl, (blk_cell BK360.out 2).trans rfl, (blk_cell BK360.out 3).trans rfl, (blk_cell BK360.out 4).trans rfl, (blk_cell BK360.out 5).trans rfl⟩ (fun hHeld => ?_)
    clear hK K
    refine norm_ (a' := ?_) ?_ ?_
    rotate_left
    · show Act.put _ (some 26) _ = _
      simp only [Act.put, List.setIfInBounds_toArray, List.set_cons_zero, List.set_cons_succ, i64_w, i32_w]
      rfl
    refine pure_ (i := 5) (N := some 27) (v := ?_) (a' := ?_) #[true, true, true, true, true, true, false, false, false] rfl rfl (any_of HT_.out (by kernel_rfl)) (fun _ _ _ h => h) (Or.inl ⟨by rfl, ?_⟩) ?_ ?_
    rotate_left
    · intro w'
      go_simp
      with_reducible rfl
    rotate_left
    · simp only [Act.put, List.setIfInBounds_toArray, List.set_cons_zero, List.set_cons_succ, i64_w, i32_w]
      rfl
    refine pure_ (i := 6) (N := some 28) (v := ?_) (a' := ?_) #[true, true, true, true, true, true, true, false, false] rfl rfl (any_of HT_.out (by kernel_rfl)) (fun _ _ _ h => h) (Or.inl ⟨by rfl, ?_⟩) ?_ ?_
    rotate_left
    · intro w'
      go_simp
      with_reducible rfl
    rotate_left
    · simp only [Act.put, List.setIfInBounds_toArray, List.set_cons_zero, List.set_cons_succ, i64_w, i32_w]
      rfl
    refine one_ (i := 7) (N := none) #[true, true, true, true, true, true, true, true, false] rfl rfl (one_of HT_.out (by kernel_rfl)) (by decide) (fun K hK => ?_)
    have hs25 : w24.cell? ⟨gb353, 0, none⟩ = some (.int .i64 0) := (blk_cell BK353.out 0).trans rfl
    have hfs25 := blk_frozen BK353.out 0
    have hns25_1 := NB360_353.out
    have hms25_1 := NB353_360.out
    have hs26 : w24.cell? ⟨gb353, 1, none⟩ = some (.int .i64 0) := (blk_cell BK353.out 1).trans rfl
    have hfs26 := blk_frozen BK353.out 1
    have hns26_1 := NB360_353.out
    have hms26_1 := NB353_360.out
    have hs27 : w24.cell? ⟨gb353, 2, none⟩ = some (.int .i64 0) := (blk_cell BK353.out 2).trans rfl
    have hfs27 := blk_frozen BK353.out 2
    have hns27_1 := NB360_353.out
    have hms27_1 := NB353_360.out
    have hs28 : w24.cell? ⟨gb353, 3, none⟩ = some (.int .i64 0) := (blk_cell BK353.out 3).trans rfl
    have hfs28 := blk_frozen BK353.out 3
    have hns28_1 := NB360_353.out
    have hms28_1 := NB353_360.out
    have hs29 : w24.cell? ⟨gb353, 4, none⟩ = some (.int .i64 0) := (blk_cell BK353.out 4).trans rfl
    have hfs29 := blk_frozen BK353.out 4
    have hns29_1 := NB360_353.out
    have hms29_1 := NB353_360.out
    have hs30 : w24.cell? ⟨gb353, 5, none⟩ = some (.int .i64 0) := (blk_cell BK353.out 5).trans rfl
    have hfs30 := blk_frozen BK353.out 5
    have hns30_1 := NB360_353.out
    have hms30_1 := NB353_360.out
    refine skip_ (w1 := ?_) (by rfl) rfl ?_ ?_
    rotate_left
    · go_simp
      rfl
    refine hK.out _ _ ⟨((cell_far (p := ⟨gb353, _, none⟩) NB360_353.out _).trans (((cell_far (p := ⟨gb353, _, none⟩) NB360_353.out _).trans (((cell_far (p := ⟨gb353, _, none⟩) NB360_353.out _).trans (((cell_far (p := ⟨gb353, _, none⟩) NB360_353.out _).trans (((cell_far (p := ⟨gb353, _, none⟩) NB360_353.out _).trans (((cell_far (p := ⟨gb353, _, none⟩) NB360_353.out _).trans (hHeld.1)))))))))))), ((cell_far (p := ⟨gb353, _, none⟩) NB360_353.out _).trans (((cell_far (p := ⟨gb353, _, none⟩) NB360_353.out _).trans (((cell_far (p := ⟨gb353, _, none⟩) NB360_353.out _).trans (((cell_far (p := ⟨gb353, _, none⟩) NB360_353.out _).trans (((cell_far (p := ⟨gb353, _, none⟩) NB360_353.out _).trans (((cell_far (p := ⟨gb353, _, none⟩) NB360_353.out _).trans (hHeld.2.1)))))))))))), ((cell_far (p := ⟨gb353, _, none⟩) NB360_353.out _).trans (((cell_far (p := ⟨gb353, _, none⟩) NB360_353.out _).trans (((cell_far (p := ⟨gb353, _, none⟩) NB360_353.out _).trans (((cell_far (p := ⟨gb353, _, none⟩) NB360_353.out _).trans (((cell_far (p := ⟨gb353, _, none⟩) NB360_353.out _).trans (((cell_far (p := ⟨gb353, _, none⟩) NB360_353.out _).trans (hHeld.2.2.1)))))))))))), ((cell_far (p := ⟨gb353, _, none⟩) NB360_353.out _).trans (((cell_far (p := ⟨gb353, _, none⟩) NB360_353.out _).trans (((cell_far (p := ⟨gb353, _, none⟩) NB360_353.out _).trans (((cell_far (p := ⟨gb353, _, none⟩) NB360_353.out _).trans (((cell_far (p := ⟨gb353, _, none⟩) NB360_353.out _).trans (((cell_far (p := ⟨gb353, _, none⟩) NB360_353.out _).trans (hHeld.2.2.2.1)))))))))))), ((cell_far (p := ⟨gb353, _, none⟩) NB360_353.out _).trans (((cell_far (p := ⟨gb353, _, none⟩) NB360_353.out _).trans (((cell_far (p := ⟨gb353, _, none⟩) NB360_353.out _).trans (((cell_far (p := ⟨gb353, _, none⟩) NB360_353.out _).trans (((cell_far (p := ⟨gb353, _, none⟩) NB360_353.out _).trans (((cell_far (p := ⟨gb353, _, none⟩) NB360_353.out _).trans (hHeld.2.2.2.2.1)))))))))))), ((cell_far (p := ⟨gb353, _, none⟩) NB360_353.out _).trans (((cell_far (p := ⟨gb353, _, none⟩) NB360_353.out _).trans (((cell_far (p := ⟨gb353, _, none⟩) NB360_353.out _).trans (((cell_far (p := ⟨gb353, _, none⟩) NB360_353.out _).trans (((cell_far (p := ⟨gb353, _, none⟩) NB360_353.out _).trans (((cell_far (p := ⟨gb353, _, none⟩) NB360_353.out _).trans (hHeld.2.2.2.2.2))))))))))))⟩ (fun hHeld => ?_)
    clear hK K
    refine pure_ (i := 8) (N := some 3) (v := ?_) (a' := ?_) #[true, true, true, true, true, true, true, true, true] rfl rfl (any_of HT_.out (by kernel_rfl)) (fun _ _ _ h => h) (Or.inl ⟨by rfl, ?_⟩) ?_ ?_
    rotate_left
    · intro w'
      go_simp
      with_reducible rfl
    rotate_left
    · simp only [Act.put, List.setIfInBounds_toArray, List.set_cons_zero, List.set_cons_succ, i64_w, i32_w]
      rfl
    refine done_ (done_of HT_.out (by kernel_rfl)) ?_
    try go_wp2
    refine bodyPost_ret (results_ct rfl _ _ gb353 28 #[.int .i64 t362, .int .i64 t363, .int .i64 t364, .int .i64 t365, .int .i64 t366, .int .i64 t367] (0, 0) _ rfl (by (with_reducible repeat (first | refine blk_drewN ?_ _ | refine blk_drew ?_ | refine blk_alloc ?_ _)); refine blk_put (cs := #[.int .i64 t362, .int .i64 t363, .int .i64 t364, .int .i64 t365, .int .i64 t366, .int .i64 0]) ?_ 5 _ rfl; (with_reducible repeat (first | refine blk_drewN ?_ _ | refine blk_drew ?_ | refine blk_alloc ?_ _)); refine blk_put (cs := #[.int .i64 t362, .int .i64 t363, .int .i64 t364, .int .i64 t365, .int .i64 0, .int .i64 0]) ?_ 4 _ rfl; (with_reducible repeat (first | refine blk_drewN ?_ _ | refine blk_drew ?_ | refine blk_alloc ?_ _)); refine blk_put (cs := #[.int .i64 t362, .int .i64 t363, .int .i64 t364, .int .i64 0, .int .i64 0, .int .i64 0]) ?_ 3 _ rfl; (with_reducible repeat (first | refine blk_drewN ?_ _ | refine blk_drew ?_ | refine blk_alloc ?_ _)); refine blk_put (cs := #[.int .i64 t362, .int .i64 t363, .int .i64 0, .int .i64 0, .int .i64 0, .int .i64 0]) ?_ 2 _ rfl; (with_reducible repeat (first | refine blk_drewN ?_ _ | refine blk_drew ?_ | refine blk_alloc ?_ _)); refine blk_put (cs := #[.int .i64 t362, .int .i64 0, .int .i64 0, .int .i64 0, .int .i64 0, .int .i64 0]) ?_ 1 _ rfl; (with_reducible repeat (first | refine blk_drewN ?_ _ | refine blk_drew ?_ | refine blk_alloc ?_ _)); refine blk_put (cs := #[.int .i64 0, .int .i64 0, .int .i64 0, .int .i64 0, .int .i64 0, .int .i64 0]) ?_ 0 _ rfl; (with_reducible repeat (first | refine blk_drewN ?_ _ | refine blk_drew ?_ | refine blk_alloc ?_ _)); exact BK353.out) Try.underlying28 rfl (by kernel_rfl)) rfl ?_
    exact ⟨by first | rfl | (simp [errW_none, errW_some] <;> rfl) | (simp [*, errW_none, errW_some] <;> rfl), by repeat (first | (with_reducible first | exact HB.out | apply below_alloc | apply pw_below_drewN | apply below_drew1 | refine below_set ?_ GE353.out | refine below_set ?_ GE360.out) | exact HB.out)⟩
  · rw [if_neg c2] at H
    have c2b0 : ((a0.size : Int) == 16) = false := beq_eq_false_iff_ne.mpr c2
    have c2b1 : ((a0.size : Int) != 16) = true := bne_iff_ne.mpr c2
    simp only [Option.some.injEq, Prod.mk.injEq] at H
    obtain ⟨rfl, rfl, rfl, rfl, rfl, rfl, rfl⟩ := H
    go_enter Try.func33, Try.ntmps33
    go_wp2_with (first | ((with_reducible refine gate_dst (N := 2) rfl ?_); refine box_event ?hg (N := 2) ?hd (cs := #[.int .i64 0, .int .i64 0, .int .i64 0, .int .i64 0, .int .i64 0, .int .i64 0]) (t := 28) ?hr ?_; (case hd => rfl); (case hg => rfl); (case hr => first | (go_simp; done) | (go_simp; rfl)); intro gb353 hg w31 hbox hb; have n0_ := Aside0.mk (below_step (by repeat (first | (with_reducible first | exact HB.out | apply below_alloc | apply pw_below_drewN | apply below_drew1) | exact HB.out)) hb); have n1_ := Aside0.mk (hbox); have n2_ := Aside0.mk ((by rw [hg]; exact (below_size (by repeat (first | (with_reducible first | exact HB.out | apply below_alloc | apply pw_below_drewN | apply below_drew1) | exact HB.out))) : w.heap.size ≤ gb353)); have n3_ := Aside0.mk ((by rw [hg]; exact (below_size (by repeat (first | (with_reducible first | exact HB.out | apply below_alloc | apply pw_below_drewN | apply below_drew1) | exact HB.out))) : w.heap.size ≤ gb353)); clear HB; have HB := n0_; have BK353 := n1_; have GW353 := n2_; have GE353 := n3_; clear n0_ n1_ n2_ n3_; clear hb hbox hg; have hcz32_0 : w31.cell? ⟨gb353, 0, none⟩ = some (.int .i64 0) := (blk_cell BK353.out 0).trans rfl; have hcz32_1 : w31.cell? ⟨gb353, 1, none⟩ = some (.int .i64 0) := (blk_cell BK353.out 1).trans rfl; have hcz32_2 : w31.cell? ⟨gb353, 2, none⟩ = some (.int .i64 0) := (blk_cell BK353.out 2).trans rfl; have hcz32_3 : w31.cell? ⟨gb353, 3, none⟩ = some (.int .i64 0) := (blk_cell BK353.out 3).trans rfl; have hcz32_4 : w31.cell? ⟨gb353, 4, none⟩ = some (.int .i64 0) := (blk_cell BK353.out 4).trans rfl; have hcz32_5 : w31.cell? ⟨gb353, 5, none⟩ = some (.int .i64 0) := (blk_cell BK353.out 5).trans rfl; have hfz32_0 := blk_frozen BK353.out 0; have hfz32_1 := blk_frozen BK353.out 1; have hfz32_2 := blk_frozen BK353.out 2; have hfz32_3 := blk_frozen BK353.out 3; have hfz32_4 := blk_frozen BK353.out 4; have hfz32_5 := blk_frozen BK353.out 5))
    refine bodyPost_ret (results_ct rfl _ _ gb353 28 #[.int .i64 0, .int .i64 0, .int .i64 0, .int .i64 0, .int .i64 0, .int .i64 0] (0, 0) _ rfl (by (with_reducible repeat (first | refine blk_drewN ?_ _ | refine blk_drew ?_ | refine blk_alloc ?_ _)); refine blk_put (cs := #[.int .i64 0, .int .i64 0, .int .i64 0, .int .i64 0, .int .i64 0, .int .i64 0]) ?_ 5 _ rfl; (with_reducible repeat (first | refine blk_drewN ?_ _ | refine blk_drew ?_ | refine blk_alloc ?_ _)); refine blk_put (cs := #[.int .i64 0, .int .i64 0, .int .i64 0, .int .i64 0, .int .i64 0, .int .i64 0]) ?_ 4 _ rfl; (with_reducible repeat (first | refine blk_drewN ?_ _ | refine blk_drew ?_ | refine blk_alloc ?_ _)); refine blk_put (cs := #[.int .i64 0, .int .i64 0, .int .i64 0, .int .i64 0, .int .i64 0, .int .i64 0]) ?_ 3 _ rfl; (with_reducible repeat (first | refine blk_drewN ?_ _ | refine blk_drew ?_ | refine blk_alloc ?_ _)); refine blk_put (cs := #[.int .i64 0, .int .i64 0, .int .i64 0, .int .i64 0, .int .i64 0, .int .i64 0]) ?_ 2 _ rfl; (with_reducible repeat (first | refine blk_drewN ?_ _ | refine blk_drew ?_ | refine blk_alloc ?_ _)); refine blk_put (cs := #[.int .i64 0, .int .i64 0, .int .i64 0, .int .i64 0, .int .i64 0, .int .i64 0]) ?_ 1 _ rfl; (with_reducible repeat (first | refine blk_drewN ?_ _ | refine blk_drew ?_ | refine blk_alloc ?_ _)); refine blk_put (cs := #[.int .i64 0, .int .i64 0, .int .i64 0, .int .i64 0, .int .i64 0, .int .i64 0]) ?_ 0 _ rfl; (with_reducible repeat (first | refine blk_drewN ?_ _ | refine blk_drew ?_ | refine blk_alloc ?_ _)); exact BK353.out) Try.underlying28 rfl (by kernel_rfl)) rfl ?_
    exact ⟨by first | rfl | (simp [errW_none, errW_some] <;> rfl) | (simp [*, errW_none, errW_some] <;> rfl), by repeat (first | (with_reducible first | exact HB.out | apply below_alloc | apply pw_below_drewN | apply below_drew1 | refine below_set ?_ GE353.out) | exact HB.out)⟩

end Go.Proofs.Ytdfghdppbfabfaa.P

namespace Go.Proofs.Ytdfghdppbfabfaa.P
open Go.RowKit Go.Proofs.YtdfghdppbfabfaaW.PrintWords Go.Proofs.YtdfghdppbfabfaaW.PrintLast Go.Proofs.YtdfghdppbfabfaaW.PrintMore
attribute [local go_sem] max2_int min2_int max_two min_two max_three min_three max_four min_four   -- for this text's walks alone
set_option linter.unusedVariables false
set_option linter.unusedSimpArgs false

/-! ### clock_ReadWeb: function 29 -/
def clock_ReadWeb.l0 : Nat → ByteArray → Int → Int → Int → Int → Int → Int → Int → Option (Int × Int × Int × Int × Int × Int × Bool)
  | 0, _, _, _, _, _, _, _, _ => none
  | k + 1, x0, x21, x311000, x311001, x311002, x311003, x311004, x311005 => if x21 < 12 then ((clock_name.f (⟨#[74, 97, 110, 70, 101, 98, 77, 97, 114, 65, 112, 114, 77, 97, 121, 74, 117, 110, 74, 117, 108, 65, 117, 103, 83, 101, 112, 79, 99, 116, 78, 111, 118, 68, 101, 99]⟩ : ByteArray) x21).bind fun t311 => (if 8 ≤ 11 then (if 11 ≤ (x0.size : Int) then (if t311.toList = (x0.extract 8 11).toList then (clock_ReadWeb.l0 k x0 (wrap64 (x21 + 1)) x311000 (wrap64 (x21 + 1)) x311002 x311003 x311004 x311005) else (clock_ReadWeb.l0 k x0 (wrap64 (x21 + 1)) x311000 x311001 x311002 x311003 x311004 x311005)) else (none)) else (none))) else ((clock_Web.f k x311000 x311001 x311002 x311003 x311004 x311005).bind fun t312 => ((clock_kept.f x311000 x311001 x311002 x311003 x311004 x311005 t312 x0).bind fun bt313 => (some (bt313.1, bt313.2.1, bt313.2.2.1, bt313.2.2.2.1, bt313.2.2.2.2.1, bt313.2.2.2.2.2.1, bt313.2.2.2.2.2.2))))
def clock_ReadWeb.f (k : Nat) (a0 : ByteArray) : Option (Int × Int × Int × Int × Int × Int × Bool) := if (a0.size : Int) = 29 then ((clock_field.f k a0 12 16).bind fun t305 => ((clock_field.f k a0 5 7).bind fun t306 => ((clock_field.f k a0 17 19).bind fun t307 => ((clock_field.f k a0 20 22).bind fun t308 => ((clock_field.f k a0 23 25).bind fun t309 => (clock_ReadWeb.l0 k a0 0 t305 0 t306 t307 t308 t309)))))) else (some (0, 0, 0, 0, 0, 0, false))
theorem clock_ReadWeb.mono_l : ∀ k, (∀ y0 y1 y2 y3 y4 y5 y6 y7, LeO (clock_ReadWeb.l0 k y0 y1 y2 y3 y4 y5 y6 y7) (clock_ReadWeb.l0 (k + 1) y0 y1 y2 y3 y4 y5 y6 y7))
  | 0 => fun _ _ _ _ _ _ _ _ r h => by simp [clock_ReadWeb.l0] at h
  | k + 1 => by
    have ih0 := clock_ReadWeb.mono_l k
    · intro y0 y1 y2 y3 y4 y5 y6 y7
      unfold clock_ReadWeb.l0
      repeat' first
      | (with_reducible exact ih0 _ _ _ _ _ _ _ _)
      | (with_reducible exact clock_Web.mono _ _ _ _ _ _ _)
      | (with_reducible exact clock_field.mono _ _ _ _)
      | (with_reducible exact LeO.refl _)
      | (with_reducible exact LeO.none _)
      | (with_reducible refine LeO.ite ?_ ?_)
      | (with_reducible refine LeO.bind ?_ (fun _ => ?_))
      | exact ih0 _ _ _ _ _ _ _ _
      | exact clock_Web.mono _ _ _ _ _ _ _
      | exact clock_field.mono _ _ _ _
      | exact LeO.none _
      | refine LeO.ite ?_ ?_
      | refine LeO.bind ?_ (fun _ => ?_)
theorem clock_ReadWeb.mono : ∀ a0 k, LeO (clock_ReadWeb.f k a0) (clock_ReadWeb.f (k + 1) a0) := by
  intro a0 k
  have ih0 := clock_ReadWeb.mono_l k
  unfold clock_ReadWeb.f
  repeat' first
      | (with_reducible exact ih0 _ _ _ _ _ _ _ _)
      | (with_reducible exact clock_Web.mono _ _ _ _ _ _ _)
      | (with_reducible exact clock_field.mono _ _ _ _)
      | (with_reducible exact LeO.refl _)
      | (with_reducible exact LeO.none _)
      | (with_reducible refine LeO.ite ?_ ?_)
      | (with_reducible refine LeO.bind ?_ (fun _ => ?_))
      | exact ih0 _ _ _ _ _ _ _ _
      | exact clock_Web.mono _ _ _ _ _ _ _
      | exact clock_field.mono _ _ _ _
      | exact LeO.none _
      | refine LeO.ite ?_ ?_
      | refine LeO.bind ?_ (fun _ => ?_)
def clock_ReadWeb.T10 : Bool × List (List Nat × List Nat) := (true, [([], []), ([], []), ([1], [1]), ([], []), ([0, 2, 3, 2], [0, 2, 3]), ([4], [4]), ([4], [4]), ([5, 4, 0, 1, 2, 3, 4, 5, 6], [5]), ([6, 7, 0, 1, 2, 3, 4, 5, 6, 7], [6])])
def clock_ReadWeb.B10 : List Nat := [0, 0, 2, 0, 15, 31, 31, 127, 255]
theorem clock_ReadWeb.tab10 : rtab .any (opsOf Try.f29 10) = clock_ReadWeb.T10 := by kernel_rfl
theorem clock_ReadWeb.bits10 : waitsOk clock_ReadWeb.T10.2 clock_ReadWeb.B10 = true := by kernel_rfl
set_option maxHeartbeats 8000000 in
set_option maxRecDepth 100000 in
theorem clock_ReadWeb.calls (k : Nat) (a0 : ByteArray) (r1 : Int) (r2 : Int) (r3 : Int) (r4 : Int) (r5 : Int) (r6 : Int) (r7 : Bool) (w : World) (h : clock_ReadWeb.f k a0 = some (r1, r2, r3, r4, r5, r6, r7)) :
    Calls Try.prog 29 #[.string a0] w fun e w' => e = .returned (.tuple #[.agg #[.int .i64 r1, .int .i64 r2, .int .i64 r3, .int .i64 r4, .int .i64 r5, .int .i64 r6], .bool r7]) ∧ Below w.heap.size w w' := by
  have hu28 := Try.underlying28
  have HB := Aside0.mk (Below.refl w.heap.size w)
  have H : (if (a0.size : Int) = 29 then ((clock_field.f k a0 12 16).bind fun t305 => ((clock_field.f k a0 5 7).bind fun t306 => ((clock_field.f k a0 17 19).bind fun t307 => ((clock_field.f k a0 20 22).bind fun t308 => ((clock_field.f k a0 23 25).bind fun t309 => (clock_ReadWeb.l0 k a0 0 t305 0 t306 t307 t308 t309)))))) else (some (0, 0, 0, 0, 0, 0, false))) = some (r1, r2, r3, r4, r5, r6, r7) := h
  clear h
  by_cases c2 : (a0.size : Int) = 29
  · rw [if_pos c2] at H
    have c2b0 : ((a0.size : Int) == 29) = true := beq_iff_eq.mpr c2
    have c2b1 : ((a0.size : Int) != 29) = false := bne_eq_false_iff_eq.mpr c2
    clear c2
    replace H := Option.bind_eq_some_iff.mp H
    obtain ⟨t305, A30, H⟩ := H
    replace H : ((clock_field.f k a0 5 7).bind fun t306 => ((clock_field.f k a0 17 19).bind fun t307 => ((clock_field.f k a0 20 22).bind fun t308 => ((clock_field.f k a0 23 25).bind fun t309 => (clock_ReadWeb.l0 k a0 0 t305 0 t306 t307 t308 t309))))) = some (r1, r2, r3, r4, r5, r6, r7) := H
    have A3 := Aside0.mk A30
    clear A30
    replace H := Option.bind_eq_some_iff.mp H
    obtain ⟨t306, A40, H⟩ := H
    replace H : ((clock_field.f k a0 17 19).bind fun t307 => ((clock_field.f k a0 20 22).bind fun t308 => ((clock_field.f k a0 23 25).bind fun t309 => (clock_ReadWeb.l0 k a0 0 t305 0 t306 t307 t308 t309)))) = some (r1, r2, r3, r4, r5, r6, r7) := H
    have A4 := Aside0.mk A40
    clear A40
    replace H := Option.bind_eq_some_iff.mp H
    obtain ⟨t307, A50, H⟩ := H
    replace H : ((clock_field.f k a0 20 22).bind fun t308 => ((clock_field.f k a0 23 25).bind fun t309 => (clock_ReadWeb.l0 k a0 0 t305 0 t306 t307 t308 t309))) = some (r1, r2, r3, r4, r5, r6, r7) := H
    have A5 := Aside0.mk A50
    clear A50
    replace H := Option.bind_eq_some_iff.mp H
    obtain ⟨t308, A60, H⟩ := H
    replace H : ((clock_field.f k a0 23 25).bind fun t309 => (clock_ReadWeb.l0 k a0 0 t305 0 t306 t307 t308 t309)) = some (r1, r2, r3, r4, r5, r6, r7) := H
    have A6 := Aside0.mk A60
    clear A60
    replace H := Option.bind_eq_some_iff.mp H
    obtain ⟨t309, A70, H⟩ := H
    replace H : (clock_ReadWeb.l0 k a0 0 t305 0 t306 t307 t308 t309) = some (r1, r2, r3, r4, r5, r6, r7) := H
    have A7 := Aside0.mk A70
    clear A70
    have H' := Aside0.mk H
    clear H
    go_enter Try.func29, Try.ntmps29
    go_wp2_with (first | ((with_reducible refine gate_dst (N := 2) rfl ?_); refine box_event ?hg (N := 2) ?hd (cs := #[.int .i64 0, .int .i64 0, .int .i64 0, .int .i64 0, .int .i64 0, .int .i64 0]) (t := 28) ?hr ?_; (case hd => rfl); (case hg => rfl); (case hr => first | (go_simp; done) | (go_simp; rfl)); intro gb304 hg w8 hbox hb; have n0_ := Aside0.mk (below_step (by repeat (first | (with_reducible first | exact HB.out | apply below_alloc | apply pw_below_drewN | apply below_drew1) | exact HB.out)) hb); have n1_ := Aside0.mk (hbox); have n2_ := Aside0.mk ((by rw [hg]; exact (below_size (by repeat (first | (with_reducible first | exact HB.out | apply below_alloc | apply pw_below_drewN | apply below_drew1) | exact HB.out))) : w.heap.size ≤ gb304)); have n3_ := Aside0.mk ((by rw [hg]; exact (below_size (by repeat (first | (with_reducible first | exact HB.out | apply below_alloc | apply pw_below_drewN | apply below_drew1) | exact HB.out))) : w.heap.size ≤ gb304)); clear HB; have HB := n0_; have BK304 := n1_; have GW304 := n2_; have GE304 := n3_; clear n0_ n1_ n2_ n3_; clear hb hbox hg) | ((with_reducible refine gate_callee (f := 55) rfl ?_); refine goesL_ (some 11) rfl rfl Try.func55 (by kernel_rfl) rfl #[.string a0, .int .i64 12, .int .i64 16] rfl (by (try simp only [List.map_toArray, List.map_cons, List.map_nil]); first | done | rfl | (simp only [List.length_drop, List.length_take]; rfl)) ?_; (with_reducible refine (clock_field.calls k a0 12 16 t305 _ A3.out).mono ?_); rintro e w9 ⟨rfl, hb⟩; refine ⟨_, rfl, ?_⟩; have n0_ := Aside0.mk (blk_below (g := gb304) (o := .cells #[.int .i64 0, .int .i64 0, .int .i64 0, .int .i64 0, .int .i64 0, .int .i64 0] 28 (0, 0)) (by (with_reducible repeat (first | refine blk_drewN ?_ _ | refine blk_drew ?_ | refine blk_alloc ?_ _)); exact BK304.out) hb); have n1_ := Aside0.mk (below_step (by repeat (first | (with_reducible first | exact HB.out | apply below_alloc | apply pw_below_drewN | apply below_drew1 | refine below_set ?_ GE304.out) | exact HB.out)) hb); clear BK304; clear HB; have BK304 := n0_; have HB := n1_; clear n0_ n1_; (try clear hb); (try clear hb2); (try clear hk); (try clear hi)) | ((with_reducible refine gate_callee (f := 55) rfl ?_); refine goesL_ (some 13) rfl rfl Try.func55 (by kernel_rfl) rfl #[.string a0, .int .i64 5, .int .i64 7] rfl (by (try simp only [List.map_toArray, List.map_cons, List.map_nil]); first | done | rfl | (simp only [List.length_drop, List.length_take]; rfl)) ?_; (with_reducible refine (clock_field.calls k a0 5 7 t306 _ A4.out).mono ?_); rintro e w10 ⟨rfl, hb⟩; refine ⟨_, rfl, ?_⟩; have n0_ := Aside0.mk (blk_below (g := gb304) (o := .cells #[.int .i64 0, .int .i64 0, .int .i64 0, .int .i64 0, .int .i64 0, .int .i64 0] 28 (0, 0)) (by (with_reducible repeat (first | refine blk_drewN ?_ _ | refine blk_drew ?_ | refine blk_alloc ?_ _)); exact BK304.out) hb); have n1_ := Aside0.mk (below_step (by repeat (first | (with_reducible first | exact HB.out | apply below_alloc | apply pw_below_drewN | apply below_drew1 | refine below_set ?_ GE304.out) | exact HB.out)) hb); clear BK304; clear HB; have BK304 := n0_; have HB := n1_; clear n0_ n1_; (try clear hb); (try clear hb2); (try clear hk); (try clear hi)) | ((with_reducible refine gate_callee (f := 55) rfl ?_); refine goesL_ (some 15) rfl rfl Try.func55 (by kernel_rfl) rfl #[.string a0, .int .i64 17, .int .i64 19] rfl (by (try simp only [List.map_toArray, List.map_cons, List.map_nil]); first | done | rfl | (simp only [List.length_drop, List.length_take]; rfl)) ?_; (with_reducible refine (clock_field.calls k a0 17 19 t307 _ A5.out).mono ?_); rintro e w11 ⟨rfl, hb⟩; refine ⟨_, rfl, ?_⟩; have n0_ := Aside0.mk (blk_below (g := gb304) (o := .cells #[.int .i64 0, .int .i64 0, .int .i64 0, .int .i64 0, .int .i64 0, .int .i64 0] 28 (0, 0)) (by (with_reducible repeat (first | refine blk_drewN ?_ _ | refine blk_drew ?_ | refine blk_alloc ?_ _)); exact BK304.out) hb); have n1_ := Aside0.mk (below_step (by repeat (first | (with_reducible first | exact HB.out | apply below_alloc | apply pw_below_drewN | apply below_drew1 | refine below_set ?_ GE304.out) | exact HB.out)) hb); clear BK304; clear HB; have BK304 := n0_; have HB := n1_; clear n0_ n1_; (try clear hb); (try clear hb2); (try clear hk); (try clear hi)) | ((with_reducible refine gate_callee (f := 55) rfl ?_); refine goesL_ (some 17) rfl rfl Try.func55 (by kernel_rfl) rfl #[.string a0, .int .i64 20, .int .i64 22] rfl (by (try simp only [List.map_toArray, List.map_cons, List.map_nil]); first | done | rfl | (simp only [List.length_drop, List.length_take]; rfl)) ?_; (with_reducible refine (clock_field.calls k a0 20 22 t308 _ A6.out).mono ?_); rintro e w12 ⟨rfl, hb⟩; refine ⟨_, rfl, ?_⟩; have n0_ := Aside0.mk (blk_below (g := gb304) (o := .cells #[.int .i64 0, .int .i64 0, .int .i64 0, .int .i64 0, .int .i64 0, .int .i64 0] 28 (0, 0)) (by (with_reducible repeat (first | refine blk_drewN ?_ _ | refine blk_drew ?_ | refine blk_alloc ?_ _)); exact BK304.out) hb); have n1_ := Aside0.mk (below_step (by repeat (first | (with_reducible first | exact HB.out | apply below_alloc | apply pw_below_drewN | apply below_drew1 | refine below_set ?_ GE304.out) | exact HB.out)) hb); clear BK304; clear HB; have BK304 := n0_; have HB := n1_; clear n0_ n1_; (try clear hb); (try clear hb2); (try clear hk); (try clear hi)) | ((with_reducible refine gate_callee (f := 55) rfl ?_); refine goesL_ (some 19) rfl rfl Try.func55 (by kernel_rfl) rfl #[.string a0, .int .i64 23, .int .i64 25] rfl (by (try simp only [List.map_toArray, List.map_cons, List.map_nil]); first | done | rfl | (simp only [List.length_drop, List.length_take]; rfl)) ?_; (with_reducible refine (clock_field.calls k a0 23 25 t309 _ A7.out).mono ?_); rintro e w13 ⟨rfl, hb⟩; refine ⟨_, rfl, ?_⟩; have n0_ := Aside0.mk (blk_below (g := gb304) (o := .cells #[.int .i64 0, .int .i64 0, .int .i64 0, .int .i64 0, .int .i64 0, .int .i64 0] 28 (0, 0)) (by (with_reducible repeat (first | refine blk_drewN ?_ _ | refine blk_drew ?_ | refine blk_alloc ?_ _)); exact BK304.out) hb); have n1_ := Aside0.mk (below_step (by repeat (first | (with_reducible first | exact HB.out | apply below_alloc | apply pw_below_drewN | apply below_drew1 | refine below_set ?_ GE304.out) | exact HB.out)) hb); clear BK304; clear HB; have BK304 := n0_; have HB := n1_; clear n0_ n1_; (try clear hb); (try clear hb2); (try clear hk); (try clear hi)) | ((with_reducible refine gate_dst (N := 4) rfl ?_); refine box_event ?hg (N := 4) ?hd (cs := #[.int .i64 0, .int .i64 0, .int .i64 0, .int .i64 0, .int .i64 0, .int .i64 0]) (t := 28) ?hr ?_; (case hd => rfl); (case hg => rfl); (case hr => first | (go_simp; done) | (go_simp; rfl)); intro gb310 hg w14 hbox hb; have n0_ := Aside0.mk (blk_below (g := gb304) (o := .cells #[.int .i64 0, .int .i64 0, .int .i64 0, .int .i64 0, .int .i64 0, .int .i64 0] 28 (0, 0)) (by (with_reducible repeat (first | refine blk_drewN ?_ _ | refine blk_drew ?_ | refine blk_alloc ?_ _)); exact BK304.out) hb); have n1_ := Aside0.mk (below_step (by repeat (first | (with_reducible first | exact HB.out | apply below_alloc | apply pw_below_drewN | apply below_drew1 | refine below_set ?_ GE304.out) | exact HB.out)) hb); have n2_ := Aside0.mk (hbox); have n3_ := Aside0.mk ((by rw [hg]; exact (below_size (by repeat (first | (with_reducible first | exact HB.out | apply below_alloc | apply pw_below_drewN | apply below_drew1 | refine below_set ?_ GE304.out) | exact HB.out))) : w.heap.size ≤ gb310)); have n4_ := Aside0.mk ((by rw [hg]; exact (below_size (by repeat (first | (with_reducible first | exact HB.out | apply below_alloc | apply pw_below_drewN | apply below_drew1 | refine below_set ?_ GE304.out) | exact HB.out))) : w.heap.size ≤ gb310)); have n5_ := Aside0.mk ((by rw [hg]; exact Nat.ne_of_lt (blk_lt (g := gb304) (o := .cells #[.int .i64 0, .int .i64 0, .int .i64 0, .int .i64 0, .int .i64 0, .int .i64 0] 28 (0, 0)) (by (with_reducible repeat (first | refine blk_drewN ?_ _ | refine blk_drew ?_ | refine blk_alloc ?_ _)); exact BK304.out)) : gb304 ≠ gb310)); have n6_ := Aside0.mk ((by rw [hg]; exact Nat.ne_of_gt (blk_lt (g := gb304) (o := .cells #[.int .i64 0, .int .i64 0, .int .i64 0, .int .i64 0, .int .i64 0, .int .i64 0] 28 (0, 0)) (by (with_reducible repeat (first | refine blk_drewN ?_ _ | refine blk_drew ?_ | refine blk_alloc ?_ _)); exact BK304.out)) : gb310 ≠ gb304)); clear BK304; clear HB; have BK304 := n0_; have HB := n1_; have BK310 := n2_; have GW310 := n3_; have GE310 := n4_; have NB304_310 := n5_; have NB310_304 := n6_; clear n0_ n1_ n2_ n3_ n4_ n5_ n6_; clear hb hbox hg; have hnb15 := NB310_304.out; have hnc15 := NB304_310.out; have hcz16_0 : w14.cell? ⟨gb310, 0, none⟩ = some (.int .i64 0) := (blk_cell BK310.out 0).trans rfl; have hcz16_1 : w14.cell? ⟨gb310, 1, none⟩ = some (.int .i64 0) := (blk_cell BK310.out 1).trans rfl; have hcz16_2 : w14.cell? ⟨gb310, 2, none⟩ = some (.int .i64 0) := (blk_cell BK310.out 2).trans rfl; have hcz16_3 : w14.cell? ⟨gb310, 3, none⟩ = some (.int .i64 0) := (blk_cell BK310.out 3).trans rfl; have hcz16_4 : w14.cell? ⟨gb310, 4, none⟩ = some (.int .i64 0) := (blk_cell BK310.out 4).trans rfl; have hcz16_5 : w14.cell? ⟨gb310, 5, none⟩ = some (.int .i64 0) := (blk_cell BK310.out 5).trans rfl; have hfz16_0 := blk_frozen BK310.out 0; have hfz16_1 := blk_frozen BK310.out 1; have hfz16_2 := blk_frozen BK310.out 2; have hfz16_3 := blk_frozen BK310.out 3; have hfz16_4 := blk_frozen BK310.out 4; have hfz16_5 := blk_frozen BK310.out 5))
    go_loopg [21] k (fun kq v21 w' => ∃ (x21_1 : Int) (x311001_1 : Int), v21 = .int .i64 x21_1 ∧ Aside0 (clock_ReadWeb.l0 kq a0 x21_1 t305 x311001_1 t306 t307 t308 t309 = some (r1, r2, r3, r4, r5, r6, r7)) ∧ Aside0 (kq ≤ k) ∧ Aside0 (w'.heap[gb304]? = some (.cells #[.int .i64 0, .int .i64 0, .int .i64 0, .int .i64 0, .int .i64 0, .int .i64 0] 28 (0, 0))) ∧ Aside0 (w'.heap[gb310]? = some (.cells #[.int .i64 t305, .int .i64 x311001_1, .int .i64 t306, .int .i64 t307, .int .i64 t308, .int .i64 t309] 28 (0, 0))) ∧ Aside0 (Below w.heap.size w w'))
    case atStart => exact ⟨(0), (0), (by first | rfl | (simp; done) | (simp [*]; done)), H', ⟨Nat.le_refl _⟩, ⟨by (with_reducible repeat (first | refine blk_drewN ?_ _ | refine blk_drew ?_ | refine blk_alloc ?_ _)); refine blk_far ?_ NB304_310.out _; (with_reducible repeat (first | refine blk_drewN ?_ _ | refine blk_drew ?_ | refine blk_alloc ?_ _)); refine blk_far ?_ NB304_310.out _; (with_reducible repeat (first | refine blk_drewN ?_ _ | refine blk_drew ?_ | refine blk_alloc ?_ _)); refine blk_far ?_ NB304_310.out _; (with_reducible repeat (first | refine blk_drewN ?_ _ | refine blk_drew ?_ | refine blk_alloc ?_ _)); refine blk_far ?_ NB304_310.out _; (with_reducible repeat (first | refine blk_drewN ?_ _ | refine blk_drew ?_ | refine blk_alloc ?_ _)); refine blk_far ?_ NB304_310.out _; (with_reducible repeat (first | refine blk_drewN ?_ _ | refine blk_drew ?_ | refine blk_alloc ?_ _)); refine blk_far ?_ NB304_310.out _; (with_reducible repeat (first | refine blk_drewN ?_ _ | refine blk_drew ?_ | refine blk_alloc ?_ _)); exact BK304.out⟩, ⟨by (with_reducible repeat (first | refine blk_drewN ?_ _ | refine blk_drew ?_ | refine blk_alloc ?_ _)); refine blk_put (cs := #[.int .i64 t305, .int .i64 0, .int .i64 t306, .int .i64 t307, .int .i64 t308, .int .i64 0]) ?_ 5 _ rfl; (with_reducible repeat (first | refine blk_drewN ?_ _ | refine blk_drew ?_ | refine blk_alloc ?_ _)); refine blk_put (cs := #[.int .i64 t305, .int .i64 0, .int .i64 t306, .int .i64 t307, .int .i64 0, .int .i64 0]) ?_ 4 _ rfl; (with_reducible repeat (first | refine blk_drewN ?_ _ | refine blk_drew ?_ | refine blk_alloc ?_ _)); refine blk_put (cs := #[.int .i64 t305, .int .i64 0, .int .i64 t306, .int .i64 0, .int .i64 0, .int .i64 0]) ?_ 3 _ rfl; (with_reducible repeat (first | refine blk_drewN ?_ _ | refine blk_drew ?_ | refine blk_alloc ?_ _)); refine blk_put (cs := #[.int .i64 t305, .int .i64 0, .int .i64 0, .int .i64 0, .int .i64 0, .int .i64 0]) ?_ 2 _ rfl; (with_reducible repeat (first | refine blk_drewN ?_ _ | refine blk_drew ?_ | refine blk_alloc ?_ _)); refine blk_put (cs := #[.int .i64 t305, .int .i64 0, .int .i64 0, .int .i64 0, .int .i64 0, .int .i64 0]) ?_ 1 _ rfl; (with_reducible repeat (first | refine blk_drewN ?_ _ | refine blk_drew ?_ | refine blk_alloc ?_ _)); refine blk_put (cs := #[.int .i64 0, .int .i64 0, .int .i64 0, .int .i64 0, .int .i64 0, .int .i64 0]) ?_ 0 _ rfl; (with_reducible repeat (first | refine blk_drewN ?_ _ | refine blk_drew ?_ | refine blk_alloc ?_ _)); exact BK310.out⟩, ⟨by repeat (first | (with_reducible first | exact HB.out | apply below_alloc | apply pw_below_drewN | apply below_drew1 | refine below_set ?_ GE304.out | refine below_set ?_ GE310.out) | exact HB.out)⟩⟩
    case round =>
      clear H'
      try clear c1
      try clear c2
      try clear c2b0
      try clear c2b1
      try clear p2
      try clear c5
      try clear c15
      try clear hcz16_0
      try clear hcz16_1
      try clear hcz16_2
      try clear hcz16_3
      try clear hcz16_4
      try clear hcz16_5
      try clear hfz16_0
      try clear hfz16_1
      try clear hfz16_2
      try clear hfz16_3
      try clear hfz16_4
      try clear hfz16_5
      obtain ⟨x21_1, x311001_1, rfl, HA, HK1, BK304, BK310, HB⟩ := hrel
      cases gk with
      | zero => exact absurd HA.out (by simp [clock_ReadWeb.l0])
      | succ k1 =>
        have H := HA.out
        clear HA
        simp only [clock_ReadWeb.l0] at H
        by_cases c17 : x21_1 < 12
        · rw [if_pos c17] at H
          have c17b0 : decide (x21_1 < 12) = true := decide_eq_true c17
          clear c17
          replace H := Option.bind_eq_some_iff.mp H
          obtain ⟨t311, A180, H⟩ := H
          replace H : (if 8 ≤ 11 then (if 11 ≤ (a0.size : Int) then (if t311.toList = (a0.extract 8 11).toList then (clock_ReadWeb.l0 k1 a0 (wrap64 (x21_1 + 1)) t305 (wrap64 (x21_1 + 1)) t306 t307 t308 t309) else (clock_ReadWeb.l0 k1 a0 (wrap64 (x21_1 + 1)) t305 x311001_1 t306 t307 t308 t309)) else (none)) else (none)) = some (r1, r2, r3, r4, r5, r6, r7) := H
          have A18 := Aside0.mk A180
          clear A180
          by_cases c19 : 8 ≤ 11
          · rw [if_pos c19] at H
            have c19b0 := eq_true c19
            have c19b1 : decide (8 ≤ 11) = true := decide_eq_true c19
            clear c19
            by_cases c20 : 11 ≤ (a0.size : Int)
            · rw [if_pos c20] at H
              have c20b0 := eq_true c20
              have c20b1 : decide (11 ≤ (a0.size : Int)) = true := decide_eq_true c20
              clear c20
              by_cases c21 : t311.toList = (a0.extract 8 11).toList
              · rw [if_pos c21] at H
                have c21b0 : (t311.toList == (a0.extract 8 11).toList) = true := beq_iff_eq.mpr c21
                have c21b1 : (t311.toList != (a0.extract 8 11).toList) = false := bne_eq_false_iff_eq.mpr c21
                clear c21
                have H' := Aside0.mk H
                clear H
                try go_wp2
                have n0_ := Aside0.mk (blk_drew BK304.out)
                have n1_ := Aside0.mk (blk_drew BK310.out)
                have n2_ := Aside0.mk (below_drew1 HB.out)
                clear BK304
                clear BK310
                clear HB
                have BK304 := n0_
                have BK310 := n1_
                have HB := n2_
                clear n0_ n1_ n2_
                refine start_ (n := 5) (S := fun w' => True) (ds := []) #[false, false, false, false, false] (by kernel_rfl) rfl rfl trivial (fun hHeld => ?_)
                generalize wr.drew = w22 at BK304 BK310 HB hHeld ⊢
                refine pure_ (i := 0) (N := some 24) (v := ?_) (a' := ?_) #[true, false, false, false, false] rfl rfl (by kernel_rfl) (fun _ _ _ h => h) (Or.inl ⟨by rfl, ?_⟩) ?_ ?_
                rotate_left
                · intro w'
                  go_simp
                  with_reducible rfl
                rotate_left
                · simp only [Act.put, List.setIfInBounds_toArray, List.set_cons_zero, List.set_cons_succ, i64_w, i32_w]
                  rfl
                refine pure_ (i := 2) (N := some 26) (v := ?_) (a' := ?_) #[true, false, true, false, false] rfl rfl (by kernel_rfl) (fun _ _ _ h => h) (Or.inl ⟨by rfl, ?_⟩) ?_ ?_
                rotate_left
                · intro w'
                  go_simp
                  with_reducible rfl
                rotate_left
                · simp only [Act.put, List.setIfInBounds_toArray, List.set_cons_zero, List.set_cons_succ, i64_w, i32_w]
                  rfl
                refine pure_ (i := 3) (N := some 27) (v := ?_) (a' := ?_) #[true, false, true, true, false] rfl rfl (by kernel_rfl) (fun _ _ _ h => h) (Or.inl ⟨by rfl, ?_⟩) ?_ ?_
                rotate_left
                · intro w'
                  go_simp
                  with_reducible rfl
                rotate_left
                · simp only [Act.put, List.setIfInBounds_toArray, List.set_cons_zero, List.set_cons_succ, i64_w, i32_w]
                  rfl
                refine one_ (i := 1) (N := some 25) #[true, true, true, true, false] rfl rfl (by kernel_rfl) (by decide) (fun K hK => ?_)
                refine goes_ Try.func49 (by kernel_rfl) rfl #[.string (⟨#[74, 97, 110, 70, 101, 98, 77, 97, 114, 65, 112, 114, 77, 97, 121, 74, 117, 110, 74, 117, 108, 65, 117, 103, 83, 101, 112, 79, 99, 116, 78, 111, 118, 68, 101, 99]⟩ : ByteArray), .int .i64 x21_1] (by rfl) rfl rfl (by (try simp only [List.map_toArray, List.map_cons, List.map_nil]); first | done | rfl | (simp only [List.length_drop, List.length_take]; rfl)) ?_
                with_reducible refine (clock_name.calls (⟨#[74, 97, 110, 70, 101, 98, 77, 97, 114, 65, 112, 114, 77, 97, 121, 74, 117, 110, 74, 117, 108, 65, 117, 103, 83, 101, 112, 79, 99, 116, 78, 111, 118, 68, 101, 99]⟩ : ByteArray) x21_1 t311 _ A18.out).mono ?_
                rintro e w' ⟨rfl, ⟨nd, rfl⟩⟩
                refine ⟨_, rfl, ?_⟩
                refine hK.out _ _ trivial (fun hHeld => ?_)
                clear hK K
                refine norm_ (a' := ?_) ?_ ?_
                rotate_left
                · show Act.put _ (some 25) _ = _
                  simp only [Act.put, List.setIfInBounds_toArray, List.set_cons_zero, List.set_cons_succ, i64_w, i32_w]
                  rfl
                refine pure_ (i := 4) (N := some 28) (v := ?_) (a' := ?_) #[true, true, true, true, true] rfl rfl (by kernel_rfl) (fun _ _ _ h => h) (Or.inl ⟨by rfl, ?_⟩) ?_ ?_
                rotate_left
                · intro w'
                  go_simp
                  with_reducible rfl
                rotate_left
                · simp only [Act.put, List.setIfInBounds_toArray, List.set_cons_zero, List.set_cons_succ, i64_w, i32_w]
                  rfl
                refine done_ (by kernel_rfl) ?_
                have hnb23 := NB310_304.out
                have hnc23 := NB304_310.out
                have hcz24_0 : w22.cell? ⟨gb310, 0, none⟩ = some (.int .i64 t305) := (blk_cell BK310.out 0).trans rfl
                have hcz24_1 : w22.cell? ⟨gb310, 1, none⟩ = some (.int .i64 x311001_1) := (blk_cell BK310.out 1).trans rfl
                have hcz24_2 : w22.cell? ⟨gb310, 2, none⟩ = some (.int .i64 t306) := (blk_cell BK310.out 2).trans rfl
                have hcz24_3 : w22.cell? ⟨gb310, 3, none⟩ = some (.int .i64 t307) := (blk_cell BK310.out 3).trans rfl
                have hcz24_4 : w22.cell? ⟨gb310, 4, none⟩ = some (.int .i64 t308) := (blk_cell BK310.out 4).trans rfl
                have hcz24_5 : w22.cell? ⟨gb310, 5, none⟩ = some (.int .i64 t309) := (blk_cell BK310.out 5).trans rfl
                have hfz24_0 := blk_frozen BK310.out 0
                have hfz24_1 := blk_frozen BK310.out 1
                have hfz24_2 := blk_frozen BK310.out 2
                have hfz24_3 := blk_frozen BK310.out 3
                have hfz24_4 := blk_frozen BK310.out 4
                have hfz24_5 := blk_frozen BK310.out 5
                try go_wp2
                go_roundg k1
                case measure => have := HK1.out; omega
                case rel => exact ⟨(wrap64 (x21_1 + 1)), (wrap64 (x21_1 + 1)), (by first | rfl | (simp; done) | (simp [*]; done)), H', ⟨by have := HK1.out; omega⟩, ⟨by (with_reducible repeat (first | refine blk_drewN ?_ _ | refine blk_drew ?_ | refine blk_alloc ?_ _)); refine blk_far ?_ NB304_310.out _; (with_reducible repeat (first | refine blk_drewN ?_ _ | refine blk_drew ?_ | refine blk_alloc ?_ _)); exact BK304.out⟩, ⟨by (with_reducible repeat (first | refine blk_drewN ?_ _ | refine blk_drew ?_ | refine blk_alloc ?_ _)); refine blk_put (cs := #[.int .i64 t305, .int .i64 x311001_1, .int .i64 t306, .int .i64 t307, .int .i64 t308, .int .i64 t309]) ?_ 1 _ rfl; (with_reducible repeat (first | refine blk_drewN ?_ _ | refine blk_drew ?_ | refine blk_alloc ?_ _)); exact BK310.out⟩, ⟨by repeat (first | (with_reducible first | exact HB.out | apply below_alloc | apply pw_below_drewN | apply below_drew1 | refine below_set ?_ GE304.out | refine below_set ?_ GE310.out) | exact HB.out)⟩⟩
              · rw [if_neg c21] at H
                have c21b0 : (t311.toList == (a0.extract 8 11).toList) = false := beq_eq_false_iff_ne.mpr c21
                have c21b1 : (t311.toList != (a0.extract 8 11).toList) = true := bne_iff_ne.mpr c21
                have H' := Aside0.mk H
                clear H
                try go_wp2
                have n0_ := Aside0.mk (blk_drew BK304.out)
                have n1_ := Aside0.mk (blk_drew BK310.out)
                have n2_ := Aside0.mk (below_drew1 HB.out)
                clear BK304
                clear BK310
                clear HB
                have BK304 := n0_
                have BK310 := n1_
                have HB := n2_
                clear n0_ n1_ n2_
                refine start_ (n := 5) (S := fun w' => True) (ds := []) #[false, false, false, false, false] (by kernel_rfl) rfl rfl trivial (fun hHeld => ?_)
                generalize wr.drew = w25 at BK304 BK310 HB hHeld ⊢
                refine pure_ (i := 0) (N := some 24) (v := ?_) (a' := ?_) #[true, false, false, false, false] rfl rfl (by kernel_rfl) (fun _ _ _ h => h) (Or.inl ⟨by rfl, ?_⟩) ?_ ?_
                rotate_left
                · intro w'
                  go_simp
                  with_reducible rfl
                rotate_left
                · simp only [Act.put, List.setIfInBounds_toArray, List.set_cons_zero, List.set_cons_succ, i64_w, i32_w]
                  rfl
                refine pure_ (i := 2) (N := some 26) (v := ?_) (a' := ?_) #[true, false, true, false, false] rfl rfl (by kernel_rfl) (fun _ _ _ h => h) (Or.inl ⟨by rfl, ?_⟩) ?_ ?_
                rotate_left
                · intro w'
                  go_simp
                  with_reducible rfl
                rotate_left
                · simp only [Act.put, List.setIfInBounds_toArray, List.set_cons_zero, List.set_cons_succ, i64_w, i32_w]
                  rfl
                refine pure_ (i := 3) (N := some 27) (v := ?_) (a' := ?_) #[true, false, true, true, false] rfl rfl (by kernel_rfl) (fun _ _ _ h => h) (Or.inl ⟨by rfl, ?_⟩) ?_ ?_
                rotate_left
                · intro w'
                  go_simp
                  with_reducible rfl
                rotate_left
                · simp only [Act.put, List.setIfInBounds_toArray, List.set_cons_zero, List.set_cons_succ, i64_w, i32_w]
                  rfl
                refine one_ (i := 1) (N := some 25) #[true, true, true, true, false] rfl rfl (by kernel_rfl) (by decide) (fun K hK => ?_)
                refine goes_ Try.func49 (by kernel_rfl) rfl #[.string (⟨#[74, 97, 110, 70, 101, 98, 77, 97, 114, 65, 112, 114, 77, 97, 121, 74, 117, 110, 74, 117, 108, 65, 117, 103, 83, 101, 112, 79, 99, 116, 78, 111, 118, 68, 101, 99]⟩ : ByteArray), .int .i64 x21_1] (by rfl) rfl rfl (by (try simp only [List.map_toArray, List.map_cons, List.map_nil]); first | done | rfl | (simp only [List.length_drop, List.length_take]; rfl)) ?_
                with_reducible refine (clock_name.calls (⟨#[74, 97, 110, 70, 101, 98, 77, 97, 114, 65, 112, 114, 77, 97, 121, 74, 117, 110, 74, 117, 108, 65, 117, 103, 83, 101, 112, 79, 99, 116, 78, 111, 118, 68, 101, 99]⟩ : ByteArray) x21_1 t311 _ A18.out).mono ?_
                rintro e w' ⟨rfl, ⟨nd, rfl⟩⟩
                refine ⟨_, rfl, ?_⟩
                refine hK.out _ _ trivial (fun hHeld => ?_)
                clear hK K
                refine norm_ (a' := ?_) ?_ ?_
                rotate_left
                · show Act.put _ (some 25) _ = _
                  simp only [Act.put, List.setIfInBounds_toArray, List.set_cons_zero, List.set_cons_succ, i64_w, i32_w]
                  rfl
                refine pure_ (i := 4) (N := some 28) (v := ?_) (a' := ?_) #[true, true, true, true, true] rfl rfl (by kernel_rfl) (fun _ _ _ h => h) (Or.inl ⟨by rfl, ?_⟩) ?_ ?_
                rotate_left
                · intro w'
                  go_simp
                  with_reducible rfl
                rotate_left
                · simp only [Act.put, List.setIfInBounds_toArray, List.set_cons_zero, List.set_cons_succ, i64_w, i32_w]
                  rfl
                refine done_ (by kernel_rfl) ?_
                try go_wp2
                go_roundg k1
                case measure => have := HK1.out; omega
                case rel => exact ⟨(wrap64 (x21_1 + 1)), (x311001_1), (by first | rfl | (simp; done) | (simp [*]; done)), H', ⟨by have := HK1.out; omega⟩, ⟨by (with_reducible repeat (first | refine blk_drewN ?_ _ | refine blk_drew ?_ | refine blk_alloc ?_ _)); exact BK304.out⟩, ⟨by (with_reducible repeat (first | refine blk_drewN ?_ _ | refine blk_drew ?_ | refine blk_alloc ?_ _)); exact BK310.out⟩, ⟨by repeat (first | (with_reducible first | exact HB.out | apply below_alloc | apply pw_below_drewN | apply below_drew1 | refine below_set ?_ GE304.out | refine below_set ?_ GE310.out) | exact HB.out)⟩⟩
            · rw [if_neg c20] at H
              exact absurd H (by simp)
          · rw [if_neg c19] at H
            exact absurd H (by simp)
        · rw [if_neg c17] at H
          have c17b0 : decide (x21_1 < 12) = false := decide_eq_false c17
          clear c17
          replace H := Option.bind_eq_some_iff.mp H
          obtain ⟨t312, A260, H⟩ := H
          replace H : ((clock_kept.f t305 x311001_1 t306 t307 t308 t309 t312 a0).bind fun bt313 => (some (bt313.1, bt313.2.1, bt313.2.2.1, bt313.2.2.2.1, bt313.2.2.2.2.1, bt313.2.2.2.2.2.1, bt313.2.2.2.2.2.2))) = some (r1, r2, r3, r4, r5, r6, r7) := H
          have A26 := Aside0.mk A260
          clear A260
          replace H := Option.bind_eq_some_iff.mp H
          obtain ⟨⟨t313, t314, t315, t316, t317, t318, t319⟩, A270, H⟩ := H
          replace H : (some (t313, t314, t315, t316, t317, t318, t319)) = some (r1, r2, r3, r4, r5, r6, r7) := H
          have A27 := Aside0.mk A270
          clear A270
          simp only [Option.some.injEq, Prod.mk.injEq] at H
          obtain ⟨rfl, rfl, rfl, rfl, rfl, rfl, rfl⟩ := H
          try go_wp2
          have n0_ := Aside0.mk (blk_drew BK304.out)
          have n1_ := Aside0.mk (blk_drew BK310.out)
          have n2_ := Aside0.mk (below_drew1 HB.out)
          clear BK304
          clear BK310
          clear HB
          have BK304 := n0_
          have BK310 := n1_
          have HB := n2_
          clear n0_ n1_ n2_
          refine start_ (n := 9) (S := fun w' => w'.cell? ⟨gb310, 0, none⟩ = some (.int .i64 t305) ∧ w'.cell? ⟨gb310, 1, none⟩ = some (.int .i64 x311001_1) ∧ w'.cell? ⟨gb310, 2, none⟩ = some (.int .i64 t306) ∧ w'.cell? ⟨gb310, 3, none⟩ = some (.int .i64 t307) ∧ w'.cell? ⟨gb310, 4, none⟩ = some (.int .i64 t308) ∧ w'.cell? ⟨gb310, 5, none⟩ = some (.int .i64 t309)) (ds := []) #[false, false, false, false, false, false, false, false, false] (by kernel_rfl) rfl rfl ⟨(blk_cell BK310.out 0).trans rfl, (blk_cell BK310.out 1).trans rfl, (blk_cell BK310.out 2).trans rfl, (blk_cell BK310.out 3).trans rfl, (blk_cell BK310.out 4).trans rfl, (blk_cell BK310.out 5).trans rfl⟩ (fun hHeld => ?_); refine with_tabW clock_ReadWeb.tab10 clock_ReadWeb.bits10 (fun HT_ HW_ => ?_)
          generalize wr.drew = w28 at BK304 BK310 HB hHeld ⊢
          refine pure_ (i := 3) (N := some 36) (v := ?_) (a' := ?_) #[false, false, false, true, false, false, false, false, false] rfl rfl (any_of HT_.out (by kernel_rfl)) (fun _ _ _ h => h) (Or.inl ⟨by rfl, ?_⟩) ?_ ?_
          rotate_left
          · intro w'
            go_simp
            with_reducible rfl
          rotate_left
          · simp only [Act.put, List.setIfInBounds_toArray, List.set_cons_zero, List.set_cons_succ, i64_w, i32_w]
            rfl
          refine take_ (i := 0) (N := some 33) (v := ?_) (a' := ?_) #[true, false, false, true, false, false, false, false, false] rfl rfl (take_ofW HT_.out HW_.out (by kernel_rfl)) (fun _ _ _ h => h) (Or.inl ⟨by rfl, ?_⟩) hHeld ?_ ?_
          rotate_left
          · rintro w' ⟨s0, s1, s2, s3, s4, s5⟩
            go_simp
            with_reducible rfl
          rotate_left
          · simp only [Act.put, List.setIfInBounds_toArray, List.set_cons_zero, List.set_cons_succ, i64_w, i32_w]
            rfl
          refine take_ (i := 1) (N := some 34) (v := ?_) (a' := ?_) #[true, true, false, true, false, false, false, false, false] rfl rfl (take_ofW HT_.out HW_.out (by kernel_rfl)) (fun _ _ _ h => h) (Or.inl ⟨by rfl, ?_⟩) hHeld ?_ ?_
          rotate_left
          · rintro w' ⟨s0, s1, s2, s3, s4, s5⟩
            go_simp
            with_reducible rfl
          rotate_left
          · simp only [Act.put, List.setIfInBounds_toArray, List.set_cons_zero, List.set_cons_succ, i64_w, i32_w]
            rfl
          refine one_ (i := 2) (N := some 35) #[true, true, true, true, false, false, false, false, false] rfl rfl (one_of HT_.out (by kernel_rfl)) (by decide) (fun K hK => ?_)
          refine goes_ Try.func16 (by kernel_rfl) rfl #[.agg #[.int .i64 t305, .int .i64 x311001_1, .int .i64 t306, .int .i64 t307, .int .i64 t308, .int .i64 t309]] (by rfl) rfl rfl (by (try simp only [List.map_toArray, List.map_cons, List.map_nil]); first | done | rfl | (simp only [List.length_drop, List.length_take]; rfl)) ?_
          with_reducible refine (clock_Web.calls k1 t305 x311001_1 t306 t307 t308 t309 t312 _ A26.out).mono ?_
          rintro e w29 ⟨rfl, hb⟩
          refine ⟨_, rfl, ?_⟩
          have n0_ := Aside0.mk (blk_below (g := gb304) (o := .cells #[.int .i64 0, .int .i64 0, .int .i64 0, .int .i64 0, .int .i64 0, .int .i64 0] 28 (0, 0)) (by (with_reducible repeat (first | refine blk_drewN ?_ _ | refine blk_drew ?_ | refine blk_alloc ?_ _)); exact BK304.out) hb)
          have n1_ := Aside0.mk (blk_below (g := gb310) (o := .cells #[.int .i64 t305, .int .i64 x311001_1, .int .i64 t306, .int .i64 t307, .int .i64 t308, .int .i64 t309] 28 (0, 0)) (by (with_reducible repeat (first | refine blk_drewN ?_ _ | refine blk_drew ?_ | refine blk_alloc ?_ _)); exact BK310.out) hb)
          have n2_ := Aside0.mk (below_step (by repeat (first | (with_reducible first | exact HB.out | apply below_alloc | apply pw_below_drewN | apply below_drew1 | refine below_set ?_ GE304.out | refine below_set ?_ GE310.out) | exact HB.out)) hb)
          clear BK304
          clear BK310
          clear HB
          have BK304 := n0_
          have BK310 := n1_
          have HB := n2_
          clear n0_ n1_ n2_
          (try clear hb)
          (try clear hb2)
          (try clear hk)
          (try clear hi)
          refine hK.out _ _ ⟨(blk_cell BK310.out 0).trans rfl, (blk_cell BK310.out 1).trans rfl, (blk_cell BK310.out 2).trans rfl, (blk_cell BK310.out 3).trans rfl, (blk_cell BK310.out 4).trans rfl, (blk_cell BK310.out 5).trans rfl⟩ (fun hHeld => ?_)
          clear hK K
          refine norm_ (a' := ?_) ?_ ?_
          rotate_left
          · show Act.put _ (some 35) _ = _
            simp only [Act.put, List.setIfInBounds_toArray, List.set_cons_zero, List.set_cons_succ, i64_w, i32_w]
            rfl
          refine one_ (i := 4) (N := some 37) #[true, true, true, true, true, false, false, false, false] rfl rfl (one_of HT_.out (by kernel_rfl)) (by decide) (fun K hK => ?_)
          refine goes_ Try.func56 (by kernel_rfl) rfl #[.agg #[.int .i64 t305, .int .i64 x311001_1, .int .i64 t306, .int .i64 t307, .int .i64 t308, .int .i64 t309], .string t312, .string a0] (by rfl) rfl rfl (by (try simp only [List.map_toArray, List.map_cons, List.map_nil]); first | done | rfl | (simp only [List.length_drop, List.length_take]; rfl)) ?_
          with_reducible refine (clock_kept.calls t305 x311001_1 t306 t307 t308 t309 t312 a0 t313 t314 t315 t316 t317 t318 t319 _ A27.out).mono ?_
          rintro e w30 ⟨rfl, hb⟩
          refine ⟨_, rfl, ?_⟩
          have n0_ := Aside0.mk (blk_below (g := gb304) (o := .cells #[.int .i64 0, .int .i64 0, .int .i64 0, .int .i64 0, .int .i64 0, .int .i64 0] 28 (0, 0)) (by (with_reducible repeat (first | refine blk_drewN ?_ _ | refine blk_drew ?_ | refine blk_alloc ?_ _)); exact BK304.out) hb)
          have n1_ := Aside0.mk (blk_below (g := gb310) (o := .cells #[.int .i64 t305, .int .i64 x311001_1, .int .i64 t306, .int .i64 t307, .int .i64 t308, .int .i64 t309] 28 (0, 0)) (by (with_reducible repeat (first | refine blk_drewN ?_ _ | refine blk_drew ?_ | refine blk_alloc ?_ _)); exact BK310.out) hb)
          have n2_ := Aside0.mk (below_step (by repeat (first | (with_reducible first | exact HB.out | apply below_alloc | apply pw_below_drewN | apply below_drew1 | refine below_set ?_ GE304.out | refine below_set ?_ GE310.out) | exact HB.out)) hb)
          clear BK304
          clear BK310
          clear HB
          have BK304 := n0_
          have BK310 := n1_
          have HB := n2_
          clear n0_ n1_ n2_
          (try clear hb)
          (try clear hb2)
          (try clear hk)
          (try clear hi)
          refine hK.out _ _ ⟨(blk_cell BK310.out 0).trans rfl, (blk_cell BK310.out 1).trans rfl, (blk_cell BK310.out 2).trans rfl, (blk_cell BK310.out 3).trans rfl, (blk_cell BK310.out 4).trans rfl, (blk_cell BK310.out 5).trans rfl⟩ (fun hHeld => ?_)
          clear hK K
          refine norm_ (a' := ?_) ?_ ?_
          rotate_left
          · show Act.put _ (some 37) _ = _
            simp only [Act.put, List.setIfInBounds_toArray, List.set_cons_zero, List.set_cons_succ, i64_w, i32_w]
            rfl
          refine pure_ (i := 5) (N := some 38) (v := ?_) (a' := ?_) #[true, true, true, true, true, true, false, false, false] rfl rfl (any_of HT_.out (by kernel_rfl)) (fun _ _ _ h => h) (Or.inl ⟨by rfl, ?_⟩) ?_ ?_
          rotate_left
          · intro w'
            go_simp
            with_reducible rfl
          rotate_left
          · simp only [Act.put, List.setIfInBounds_toArray, List.set_cons_zero, List.set_cons_succ, i64_w, i32_w]
            rfl
          refine pure_ (i := 6) (N := some 39) (v := ?_) (a' := ?_) #[true, true, true, true, true, true, true, false, false] rfl rfl (any_of HT_.out (by kernel_rfl)) (fun _ _ _ h => h) (Or.inl ⟨by rfl, ?_⟩) ?_ ?_
          rotate_left
          · intro w'
            go_simp
            with_reducible rfl
          rotate_left
          · simp only [Act.put, List.setIfInBounds_toArray, List.set_cons_zero, List.set_cons_succ, i64_w, i32_w]
            rfl
          refine one_ (i := 7) (N := none) #[true, true, true, true, true, true, true, true, false] rfl rfl (one_of HT_.out (by kernel_rfl)) (by decide) (fun K hK => ?_)
          have hs31 : w30.cell? ⟨gb304, 0, none⟩ = some (.int .i64 0) := (blk_cell BK304.out 0).trans rfl
          have hfs31 := blk_frozen BK304.out 0
          have hns31_1 := NB310_304.out
          have hms31_1 := NB304_310.out
          have hs32 : w30.cell? ⟨gb304, 1, none⟩ = some (.int .i64 0) := (blk_cell BK304.out 1).trans rfl
          have hfs32 := blk_frozen BK304.out 1
          have hns32_1 := NB310_304.out
          have hms32_1 := NB304_310.out
          have hs33 : w30.cell? ⟨gb304, 2, none⟩ = some (.int .i64 0) := (blk_cell BK304.out 2).trans rfl
          have hfs33 := blk_frozen BK304.out 2
          have hns33_1 := NB310_304.out
          have hms33_1 := NB304_310.out
          have hs34 : w30.cell? ⟨gb304, 3, none⟩ = some (.int .i64 0) := (blk_cell BK304.out 3).trans rfl
          have hfs34 := blk_frozen BK304.out 3
          have hns34_1 := NB310_304.out
          have hms34_1 := NB304_310.out
          have hs35 : w30.cell? ⟨gb304, 4, none⟩ = some (.int .i64 0) := (blk_cell BK304.out 4).trans rfl
          have hfs35 := blk_frozen BK304.out 4
          have hns35_1 := NB310_304.out
          have hms35_1 := NB304_310.out
          have hs36 : w30.cell? ⟨gb304, 5, none⟩ = some (.int .i64 0) := (blk_cell BK304.out 5).trans rfl
          have hfs36 := blk_frozen BK304.out 5
          have hns36_1 := NB310_304.out
          have hms36_1 := NB304_310.out
          refine skip_ (w1 := ?_) (by rfl) rfl ?_ ?_
          rotate_left
          · go_simp
            rfl
          refine hK.out _ _ ⟨((cell_far (p := ⟨gb304, _, none⟩) NB310_304.out _).trans (((cell_far (p := ⟨gb304, _, none⟩) NB310_304.out _).trans (((cell_far (p := ⟨gb304, _, none⟩) NB310_304.out _).trans (((cell_far (p := ⟨gb304, _, none⟩) NB310_304.out _).trans (((cell_far (p := ⟨gb304, _, none⟩) NB310_304.out _).trans (((cell_far (p := ⟨gb304, _, none⟩) NB310_304.out _).trans (hHeld.1)))))))))))), ((cell_far (p := ⟨gb304, _, none⟩) NB310_304.out _).trans (((cell_far (p := ⟨gb304, _, none⟩) NB310_304.out _).trans (((cell_far (p := ⟨gb304, _, none⟩) NB310_304.out _).trans (((cell_far (p := ⟨gb304, _, none⟩) NB310_304.out _).trans (((cell_far (p := ⟨gb304, _, none⟩) NB310_304.out _).trans (((cell_far (p := ⟨gb304, _, none⟩) NB310_304.out _).trans (hHeld.2.1)))))))))))), ((cell_far (p := ⟨gb304, _, none⟩) NB310_304.out _).trans (((cell_far (p := ⟨gb304, _, none⟩) NB310_304.out _).trans (((cell_far (p := ⟨gb304, _, none⟩) NB310_304.out _).trans (((cell_far (p := ⟨gb304, _, none⟩) NB310_304.out _).trans (((cell_far (p := ⟨gb304, _, none⟩) NB310_304.out _).trans (((cell_far (p := ⟨gb304, _, none⟩) NB310_304.out _).trans (hHeld.2.2.1)))))))))))), ((cell_far (p := ⟨gb304, _, none⟩) NB310_304.out _).trans (((cell_far (p := ⟨gb304, _, none⟩) NB310_304.out _).trans (((cell_far (p := ⟨gb304, _, none⟩) NB310_304.out _).trans (((cell_far (p := ⟨gb304, _, none⟩) NB310_304.out _).trans (((cell_far (p := ⟨gb304, _, none⟩) NB310_304.out _).trans (((cell_far (p := ⟨gb304, _, none⟩) NB310_304.out _).trans (hHeld.2.2.2.1)))))))))))), ((cell_far (p := ⟨gb304, _, none⟩) NB310_304.out _).trans (((cell_far (p := ⟨gb304, _, none⟩) NB310_304.out _).trans (((cell_far (p := ⟨gb304, _, none⟩) NB310_304.out _).trans (((cell_far (p := ⟨gb304, _, none⟩) NB310_304.out _).trans (((cell_far (p := ⟨gb304, _, none⟩) NB310_304.out _).trans (((cell_far (p := ⟨gb304, _, none⟩) NB310_304.out _).trans (hHeld.2.2.2.2.1)))))))))))), ((cell_far (p := ⟨gb304, _, none⟩) NB310_304.out _).trans (((cell_far (p := ⟨gb304, _, none⟩) NB310_304.out _).trans (((cell_far (p := ⟨gb304, _, none⟩) NB310_304.out _).trans (((cell_far (p := ⟨gb304, _, none⟩) NB310_304.out _).trans (((cell_far (p := ⟨gb304, _, none⟩) NB310_304.out _).trans (((cell_far (p := ⟨gb304, _, none⟩) NB310_304.out _).trans (hHeld.2.2.2.2.2))))))))))))⟩ (fun hHeld => ?_)
          clear hK K
          refine pure_ (i := 8) (N := some 3) (v := ?_) (a' := ?_) #[true, true, true, true, true, true, true, true, true] rfl rfl (any_of HT_.out (by kernel_rfl)) (fun _ _ _ h => h) (Or.inl ⟨by rfl, ?_⟩) ?_ ?_
          rotate_left
          · intro w'
            go_simp
            with_reducible rfl
          rotate_left
          · simp only [Act.put, List.setIfInBounds_toArray, List.set_cons_zero, List.set_cons_succ, i64_w, i32_w]
            rfl
          refine done_ (done_of HT_.out (by kernel_rfl)) ?_
          try go_wp2
          refine bodyPost_ret (results_ct rfl _ _ gb304 28 #[.int .i64 t313, .int .i64 t314, .int .i64 t315, .int .i64 t316, .int .i64 t317, .int .i64 t318] (0, 0) _ rfl (by (with_reducible repeat (first | refine blk_drewN ?_ _ | refine blk_drew ?_ | refine blk_alloc ?_ _)); refine blk_put (cs := #[.int .i64 t313, .int .i64 t314, .int .i64 t315, .int .i64 t316, .int .i64 t317, .int .i64 0]) ?_ 5 _ rfl; (with_reducible repeat (first | refine blk_drewN ?_ _ | refine blk_drew ?_ | refine blk_alloc ?_ _)); refine blk_put (cs := #[.int .i64 t313, .int .i64 t314, .int .i64 t315, .int .i64 t316, .int .i64 0, .int .i64 0]) ?_ 4 _ rfl; (with_reducible repeat (first | refine blk_drewN ?_ _ | refine blk_drew ?_ | refine blk_alloc ?_ _)); refine blk_put (cs := #[.int .i64 t313, .int .i64 t314, .int .i64 t315, .int .i64 0, .int .i64 0, .int .i64 0]) ?_ 3 _ rfl; (with_reducible repeat (first | refine blk_drewN ?_ _ | refine blk_drew ?_ | refine blk_alloc ?_ _)); refine blk_put (cs := #[.int .i64 t313, .int .i64 t314, .int .i64 0, .int .i64 0, .int .i64 0, .int .i64 0]) ?_ 2 _ rfl; (with_reducible repeat (first | refine blk_drewN ?_ _ | refine blk_drew ?_ | refine blk_alloc ?_ _)); refine blk_put (cs := #[.int .i64 t313, .int .i64 0, .int .i64 0, .int .i64 0, .int .i64 0, .int .i64 0]) ?_ 1 _ rfl; (with_reducible repeat (first | refine blk_drewN ?_ _ | refine blk_drew ?_ | refine blk_alloc ?_ _)); refine blk_put (cs := #[.int .i64 0, .int .i64 0, .int .i64 0, .int .i64 0, .int .i64 0, .int .i64 0]) ?_ 0 _ rfl; (with_reducible repeat (first | refine blk_drewN ?_ _ | refine blk_drew ?_ | refine blk_alloc ?_ _)); exact BK304.out) Try.underlying28 rfl (by kernel_rfl)) rfl ?_
          exact ⟨by first | rfl | (simp [errW_none, errW_some] <;> rfl) | (simp [*, errW_none, errW_some] <;> rfl), by repeat (first | (with_reducible first | exact HB.out | apply below_alloc | apply pw_below_drewN | apply below_drew1 | refine below_set ?_ GE304.out | refine below_set ?_ GE310.out) | exact HB.out)⟩
  · rw [if_neg c2] at H
    have c2b0 : ((a0.size : Int) == 29) = false := beq_eq_false_iff_ne.mpr c2
    have c2b1 : ((a0.size : Int) != 29) = true := bne_iff_ne.mpr c2
    simp only [Option.some.injEq, Prod.mk.injEq] at H
    obtain ⟨rfl, rfl, rfl, rfl, rfl, rfl, rfl⟩ := H
    go_enter Try.func29, Try.ntmps29
    go_wp2_with (first | ((with_reducible refine gate_dst (N := 2) rfl ?_); refine box_event ?hg (N := 2) ?hd (cs := #[.int .i64 0, .int .i64 0, .int .i64 0, .int .i64 0, .int .i64 0, .int .i64 0]) (t := 28) ?hr ?_; (case hd => rfl); (case hg => rfl); (case hr => first | (go_simp; done) | (go_simp; rfl)); intro gb304 hg w37 hbox hb; have n0_ := Aside0.mk (below_step (by repeat (first | (with_reducible first | exact HB.out | apply below_alloc | apply pw_below_drewN | apply below_drew1) | exact HB.out)) hb); have n1_ := Aside0.mk (hbox); have n2_ := Aside0.mk ((by rw [hg]; exact (below_size (by repeat (first | (with_reducible first | exact HB.out | apply below_alloc | apply pw_below_drewN | apply below_drew1) | exact HB.out))) : w.heap.size ≤ gb304)); have n3_ := Aside0.mk ((by rw [hg]; exact (below_size (by repeat (first | (with_reducible first | exact HB.out | apply below_alloc | apply pw_below_drewN | apply below_drew1) | exact HB.out))) : w.heap.size ≤ gb304)); clear HB; have HB := n0_; have BK304 := n1_; have GW304 := n2_; have GE304 := n3_; clear n0_ n1_ n2_ n3_; clear hb hbox hg; have hcz38_0 : w37.cell? ⟨gb304, 0, none⟩ = some (.int .i64 0) := (blk_cell BK304.out 0).trans rfl; have hcz38_1 : w37.cell? ⟨gb304, 1, none⟩ = some (.int .i64 0) := (blk_cell BK304.out 1).trans rfl; have hcz38_2 : w37.cell? ⟨gb304, 2, none⟩ = some (.int .i64 0) := (blk_cell BK304.out 2).trans rfl; have hcz38_3 : w37.cell? ⟨gb304, 3, none⟩ = some (.int .i64 0) := (blk_cell BK304.out 3).trans rfl; have hcz38_4 : w37.cell? ⟨gb304, 4, none⟩ = some (.int .i64 0) := (blk_cell BK304.out 4).trans rfl; have hcz38_5 : w37.cell? ⟨gb304, 5, none⟩ = some (.int .i64 0) := (blk_cell BK304.out 5).trans rfl; have hfz38_0 := blk_frozen BK304.out 0; have hfz38_1 := blk_frozen BK304.out 1; have hfz38_2 := blk_frozen BK304.out 2; have hfz38_3 := blk_frozen BK304.out 3; have hfz38_4 := blk_frozen BK304.out 4; have hfz38_5 := blk_frozen BK304.out 5))
    refine bodyPost_ret (results_ct rfl _ _ gb304 28 #[.int .i64 0, .int .i64 0, .int .i64 0, .int .i64 0, .int .i64 0, .int .i64 0] (0, 0) _ rfl (by (with_reducible repeat (first | refine blk_drewN ?_ _ | refine blk_drew ?_ | refine blk_alloc ?_ _)); refine blk_put (cs := #[.int .i64 0, .int .i64 0, .int .i64 0, .int .i64 0, .int .i64 0, .int .i64 0]) ?_ 5 _ rfl; (with_reducible repeat (first | refine blk_drewN ?_ _ | refine blk_drew ?_ | refine blk_alloc ?_ _)); refine blk_put (cs := #[.int .i64 0, .int .i64 0, .int .i64 0, .int .i64 0, .int .i64 0, .int .i64 0]) ?_ 4 _ rfl; (with_reducible repeat (first | refine blk_drewN ?_ _ | refine blk_drew ?_ | refine blk_alloc ?_ _)); refine blk_put (cs := #[.int .i64 0, .int .i64 0, .int .i64 0, .int .i64 0, .int .i64 0, .int .i64 0]) ?_ 3 _ rfl; (with_reducible repeat (first | refine blk_drewN ?_ _ | refine blk_drew ?_ | refine blk_alloc ?_ _)); refine blk_put (cs := #[.int .i64 0, .int .i64 0, .int .i64 0, .int .i64 0, .int .i64 0, .int .i64 0]) ?_ 2 _ rfl; (with_reducible repeat (first | refine blk_drewN ?_ _ | refine blk_drew ?_ | refine blk_alloc ?_ _)); refine blk_put (cs := #[.int .i64 0, .int .i64 0, .int .i64 0, .int .i64 0, .int .i64 0, .int .i64 0]) ?_ 1 _ rfl; (with_reducible repeat (first | refine blk_drewN ?_ _ | refine blk_drew ?_ | refine blk_alloc ?_ _)); refine blk_put (cs := #[.int .i64 0, .int .i64 0, .int .i64 0, .int .i64 0, .int .i64 0, .int .i64 0]) ?_ 0 _ rfl; (with_reducible repeat (first | refine blk_drewN ?_ _ | refine blk_drew ?_ | refine blk_alloc ?_ _)); exact BK304.out) Try.underlying28 rfl (by kernel_rfl)) rfl ?_
    exact ⟨by first | rfl | (simp [errW_none, errW_some] <;> rfl) | (simp [*, errW_none, errW_some] <;> rfl), by repeat (first | (with_reducible first | exact HB.out | apply below_alloc | apply pw_below_drewN | apply below_drew1 | refine below_set ?_ GE304.out) | exact HB.out)⟩

end Go.Proofs.Ytdfghdppbfabfaa.P

/- Times that are read: the program's. -/
namespace Go.Proofs.Ytdfghdppbfabfaa.P
open Go.RowKit Go.Proofs.YtdfghdppbfabfaaW.PrintWords Go.Proofs.YtdfghdppbfabfaaW.PrintLast Go.Proofs.YtdfghdppbfabfaaW.PrintMore
set_option linter.unusedVariables false
set_option linter.unusedSimpArgs false

def fieldV (s : ByteArray) (a b : Nat) : Int := if (rdec (bytesOf (s.extract a b))).2 = true then (rdec (bytesOf (s.extract a b))).1 else -1
theorem ev_field (s : ByteArray) (a b : Int) (h0 : 0 ≤ a) (h1 : a ≤ b) (h2 : b ≤ (s.size : Int)) : Ev (fun k => clock_field.f k s a b) (fieldV s a.toNat b.toNat) := by
  unfold clock_field.f fieldV
  refine Ev.congr (fun k => by rw [if_pos h0, if_pos h1, if_pos h2]) ?_
  refine Ev.bind (ev_ReadDecimal _) ?_
  by_cases h : (rdec (bytesOf (s.extract a.toNat b.toNat))).2 = true
  · rw [if_pos h]
    exact Ev.congr (fun k => by rw [if_pos h]) (Ev.now _)
  · rw [if_neg h]
    exact Ev.congr (fun k => by rw [if_neg h]) (Ev.now _)
theorem rdec_d2 {n : Int} (h : 0 ≤ n ∧ n < 100) : rdec (d2 n) = (n, true) := by
  unfold rdec d2
  rw [if_neg (by simp), rdecG_ok (kind1_iff.2 (by omega)), rdecG_ok (kind1_iff.2 (by omega))]
  show (_, true) = (n, true)
  congr 1
  omega
theorem rdec_d4 {n : Int} (h : 0 ≤ n ∧ n < 10000) : rdec (d4 n) = (n, true) := by
  unfold rdec d4
  rw [if_neg (by simp), rdecG_ok (kind1_iff.2 (by omega)), rdecG_ok (kind1_iff.2 (by omega)), rdecG_ok (kind1_iff.2 (by omega)), rdecG_ok (kind1_iff.2 (by omega))]
  show (_, true) = (n, true)
  congr 1
  omega
theorem field_2 {s : ByteArray} {n : Int} {a b : Nat} (h : 0 ≤ n ∧ n < 100) (hs : ((bytesOf s).drop a).take (b - a) = d2 n) : fieldV s a b = n := by
  unfold fieldV
  rw [bytesOf_extract, hs, rdec_d2 h]
  rfl
theorem field_4 {s : ByteArray} {n : Int} {a b : Nat} (h : 0 ≤ n ∧ n < 10000) (hs : ((bytesOf s).drop a).take (b - a) = d4 n) : fieldV s a b = n := by
  unfold fieldV
  rw [bytesOf_extract, hs, rdec_d4 h]
  rfl
def zeroT : T7 := (0, 0, 0, 0, 0, 0, false)
theorem kept_yes (Y M D h m s : Int) {l : List Int} (x : ByteArray) (hl : l ≠ []) (hb : Bytes l) (hx : bytesOf x = l) : clock_kept.f Y M D h m s (strOfNums l) x = some (Y, M, D, h, m, s, true) := by
  unfold clock_kept.f
  have hn : ¬ (strOfNums l).toList = [] := by
    intro e
    have := congrArg List.length e
    rw [Go.ByteArray.toList_eq, Array.length_toList] at this
    have h2 := strOfNums_size l
    rw [show (strOfNums l).data.size = (strOfNums l).size from rfl, h2] at this
    exact hl (List.eq_nil_of_length_eq_zero this)
  rw [if_neg hn, if_pos ((toList_strOf l hb x).2 hx.symm)]
theorem kept_no (Y M D h m s : Int) {l : List Int} (x : ByteArray) (hb : Bytes l) (hx : bytesOf x ≠ l) : clock_kept.f Y M D h m s (strOfNums l) x = some zeroT := by
  unfold clock_kept.f zeroT
  by_cases h0 : (strOfNums l).toList = []
  · rw [if_pos h0]
  · rw [if_neg h0, if_neg (fun e => hx ((toList_strOf l hb x).1 e).symm)]
theorem d2_bytes {n : Int} (h : 0 ≤ n ∧ n < 100) : Bytes (d2 n) := by
  intro x hx; unfold d2 at hx; simp at hx; omega
theorem d4_bytes {n : Int} (h : 0 ≤ n ∧ n < 10000) : Bytes (d4 n) := by
  intro x hx; unfold d4 at hx; simp at hx; omega
theorem app_bytes {a b : List Int} (ha : Bytes a) (hb : Bytes b) : Bytes (a ++ b) := by
  intro x hx
  rcases List.mem_append.1 hx with h | h
  · exact ha x h
  · exact hb x h
theorem iso_bytes {Y M D h m s : Int} (hr : rightT Y M D h m s) : Bytes (isoL Y M D h m s) := by
  obtain ⟨q1, q2, q3, q4, q5, q6⟩ := right_bd hr
  unfold isoL
  repeat' first
    | refine app_bytes ?_ ?_
    | exact d4_bytes (by assumption)
    | exact d2_bytes (by assumption)
    | (intro x hx; simp at hx; omega)
theorem short_bytes {Y M D h m s : Int} (hr : rightT Y M D h m s) : Bytes (shortL Y M D h m s) := by
  obtain ⟨q1, q2, q3, q4, q5, q6⟩ := right_bd hr
  unfold shortL
  repeat' first
    | refine app_bytes ?_ ?_
    | exact d4_bytes (by assumption)
    | exact d2_bytes (by assumption)
    | (intro x hx; simp at hx; omega)
theorem iso_kept {x : ByteArray} (hx : x.size = 24) (hn : ¬ ∃ Y M D h m s : Int, rightT Y M D h m s ∧ bytesOf x = isoL Y M D h m s) (Y M D h m s : Int) : clock_kept.f Y M D h m s (isoS Y M D h m s) x = some zeroT := by
  unfold isoS
  by_cases hr : rightT Y M D h m s
  · rw [if_pos hr]
    exact kept_no Y M D h m s x (iso_bytes hr) (fun e => hn ⟨Y, M, D, h, m, s, hr, e⟩)
  · rw [if_neg hr]
    exact kept_no Y M D h m s x (by intro x hx; cases hx) (fun e => by have := congrArg List.length e; rw [bytesOf_len, hx] at this; simp at this)
theorem short_kept {x : ByteArray} (hx : x.size = 16) (hn : ¬ ∃ Y M D h m s : Int, rightT Y M D h m s ∧ bytesOf x = shortL Y M D h m s) (Y M D h m s : Int) : clock_kept.f Y M D h m s (shortS Y M D h m s) x = some zeroT := by
  unfold shortS
  by_cases hr : rightT Y M D h m s
  · rw [if_pos hr]
    exact kept_no Y M D h m s x (short_bytes hr) (fun e => hn ⟨Y, M, D, h, m, s, hr, e⟩)
  · rw [if_neg hr]
    exact kept_no Y M D h m s x (by intro x hx; cases hx) (fun e => by have := congrArg List.length e; rw [bytesOf_len, hx] at this; simp at this)
theorem iso_size {x : ByteArray} {Y M D h m s : Int} (hx : bytesOf x = isoL Y M D h m s) : x.size = 24 := by rw [← bytesOf_len, hx]; rfl
theorem short_size {x : ByteArray} {Y M D h m s : Int} (hx : bytesOf x = shortL Y M D h m s) : x.size = 16 := by rw [← bytesOf_len, hx]; rfl
theorem ev_ReadIso_yes {x : ByteArray} {Y M D h m s : Int} (hr : rightT Y M D h m s) (hx : bytesOf x = isoL Y M D h m s) : Ev (fun k => clock_ReadIso.f k x) ((Y, M, D, h, m, s, true) : T7) := by
  obtain ⟨q1, q2, q3, q4, q5, q6⟩ := right_bd hr
  have hz := iso_size hx
  unfold clock_ReadIso.f
  refine Ev.congr (fun k => by rw [if_pos (by omega)]) ?_
  refine Ev.bind (ev_field x 0 4 (by omega) (by omega) (by omega)) ?_
  refine Ev.bind (ev_field x 5 7 (by omega) (by omega) (by omega)) ?_
  refine Ev.bind (ev_field x 8 10 (by omega) (by omega) (by omega)) ?_
  refine Ev.bind (ev_field x 11 13 (by omega) (by omega) (by omega)) ?_
  refine Ev.bind (ev_field x 14 16 (by omega) (by omega) (by omega)) ?_
  refine Ev.bind (ev_field x 17 19 (by omega) (by omega) (by omega)) ?_
  rw [show fieldV x (Int.toNat 0) (Int.toNat 4) = Y from field_4 q1 (by rw [hx]; rfl), show fieldV x (Int.toNat 5) (Int.toNat 7) = M from field_2 q2 (by rw [hx]; rfl), show fieldV x (Int.toNat 8) (Int.toNat 10) = D from field_2 q3 (by rw [hx]; rfl),
    show fieldV x (Int.toNat 11) (Int.toNat 13) = h from field_2 q4 (by rw [hx]; rfl), show fieldV x (Int.toNat 14) (Int.toNat 16) = m from field_2 q5 (by rw [hx]; rfl), show fieldV x (Int.toNat 17) (Int.toNat 19) = s from field_2 q6 (by rw [hx]; rfl)]
  refine Ev.bind (ev_Iso Y M D h m s) ?_
  unfold isoS
  rw [if_pos hr]
  exact Ev.congr (fun k => by rw [kept_yes Y M D h m s x (by simp [isoL, d4]) (iso_bytes hr) hx, Option.bind_some]) (Ev.now _)
theorem ev_ReadIso_no {x : ByteArray} (hn : ¬ ∃ Y M D h m s : Int, rightT Y M D h m s ∧ bytesOf x = isoL Y M D h m s) : Ev (fun k => clock_ReadIso.f k x) zeroT := by
  unfold clock_ReadIso.f
  by_cases hz : x.size = 24
  · refine Ev.congr (fun k => by rw [if_pos (by omega)]) ?_
    refine Ev.bind (ev_field x 0 4 (by omega) (by omega) (by omega)) ?_
    refine Ev.bind (ev_field x 5 7 (by omega) (by omega) (by omega)) ?_
    refine Ev.bind (ev_field x 8 10 (by omega) (by omega) (by omega)) ?_
    refine Ev.bind (ev_field x 11 13 (by omega) (by omega) (by omega)) ?_
    refine Ev.bind (ev_field x 14 16 (by omega) (by omega) (by omega)) ?_
    refine Ev.bind (ev_field x 17 19 (by omega) (by omega) (by omega)) ?_
    refine Ev.bind (ev_Iso _ _ _ _ _ _) ?_
    exact Ev.congr (fun k => by rw [iso_kept hz hn, Option.bind_some]) (Ev.now _)
  · exact Ev.congr (fun k => by rw [if_neg (by omega)]; rfl) (Ev.now _)
theorem ev_ReadShort_yes {x : ByteArray} {Y M D h m s : Int} (hr : rightT Y M D h m s) (hx : bytesOf x = shortL Y M D h m s) : Ev (fun k => clock_ReadShort.f k x) ((Y, M, D, h, m, s, true) : T7) := by
  obtain ⟨q1, q2, q3, q4, q5, q6⟩ := right_bd hr
  have hz := short_size hx
  unfold clock_ReadShort.f
  refine Ev.congr (fun k => by rw [if_pos (by omega)]) ?_
  refine Ev.bind (ev_field x 0 4 (by omega) (by omega) (by omega)) ?_
  refine Ev.bind (ev_field x 4 6 (by omega) (by omega) (by omega)) ?_
  refine Ev.bind (ev_field x 6 8 (by omega) (by omega) (by omega)) ?_
  refine Ev.bind (ev_field x 9 11 (by omega) (by omega) (by omega)) ?_
  refine Ev.bind (ev_field x 11 13 (by omega) (by omega) (by omega)) ?_
  refine Ev.bind (ev_field x 13 15 (by omega) (by omega) (by omega)) ?_
  rw [show fieldV x (Int.toNat 0) (Int.toNat 4) = Y from field_4 q1 (by rw [hx]; rfl), show fieldV x (Int.toNat 4) (Int.toNat 6) = M from field_2 q2 (by rw [hx]; rfl), show fieldV x (Int.toNat 6) (Int.toNat 8) = D from field_2 q3 (by rw [hx]; rfl),
    show fieldV x (Int.toNat 9) (Int.toNat 11) = h from field_2 q4 (by rw [hx]; rfl), show fieldV x (Int.toNat 11) (Int.toNat 13) = m from field_2 q5 (by rw [hx]; rfl), show fieldV x (Int.toNat 13) (Int.toNat 15) = s from field_2 q6 (by rw [hx]; rfl)]
  refine Ev.bind (ev_Short Y M D h m s) ?_
  unfold shortS
  rw [if_pos hr]
  exact Ev.congr (fun k => by rw [kept_yes Y M D h m s x (by simp [shortL, d4]) (short_bytes hr) hx, Option.bind_some]) (Ev.now _)
theorem ev_ReadShort_no {x : ByteArray} (hn : ¬ ∃ Y M D h m s : Int, rightT Y M D h m s ∧ bytesOf x = shortL Y M D h m s) : Ev (fun k => clock_ReadShort.f k x) zeroT := by
  unfold clock_ReadShort.f
  by_cases hz : x.size = 16
  · refine Ev.congr (fun k => by rw [if_pos (by omega)]) ?_
    refine Ev.bind (ev_field x 0 4 (by omega) (by omega) (by omega)) ?_
    refine Ev.bind (ev_field x 4 6 (by omega) (by omega) (by omega)) ?_
    refine Ev.bind (ev_field x 6 8 (by omega) (by omega) (by omega)) ?_
    refine Ev.bind (ev_field x 9 11 (by omega) (by omega) (by omega)) ?_
    refine Ev.bind (ev_field x 11 13 (by omega) (by omega) (by omega)) ?_
    refine Ev.bind (ev_field x 13 15 (by omega) (by omega) (by omega)) ?_
    refine Ev.bind (ev_Short _ _ _ _ _ _) ?_
    exact Ev.congr (fun k => by rw [short_kept hz hn, Option.bind_some]) (Ev.now _)
  · exact Ev.congr (fun k => by rw [if_neg (by omega)]; rfl) (Ev.now _)
end Go.Proofs.Ytdfghdppbfabfaa.P
