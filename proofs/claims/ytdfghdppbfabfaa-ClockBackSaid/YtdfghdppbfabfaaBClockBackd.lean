/- ClockBack: for every int n of seconds: either its time is told, and these seconds come back, and each of its three forms is read back as it; or n lies out of the years 1 to 9999 and no time is told. -/
import Derived.Test.YtdfghdppbfabfaaBClockBackc
import Derived.Test.YtdfghdppbfabfaaBClockBacka
import Derived.Test.YtdfghdppbfabfaaBClockBackb
import Derived.Test.YtdfghdppbfabfaaRows
import Derived.WalkKit
import Derived.ProofKit
import Derived.OpenShut
import Derived.ShutString
import Derived.ChangeOld
import Derived.Below
import Derived.SizedLaws
set_option linter.unusedVariables false
set_option linter.unusedSimpArgs false

/- The calendar: days, months, years, the program's and the reference's. -/
namespace Go.Proofs.Ytdfghdppbfabfaa.P
open Go.RowKit Go.Proofs.YtdfghdppbfabfaaW.PrintWords Go.Proofs.YtdfghdppbfabfaaW.PrintLast Go.Proofs.YtdfghdppbfabfaaW.PrintMore
set_option linter.unusedVariables false
set_option linter.unusedSimpArgs false

theorem wk64 {n : Int} (h : -9223372036854775808 ≤ n ∧ n ≤ 9223372036854775807) : wrap64 n = n := IntWalk.wrap64_in n h
theorem tdiv_nn {a : Int} (b : Int) (h : 0 ≤ a) : Int.tdiv a b = a / b := Int.tdiv_eq_ediv_of_nonneg h
theorem tmod_nn {a : Int} (b : Int) (h : 0 ≤ a) : Int.tmod a b = a % b := Int.tmod_eq_emod_of_nonneg h
def aheadY (y : Int) : Int := (y - 1) * 365 + (y - 1) / 4 - (y - 1) / 100 + (y - 1) / 400
def lenY (y : Int) : Int := if leapY y then 366 else 365
theorem leap_iff {y : Int} (h : 0 ≤ y) : leapY y ↔ y % 4 = 0 ∧ (y % 100 ≠ 0 ∨ y % 400 = 0) := by
  unfold leapY
  rw [tmod_nn 4 h, tmod_nn 100 h, tmod_nn 400 h]
theorem lenY_bd (y : Int) : 365 ≤ lenY y ∧ lenY y ≤ 366 := by unfold lenY; split <;> omega
theorem ahead_succ {y : Int} (h : 1 ≤ y) : aheadY (y + 1) = aheadY y + lenY y := by
  unfold aheadY lenY
  have hi := leap_iff (show 0 ≤ y by omega)
  by_cases hl : leapY y
  · rw [if_pos hl]
    have := hi.1 hl
    omega
  · rw [if_neg hl]
    have : ¬ (y % 4 = 0 ∧ (y % 100 ≠ 0 ∨ y % 400 = 0)) := fun e => hl (hi.2 e)
    omega
theorem ahead_mono {a b : Int} (h : a ≤ b) : aheadY a ≤ aheadY b := by
  by_cases e : a = b
  · rw [e]; exact Int.le_refl _
  · unfold aheadY; omega
theorem ahead_lt {a b : Int} (h : aheadY a < aheadY b) : a < b := by
  by_cases e : a < b
  · exact e
  · have := ahead_mono (show b ≤ a by omega); omega
def cumM (y : Int) : Nat → Int
  | 0 => 0
  | n + 1 => cumM y n + daysOf y ((n : Int) + 1)
theorem days_bd (y m : Int) : 0 ≤ daysOf y m ∧ daysOf y m ≤ 31 := by
  unfold daysOf
  split
  · omega
  · split
    · split <;> omega
    · split <;> omega
theorem days_pos {y m : Int} (h : 1 ≤ daysOf y m) : 1 ≤ m ∧ m ≤ 12 := by
  by_cases e : m < 1 ∨ m > 12
  · unfold daysOf at h; rw [if_pos e] at h; omega
  · omega
theorem cum_12 (y : Int) : cumM y 12 = lenY y := by
  unfold lenY
  by_cases h : leapY y
  · simp [cumM, daysOf, h]
  · simp [cumM, daysOf, h]
theorem cum_mono (y : Int) {a b : Nat} (h : a ≤ b) : cumM y a ≤ cumM y b := by
  induction h with
  | refl => exact Int.le_refl _
  | step _ ih => have := days_bd y; rename_i m _; have := this (m + 1); rw [cumM]; omega
theorem cum_bd (y : Int) {a : Nat} (h : a ≤ 12) : 0 ≤ cumM y a ∧ cumM y a ≤ 366 := by
  have h1 := cum_mono y h
  have h2 := cum_mono y (Nat.zero_le a)
  rw [cum_12] at h1
  have := lenY_bd y
  rw [show cumM y 0 = 0 from rfl] at h2
  omega
def dayN (Y M D : Int) : Int := aheadY Y + cumM Y (M - 1).toNat + D - 1
structure IsT (N Y M D : Int) : Prop where
  y0 : 1 ≤ Y
  y1 : Y ≤ 9999
  m0 : 1 ≤ M
  m1 : M ≤ 12
  d0 : 1 ≤ D
  d1 : D ≤ daysOf Y M
  n : dayN Y M D = N
theorem month_step {Y M : Int} (h : 1 ≤ M) : cumM Y M.toNat = cumM Y (M - 1).toNat + daysOf Y M := by
  obtain ⟨i, rfl⟩ : ∃ i : Nat, M = i + 1 := ⟨(M - 1).toNat, by omega⟩
  rw [show ((i : Int) + 1).toNat = i + 1 by omega, show ((i : Int) + 1 - 1).toNat = i by omega, cumM]
theorem IsT.within {N Y M D : Int} (h : IsT N Y M D) : aheadY Y ≤ N ∧ N < aheadY (Y + 1) := by
  have hs := ahead_succ h.y0
  have hm := month_step (Y := Y) h.m0
  have hc := cum_mono Y (show M.toNat ≤ 12 by have := h.m1; omega)
  have hc0 := cum_bd Y (show (M - 1).toNat ≤ 12 by have := h.m1; omega)
  rw [cum_12] at hc
  have := h.n
  have := h.d0
  have := h.d1
  unfold dayN at *
  omega
/-- Days in order are days of years, months and days in order. -/
theorem IsT.lt {N Y M D N' Y' M' D' : Int} (h : IsT N Y M D) (h' : IsT N' Y' M' D') (hl : Y < Y' ∨ (Y = Y' ∧ (M < M' ∨ (M = M' ∧ D < D')))) : N < N' := by
  have w1 := h.within
  have w2 := h'.within
  rcases hl with hl | ⟨rfl, hl | ⟨rfl, hl⟩⟩
  · have := ahead_mono (show Y + 1 ≤ Y' by omega)
    omega
  · have e1 := h.n
    have e2 := h'.n
    have hm := month_step (Y := Y) h.m0
    have hc := cum_mono Y (show M.toNat ≤ (M' - 1).toNat by have := h.m0; omega)
    have := h.d1
    have := h'.d0
    unfold dayN at e1 e2
    omega
  · have e1 := h.n
    have e2 := h'.n
    unfold dayN at e1 e2
    omega
theorem IsT.one {N Y M D Y' M' D' : Int} (h : IsT N Y M D) (h' : IsT N Y' M' D') : Y = Y' ∧ M = M' ∧ D = D' := by
  have a : ¬ (Y < Y' ∨ (Y = Y' ∧ (M < M' ∨ (M = M' ∧ D < D')))) := fun e => Int.lt_irrefl _ (h.lt h' e)
  have b : ¬ (Y' < Y ∨ (Y' = Y ∧ (M' < M ∨ (M' = M ∧ D' < D)))) := fun e => Int.lt_irrefl _ (h'.lt h e)
  omega
theorem ahead_eq {y : Int} (h : 1 ≤ y) (h2 : y ≤ 100000) : clock_ahead.f y = some (aheadY y) := by
  unfold clock_ahead.f aheadY
  rw [wk64 (n := y - 1) (by omega), wk64 (n := (y - 1) * 365) (by omega), tdiv_nn 4 (by omega), tdiv_nn 100 (by omega), tdiv_nn 400 (by omega), wk64 (n := (y - 1) / 4) (by omega), wk64 (n := (y - 1) / 100) (by omega), wk64 (n := (y - 1) / 400) (by omega)]
  rw [wk64 (n := (y - 1) * 365 + (y - 1) / 4) (by omega), wk64 (n := (y - 1) * 365 + (y - 1) / 4 - (y - 1) / 100) (by omega), wk64 (by omega)]
theorem days_eq (y m : Int) : clock_Days.f y m = some (daysOf y m) := rfl
end Go.Proofs.Ytdfghdppbfabfaa.P

/- Times: right ones, their seconds and weekdays, and the time of any seconds; the program's and the reference's. -/
namespace Go.Proofs.Ytdfghdppbfabfaa.P
open Go.RowKit Go.Proofs.YtdfghdppbfabfaaW.PrintWords Go.Proofs.YtdfghdppbfabfaaW.PrintLast Go.Proofs.YtdfghdppbfabfaaW.PrintMore
set_option linter.unusedVariables false
set_option linter.unusedSimpArgs false

def rightT (Y M D h m s : Int) : Prop := (1 ≤ Y ∧ Y ≤ 9999) ∧ (1 ≤ D ∧ D ≤ daysOf Y M) ∧ (0 ≤ h ∧ h ≤ 23) ∧ (0 ≤ m ∧ m ≤ 59) ∧ (0 ≤ s ∧ s ≤ 59)
instance (Y M D h m s : Int) : Decidable (rightT Y M D h m s) := by unfold rightT; exact inferInstance
theorem in_eq (a b c : Int) : clock_Time_right_1.f a b c = some (decide (b ≤ a ∧ a ≤ c)) := by
  unfold clock_Time_right_1.f
  by_cases h : a ≥ b
  · rw [if_pos h]; congr 1; simp [h]
  · rw [if_neg h]; congr 1; symm; rw [decide_eq_false_iff_not]; omega
theorem right_eq (Y M D h m s : Int) : clock_Time_right.f Y M D h m s = some (decide (rightT Y M D h m s)) := by
  unfold clock_Time_right.f rightT
  simp only [in_eq, days_eq, Option.bind_some]
  by_cases h1 : 1 ≤ Y ∧ Y ≤ 9999
  · by_cases h2 : 1 ≤ D ∧ D ≤ daysOf Y M
    · by_cases h3 : 0 ≤ h ∧ h ≤ 23
      · by_cases h4 : 0 ≤ m ∧ m ≤ 59
        · simp [h1, h2, h3, h4]
        · simp [h1, h2, h3, h4]
      · simp [h1, h2, h3]
    · simp [h1, h2]
  · simp [h1]
/-- The days of the months ahead are added up. -/
theorem ev_day_loop (Y D h m s : Int) (j : Nat) (hj : j ≤ 11) : ∀ (d i : Nat) (x : Int), i + d = j → -1000000000 ≤ x → x ≤ 1000000000 + 31 * i →
    Ev (fun k => clock_Time_day.l0 k x ((i : Int) + 1) Y ((j : Int) + 1) D h m s) (x + cumM Y j - cumM Y i) := by
  intro d
  induction d with
  | zero =>
    intro i x hi h0 h1
    obtain rfl : i = j := by omega
    exact Ev.step (fun k => by rw [clock_Time_day.l0, if_neg (by omega)]) (by rw [show x + cumM Y i - cumM Y i = x by omega]; exact Ev.now _)
  | succ d ih =>
    intro i x hi h0 h1
    have hb := days_bd Y ((i : Int) + 1)
    have e := ih (i + 1) (x + daysOf Y ((i : Int) + 1)) (by omega) (by omega) (by omega)
    rw [cumM] at e
    refine Ev.step (fun k => by rw [clock_Time_day.l0, if_pos (by omega), days_eq, Option.bind_some, wk64 (n := x + daysOf Y ((i : Int) + 1)) (by omega), wk64 (n := (i : Int) + 1 + 1) (by omega)]) ?_
    rw [show x + cumM Y j - cumM Y i = x + daysOf Y (↑i + 1) + cumM Y j - (cumM Y i + daysOf Y (↑i + 1)) by omega]
    exact e
theorem ev_day {Y M D h m s : Int} (hY : 1 ≤ Y ∧ Y ≤ 9999) (hM : 1 ≤ M ∧ M ≤ 12) (hD : 0 ≤ D ∧ D ≤ 1000) : Ev (fun k => clock_Time_day.f k Y M D h m s) (dayN Y M D) := by
  have ha0 := ahead_mono hY.1
  have ha1 := ahead_mono hY.2
  rw [show aheadY 1 = 0 by decide] at ha0
  rw [show aheadY 9999 = 3651694 by decide] at ha1
  obtain ⟨j, rfl⟩ : ∃ j : Nat, M = j + 1 := ⟨(M - 1).toNat, by omega⟩
  unfold clock_Time_day.f dayN
  refine Ev.congr (fun k => by rw [ahead_eq hY.1 (by omega), Option.bind_some, wk64 (n := aheadY Y + D) (by omega), wk64 (n := aheadY Y + D - 1) (by omega)]) ?_
  have e := ev_day_loop Y D h m s j (by omega) j 0 (aheadY Y + D - 1) (by omega) (by omega) (by omega)
  rw [show ((0 : Nat) : Int) + 1 = 1 by rfl, show cumM Y 0 = 0 from rfl] at e
  rw [show ((j : Int) + 1 - 1).toNat = j by omega, show aheadY Y + cumM Y j + D - 1 = aheadY Y + D - 1 + cumM Y j - 0 by omega]
  exact e
theorem right_month {Y M D h m s : Int} (hr : rightT Y M D h m s) : 1 ≤ M ∧ M ≤ 12 := days_pos (y := Y) (by unfold rightT at hr; omega)
theorem right_IsT {Y M D h m s : Int} (hr : rightT Y M D h m s) : IsT (dayN Y M D) Y M D := by
  have hm := right_month hr
  unfold rightT at hr
  exact ⟨hr.1.1, hr.1.2, hm.1, hm.2, hr.2.1.1, hr.2.1.2, rfl⟩
theorem IsT.bd {N Y M D : Int} (h : IsT N Y M D) : 0 ≤ N ∧ N ≤ 3652058 := by
  have hw := h.within
  have h0 := ahead_mono h.y0
  have h1 := ahead_mono (show Y + 1 ≤ 10000 by have := h.y1; omega)
  rw [show aheadY 1 = 0 by decide] at h0
  rw [show aheadY 10000 = 3652059 by decide] at h1
  omega
def secT (Y M D h m s : Int) : Int := (dayN Y M D - 719162) * 86400 + h * 3600 + m * 60 + s
noncomputable def secR (Y M D h m s : Int) : Int × Bool := if rightT Y M D h m s then (secT Y M D h m s, true) else (0, false)
theorem ev_Seconds (Y M D h m s : Int) : Ev (fun k => clock_Seconds.f k Y M D h m s) (secR Y M D h m s) := by
  unfold clock_Seconds.f secR
  by_cases hr : rightT Y M D h m s
  · refine Ev.congr (fun k => by rw [right_eq, Option.bind_some, if_pos (decide_eq_true hr)]) ?_
    have hb := (right_IsT hr).bd
    have hm := right_month hr
    rw [if_pos hr]
    unfold secT
    have hd := days_bd Y M
    unfold rightT at hr
    refine Ev.bind (ev_day hr.1 hm (by omega)) ?_
    generalize dayN Y M D = N at *
    exact Ev.congr (fun k => by rw [wk64 (n := N - 719162) (by omega), wk64 (n := (N - 719162) * 86400) (by omega), wk64 (n := h * 3600) (by omega), wk64 (n := m * 60) (by omega), wk64 (n := (N - 719162) * 86400 + h * 3600) (by omega), wk64 (n := (N - 719162) * 86400 + h * 3600 + m * 60) (by omega), wk64 (n := (N - 719162) * 86400 + h * 3600 + m * 60 + s) (by omega)]) (Ev.now _)
  · rw [if_neg hr]
    exact Ev.congr (fun k => by rw [right_eq, Option.bind_some, if_neg (by simpa using hr)]) (Ev.now _)
noncomputable def weekT (Y M D h m s : Int) : Int := if rightT Y M D h m s then (dayN Y M D + 1) % 7 else -1
theorem ev_Weekday (Y M D h m s : Int) : Ev (fun k => clock_Weekday.f k Y M D h m s) (weekT Y M D h m s) := by
  unfold clock_Weekday.f weekT
  by_cases hr : rightT Y M D h m s
  · refine Ev.congr (fun k => by rw [right_eq, Option.bind_some, if_pos (decide_eq_true hr)]) ?_
    have hb := (right_IsT hr).bd
    have hm := right_month hr
    rw [if_pos hr]
    have hd := days_bd Y M
    unfold rightT at hr
    refine Ev.bind (ev_day hr.1 hm (by omega)) ?_
    exact Ev.congr (fun k => by rw [wk64 (by omega), tmod_nn 7 (by omega)]) (Ev.now _)
  · rw [if_neg hr]
    exact Ev.congr (fun k => by rw [right_eq, Option.bind_some, if_neg (by simpa using hr)]) (Ev.now _)
end Go.Proofs.Ytdfghdppbfabfaa.P

/- The time of any seconds: the program's and the reference's. -/
namespace Go.Proofs.Ytdfghdppbfabfaa.P
open Go.RowKit Go.Proofs.YtdfghdppbfabfaaW.PrintWords Go.Proofs.YtdfghdppbfabfaaW.PrintLast Go.Proofs.YtdfghdppbfabfaaW.PrintMore
set_option linter.unusedVariables false
set_option linter.unusedSimpArgs false

abbrev T7 := Int × Int × Int × Int × Int × Int × Bool
theorem cum_step (Y : Int) (i : Nat) : cumM Y (i + 1) = cumM Y i + daysOf Y ((i : Int) + 1) := rfl
/-- The month that a day of the year is in. -/
theorem ev_Of_month (Y Y' D h m s : Int) (hY : 1 ≤ Y) : ∀ (d i : Nat) (x : Int), i + d = 12 → 0 ≤ x → x + cumM Y i < lenY Y →
    ∃ M E : Int, (1 ≤ M ∧ M ≤ 12) ∧ (1 ≤ E ∧ E ≤ daysOf Y M) ∧ cumM Y (M - 1).toNat + E - 1 = x + cumM Y i ∧
      Ev (fun k => clock_Of.l1 k x Y Y' ((i : Int) + 1) D h m s) ((Y', M, E, h, m, s, true) : T7) := by
  intro d
  induction d with
  | zero =>
    intro i x hi h0 h1
    obtain rfl : i = 12 := by omega
    rw [cum_12] at h1
    omega
  | succ d ih =>
    intro i x hi h0 h1
    have hb := days_bd Y ((i : Int) + 1)
    have hl := lenY_bd Y
    have hc := cum_bd Y (show i ≤ 12 by omega)
    by_cases hx : x ≥ daysOf Y ((i : Int) + 1)
    · obtain ⟨M, E, hM, hE, hn, e⟩ := ih (i + 1) (x - daysOf Y ((i : Int) + 1)) (by omega) (by omega) (by rw [cum_step]; omega)
      refine ⟨M, E, hM, hE, by rw [hn, cum_step]; omega, ?_⟩
      exact Ev.step (fun k => by rw [clock_Of.l1, days_eq, Option.bind_some, if_pos hx, Option.bind_some, wk64 (n := x - daysOf Y ((i : Int) + 1)) (by omega), wk64 (n := (i : Int) + 1 + 1) (by omega)]; rfl) e
    · refine ⟨(i : Int) + 1, x + 1, by omega, by omega, ?_, ?_⟩
      · rw [show ((i : Int) + 1 - 1).toNat = i by omega]; omega
      · exact Ev.step (fun k => by rw [clock_Of.l1, days_eq, Option.bind_some, if_neg hx, wk64 (n := x + 1) (by omega)]) (Ev.now _)
/-- A month and a day of it, of a day of the year. -/
theorem IsT.mk' {N Y M E x : Int} (hY : 1 ≤ Y ∧ Y ≤ 9999) (hM : 1 ≤ M ∧ M ≤ 12) (hE : 1 ≤ E ∧ E ≤ daysOf Y M) (hn : cumM Y (M - 1).toNat + E - 1 = x + cumM Y 0) (hx : x = N - aheadY Y) : IsT N Y M E := by
  rw [show cumM Y 0 = 0 from rfl] at hn
  exact ⟨hY.1, hY.2, hM.1, hM.2, hE.1, hE.2, by unfold dayN; omega⟩
theorem ev_Of_year (N rest : Int) (h0 : 0 ≤ N) (h1 : N < 3652059) (hr : 0 ≤ rest ∧ rest < 86400) : ∀ (d : Nat) (Y : Int), Y + d = 10000 → 1 ≤ Y → aheadY Y ≤ N →
    ∃ Z M E : Int, IsT N Z M E ∧ Ev (fun k => clock_Of.l0 k N rest Y) ((Z, M, E, rest / 3600, rest % 3600 / 60, rest % 60, true) : T7) := by
  intro d
  induction d with
  | zero =>
    intro Y hd hY ha
    obtain rfl : Y = 10000 := by omega
    rw [show aheadY 10000 = 3652059 by decide] at ha
    omega
  | succ d ih =>
    intro Y hd hY ha
    have hs := ahead_succ hY
    by_cases hn : aheadY (Y + 1) ≤ N
    · obtain ⟨Z, M, E, hi, e⟩ := ih (Y + 1) (by omega) (by omega) hn
      refine ⟨Z, M, E, hi, ?_⟩
      exact Ev.step (fun k => by rw [clock_Of.l0, wk64 (n := Y + 1) (by omega), ahead_eq (by omega) (by omega), Option.bind_some, if_pos hn]) e
    · obtain ⟨M, E, hM, hE, hm, e⟩ := ev_Of_month Y Y 0 (rest / 3600) (rest % 3600 / 60) (rest % 60) hY 12 0 (N - aheadY Y) (by omega) (by omega) (by rw [show cumM Y 0 = 0 from rfl]; omega)
      refine ⟨Y, M, E, IsT.mk' ⟨hY, by omega⟩ hM hE hm rfl, ?_⟩
      have hq := ahead_mono hY
      rw [show aheadY 1 = 0 by decide] at hq
      refine Ev.step (fun k => by rw [clock_Of.l0, wk64 (n := Y + 1) (by omega), ahead_eq (by omega) (by omega), Option.bind_some, if_neg hn, ahead_eq (by omega) (by omega), Option.bind_some, wk64 (n := N - aheadY Y) (by omega), tdiv_nn 3600 (by omega), tmod_nn 3600 (by omega), tmod_nn 60 (by omega), tdiv_nn 60 (by omega), wk64 (n := rest / 3600) (by omega), wk64 (n := rest % 3600 / 60) (by omega)]) ?_
      exact e
/-- The year that the search begins with isn't too late. -/
theorem year_least (N : Int) (h0 : 0 ≤ N) (h1 : N < 3652059) : 1 ≤ N / 146097 * 400 + N % 146097 / 366 + 1 ∧ N / 146097 * 400 + N % 146097 / 366 + 1 ≤ 10000 ∧ aheadY (N / 146097 * 400 + N % 146097 / 366 + 1) ≤ N := by
  unfold aheadY
  have e : N = N / 146097 * 146097 + N % 146097 := by omega
  have hq0 : 0 ≤ N / 146097 := by omega
  have hq1 : N / 146097 ≤ 24 := by omega
  have hr0 : 0 ≤ N % 146097 := by omega
  have hr1 : N % 146097 < 146097 := by omega
  generalize N / 146097 = q at *
  generalize N % 146097 = r at *
  have hy0 : 366 * (r / 366) ≤ r := by omega
  have hy1 : r / 366 ≤ 399 := by omega
  have hy2 : 0 ≤ r / 366 := by omega
  generalize r / 366 = y at *
  refine ⟨by omega, by omega, ?_⟩
  omega
noncomputable def ofS (sec : Int) : T7 → Prop := fun t =>
  if -62135596800 ≤ sec ∧ sec ≤ 253402300799 then ∃ Y M D : Int, IsT (sec / 86400 + 719162) Y M D ∧ t = (Y, M, D, sec % 86400 / 3600, sec % 86400 % 3600 / 60, sec % 86400 % 60, true)
  else t = (0, 0, 0, 0, 0, 0, false)
theorem ofS_one {sec : Int} {t u : T7} (h : ofS sec t) (k : ofS sec u) : t = u := by
  unfold ofS at h k
  split at h
  · rename_i hb
    rw [if_pos hb] at k
    obtain ⟨Y, M, D, h1, rfl⟩ := h
    obtain ⟨Y', M', D', h2, rfl⟩ := k
    obtain ⟨rfl, rfl, rfl⟩ := h1.one h2
    rfl
  · rename_i hb
    rw [if_neg hb] at k
    rw [h, k]
theorem ev_Of_j0 (q rest sec : Int) (hq : q = sec / 86400) (hr : rest = sec % 86400) (hw : -9223372036854775808 ≤ sec ∧ sec ≤ 9223372036854775807) : ∃ t, ofS sec t ∧ Ev (fun k => clock_Of.j0 k q rest) t := by
  unfold ofS
  have ha : clock_ahead.f 10000 = some 3652059 := by rw [ahead_eq (by omega) (by omega)]; rfl
  by_cases hb : -62135596800 ≤ sec ∧ sec ≤ 253402300799
  · obtain ⟨l0, l1, l2⟩ := year_least (q + 719162) (by omega) (by omega)
    obtain ⟨Y, M, E, hi, e⟩ := ev_Of_year (q + 719162) rest (by omega) (by omega) (by omega) (10000 - ((q + 719162) / 146097 * 400 + (q + 719162) % 146097 / 366 + 1)).toNat _ (by omega) l0 l2
    refine ⟨_, by rw [if_pos hb]; exact ⟨Y, M, E, by rw [← hq]; exact hi, by rw [← hr]⟩, ?_⟩
    refine Ev.step (fun k => by rw [clock_Of.j0, if_neg (by omega), ha, Option.bind_some, wk64 (n := 3652059 - 719162) (by omega), decide_eq_false (by omega)]) ?_
    refine Ev.step (fun k => by rw [clock_Of.j1, if_neg (by decide), wk64 (n := q + 719162) (by omega), tdiv_nn 146097 (by omega), tmod_nn 146097 (by omega), tdiv_nn 366 (by omega), wk64 (n := (q + 719162) / 146097) (by omega), wk64 (n := (q + 719162) / 146097 * 400) (by omega), wk64 (n := (q + 719162) % 146097 / 366) (by omega), wk64 (n := (q + 719162) / 146097 * 400 + (q + 719162) % 146097 / 366) (by omega), wk64 (n := (q + 719162) / 146097 * 400 + (q + 719162) % 146097 / 366 + 1) (by omega)]) ?_
    exact e
  · refine ⟨_, by rw [if_neg hb], ?_⟩
    by_cases hn : q < -719162
    · exact Ev.step (fun k => by rw [clock_Of.j0, if_pos hn]) (Ev.step (fun k => by rw [clock_Of.j1, if_pos rfl]) (Ev.now _))
    · exact Ev.step (fun k => by rw [clock_Of.j0, if_neg hn, ha, Option.bind_some, wk64 (n := 3652059 - 719162) (by omega), decide_eq_true (by omega)]) (Ev.step (fun k => by rw [clock_Of.j1, if_pos rfl]) (Ev.now _))
theorem tdm (sec : Int) : (Int.tmod sec 86400 < 0 ∧ Int.tdiv sec 86400 - 1 = sec / 86400 ∧ Int.tmod sec 86400 + 86400 = sec % 86400) ∨ (0 ≤ Int.tmod sec 86400 ∧ Int.tdiv sec 86400 = sec / 86400 ∧ Int.tmod sec 86400 = sec % 86400) := by
  by_cases h : 0 ≤ sec
  · right
    rw [tdiv_nn 86400 h, tmod_nn 86400 h]
    omega
  · have e1 : Int.tdiv sec 86400 = -((-sec) / 86400) := by
      rw [← tdiv_nn 86400 (show 0 ≤ -sec by omega), Int.neg_tdiv, Int.neg_neg]
    have e2 : Int.tmod sec 86400 = -((-sec) % 86400) := by
      rw [← tmod_nn 86400 (show 0 ≤ -sec by omega), Int.neg_tmod, Int.neg_neg]
    rw [e1, e2]
    omega
theorem ev_Of (sec : Int) (hw : -9223372036854775808 ≤ sec ∧ sec ≤ 9223372036854775807) : ∃ t, ofS sec t ∧ Ev (fun k => clock_Of.f k sec) t := by
  rcases tdm sec with ⟨h1, h2, h3⟩ | ⟨h1, h2, h3⟩
  · obtain ⟨t, ht, e⟩ := ev_Of_j0 (Int.tdiv sec 86400 - 1) (Int.tmod sec 86400 + 86400) sec h2 h3 hw
    refine ⟨t, ht, Ev.congr (fun k => by rw [clock_Of.f, if_pos h1, wk64 (n := Int.tdiv sec 86400) (by omega), wk64 (n := Int.tdiv sec 86400 - 1) (by omega), wk64 (n := Int.tmod sec 86400 + 86400) (by omega)]) e⟩
  · obtain ⟨t, ht, e⟩ := ev_Of_j0 (Int.tdiv sec 86400) (Int.tmod sec 86400) sec h2 h3 hw
    refine ⟨t, ht, Ev.congr (fun k => by rw [clock_Of.f, if_neg (by omega), wk64 (n := Int.tdiv sec 86400) (by omega)]) e⟩
end Go.Proofs.Ytdfghdppbfabfaa.P

/- Numbers as digits: what Decimal and ReadDecimal come to. -/
namespace Go.Proofs.Ytdfghdppbfabfaa.P
open Go.RowKit Go.Proofs.YtdfghdppbfabfaaW.PrintWords Go.Proofs.YtdfghdppbfabfaaW.PrintLast Go.Proofs.YtdfghdppbfabfaaW.PrintMore
set_option linter.unusedVariables false
set_option linter.unusedSimpArgs false


/-! ### ReadDecimal -/
def decF : Int → List Int → Option Int
  | acc, [] => some acc
  | acc, c :: r => if kindOf c = 1 then decF (acc * 10 + (c - 48)) r else none
def rdecG (acc : Int) (l : List Int) : Int × Bool := match decF acc l with
  | some n => (n, true)
  | none => (0, false)
def rdec (l : List Int) : Int × Bool := if l.length = 0 ∨ l.length > 18 then (0, false) else rdecG 0 l
theorem rdecG_ok {acc c : Int} {r : List Int} (h : kindOf c = 1) : rdecG acc (c :: r) = rdecG (acc * 10 + (c - 48)) r := by
  unfold rdecG
  rw [decF, if_pos h]
theorem rdecG_no {acc c : Int} {r : List Int} (h : ¬ kindOf c = 1) : rdecG acc (c :: r) = (0, false) := by
  unfold rdecG
  rw [decF, if_neg h]
theorem ev_ReadDecimal_loop (s : ByteArray) (hs : s.size ≤ 1000) : ∀ (d i : Nat) (acc : Int), i + d = s.size → 0 ≤ acc → acc * 10 ^ d + 10 ^ d ≤ 1000000000000000000 →
    Ev (fun k => hex_ReadDecimal.l0 k s acc (s.size : Int) (i : Int)) (rdecG acc ((bytesOf s).drop i)) := by
  intro d
  induction d with
  | zero =>
    intro i acc hi h0 hb
    refine Ev.step (fun k => by rw [hex_ReadDecimal.l0, if_neg (by omega)]) ?_
    rw [List.drop_of_length_le (by rw [bytesOf_len]; omega)]
    exact Ev.now _
  | succ d ih =>
    intro i acc hi h0 hb
    have hp : (0 : Int) < 10 ^ d := Int.pow_pos (by omega)
    have hpe : (10 : Int) ^ (d + 1) = 10 ^ d * 10 := Int.pow_succ ..
    rw [hpe] at hb
    generalize hP : (10 : Int) ^ d = P at hb hp
    have hb2 : acc * 10 * P + 10 * P ≤ 1000000000000000000 := by
      have e1 : acc * (P * 10) = acc * 10 * P := by rw [Int.mul_comm P 10, Int.mul_assoc]
      omega
    have hacc : acc * 10 + 10 ≤ 1000000000000000000 := by
      have h1 : (acc * 10 + 10) * 1 ≤ (acc * 10 + 10) * P := Int.mul_le_mul_of_nonneg_left (by omega) (by omega)
      have h2 : (acc * 10 + 10) * P = acc * 10 * P + 10 * P := Int.add_mul ..
      omega
    rw [drop_bt s i (by omega)]
    have hw : wrap64 ((i : Int) + 1) = ((i + 1 : Nat) : Int) := by rw [w64 (by omega)]; rfl
    by_cases h1 : kindOf (bt s (i : Int)) = 1
    · have hk := kind1_iff.1 h1
      have e1 : (bt s (i : Int) - 48) % 256 = bt s (i : Int) - 48 := by omega
      have e2 : wrap64 (acc * 10) = acc * 10 := w64 (by omega)
      have e3 : wrap64 (acc * 10 + (bt s (i : Int) - 48)) = acc * 10 + (bt s (i : Int) - 48) := w64 (by omega)
      refine Ev.step (fun k => by rw [hex_ReadDecimal.l0, if_pos (by omega), if_pos (by omega), if_pos (by omega), show hex_Kind.f (bt s (i : Int)) = some (kindOf (bt s (i : Int))) from rfl, Option.bind_some, if_pos h1, e1, e2, e3, hw]) ?_
      rw [rdecG_ok h1]
      refine ih (i + 1) _ (by omega) (by omega) ?_
      rw [hP]
      have e4 : (acc * 10 + (bt s (i : Int) - 48)) * P ≤ (acc * 10 + 9) * P := Int.mul_le_mul_of_nonneg_right (by omega) (by omega)
      have e5 : (acc * 10 + 9) * P = acc * 10 * P + 9 * P := Int.add_mul ..
      omega
    · refine Ev.step (fun k => by rw [hex_ReadDecimal.l0, if_pos (by omega), if_pos (by omega), if_pos (by omega), show hex_Kind.f (bt s (i : Int)) = some (kindOf (bt s (i : Int))) from rfl, Option.bind_some, if_neg h1]) ?_
      rw [rdecG_no h1]
      exact Ev.now _
theorem ev_ReadDecimal (s : ByteArray) : Ev (fun k => hex_ReadDecimal.f k s) (rdec (bytesOf s)) := by
  unfold rdec
  rw [bytesOf_len]
  by_cases h0 : s.size = 0
  · rw [if_pos (.inl h0)]
    refine Ev.congr (fun k => by rw [hex_ReadDecimal.f, if_pos (size_nil.2 h0)]) ?_
    exact Ev.step (fun k => by rw [hex_ReadDecimal.j0, if_pos rfl]) (Ev.now _)
  · refine Ev.congr (fun k => by rw [hex_ReadDecimal.f, if_neg (fun e => h0 (size_nil.1 e))]) ?_
    by_cases h1 : s.size > 18
    · rw [if_pos (.inr h1)]
      exact Ev.step (fun k => by rw [hex_ReadDecimal.j0, if_pos (by rw [decide_eq_true_eq]; omega)]) (Ev.now _)
    · rw [if_neg (by omega)]
      refine Ev.step (fun k => by rw [hex_ReadDecimal.j0, if_neg (by rw [decide_eq_true_eq]; omega)]) ?_
      refine ev_ReadDecimal_loop s (by omega) s.size 0 0 (by omega) (by omega) ?_
      have : (10 : Int) ^ s.size ≤ 10 ^ 18 := by
        have h := Nat.pow_le_pow_right (n := 10) (by omega) (show s.size ≤ 18 by omega)
        exact_mod_cast h
      omega
/-! ### Decimal -/
def natD (n : Nat) : List Int := if h : n < 10 then [48 + (n : Int)] else natD (n / 10) ++ [48 + ((n % 10 : Nat) : Int)]
  termination_by n
  decreasing_by omega
def decL (n : Int) : List Int := if n < 0 then 45 :: natD n.natAbs else natD n.natAbs
theorem natD_lt {n : Nat} (h : n < 10) : natD n = [48 + (n : Int)] := by rw [natD, dif_pos h]
theorem natD_ge {n : Nat} (h : ¬ n < 10) : natD n = natD (n / 10) ++ [48 + ((n % 10 : Nat) : Int)] := by rw [natD, dif_neg h]
theorem natD_bytes : ∀ (d n : Nat), n ≤ d → Bytes (natD n)
  | d, n, hd => by
    by_cases h : n < 10
    · rw [natD_lt h]; exact Bytes.cons (by omega) Bytes.nil
    · rw [natD_ge h]
      cases d with
      | zero => omega
      | succ d => exact Bytes.append (natD_bytes d (n / 10) (by omega)) (Bytes.cons (by omega) Bytes.nil)
theorem decL_bytes (n : Int) : Bytes (decL n) := by
  unfold decL
  split
  · exact Bytes.cons (by omega) (natD_bytes _ _ (Nat.le_refl _))
  · exact natD_bytes _ _ (Nat.le_refl _)
theorem natD_len : ∀ (d n : Nat), n < 10 ^ (d + 1) → (natD n).length ≤ d + 1
  | d, n, hd => by
    by_cases h : n < 10
    · rw [natD_lt h]; simp
    · rw [natD_ge h]
      cases d with
      | zero => simp at hd; omega
      | succ d =>
        have h1 : n / 10 < 10 ^ (d + 1) := by
          rw [Nat.pow_succ] at hd
          omega
        have := natD_len d (n / 10) h1
        simp
        omega
theorem hexD_dec {n : Int} (h0 : 0 ≤ n) (h1 : n < 10) : hexD n = 48 + n := by unfold hexD; rw [if_pos h1]
theorem set_at (a r : List Int) (x v : Int) : (a ++ x :: r).set a.length v = a ++ v :: r := by
  rw [List.set_append]
  simp
theorem ev_Decimal_swap (n : Nat) : ∀ (a m b : List Int), m.length ≤ n → a.length + m.length + b.length ≤ 1000 →
    Ev (fun k => hex_Decimal.l1 k (a ++ m ++ b) (a.length : Int) ((a.length : Int) + (m.length : Int) - 1)) (strOfNums (a ++ m.reverse ++ b)) := by
  induction n using Nat.strongRecOn with
  | _ n ih =>
    intro a m b hm hl
    by_cases h1 : m.length ≤ 1
    · refine Ev.step (fun k => by rw [hex_Decimal.l1, if_neg (by omega)]) ?_
      have : m.reverse = m := by
        match m, h1 with
        | [], _ => rfl
        | [_], _ => rfl
      rw [this]
      exact Ev.now _
    · obtain ⟨x, m1, rfl⟩ : ∃ x m1, m = x :: m1 := by
        cases m with
        | nil => simp at h1
        | cons x m1 => exact ⟨x, m1, rfl⟩
      have hne : m1 ≠ [] := by rintro rfl; simp at h1
      obtain ⟨m2, y, rfl⟩ : ∃ m2 y, m1 = m2 ++ [y] := ⟨m1.dropLast, m1.getLast hne, (List.dropLast_concat_getLast hne).symm⟩
      have hL : (x :: (m2 ++ [y])).length = m2.length + 2 := by simp
      have e0 : a ++ (x :: (m2 ++ [y])) ++ b = a ++ x :: (m2 ++ y :: b) := by simp
      have e1 : a ++ x :: (m2 ++ y :: b) = (a ++ x :: m2) ++ y :: b := by simp
      have hra : rd (a ++ x :: (m2 ++ y :: b)) (a.length : Int) = x := by
        unfold rd; rw [Int.toNat_natCast]; simp
      have hj : (a.length : Int) + ((x :: (m2 ++ [y])).length : Int) - 1 = ((a ++ x :: m2).length : Int) := by rw [hL]; simp; omega
      have hry : rd (a ++ x :: (m2 ++ y :: b)) ((a ++ x :: m2).length : Int) = y := by
        unfold rd; rw [Int.toNat_natCast, e1]; simp
      have hs1 : (a ++ x :: (m2 ++ y :: b)).set (a.length : Int).toNat y = a ++ y :: (m2 ++ y :: b) := by rw [Int.toNat_natCast, set_at]
      have hs2 : (a ++ y :: (m2 ++ y :: b)).set ((a ++ x :: m2).length : Int).toNat x = (a ++ [y]) ++ m2 ++ ([x] ++ b) := by
        rw [Int.toNat_natCast, show (a ++ x :: m2).length = (a ++ y :: m2).length by simp, show a ++ y :: (m2 ++ y :: b) = (a ++ y :: m2) ++ y :: b by simp, set_at]
        simp
      have hlen : ((a ++ x :: (m2 ++ y :: b)).length : Int) = (a.length : Int) + (m2.length : Int) + (b.length : Int) + 2 := by simp; omega
      have hlx : ((a ++ x :: m2).length : Int) = (a.length : Int) + (m2.length : Int) + 1 := by simp; omega
      have hw1 : wrap64 ((a.length : Int) + 1) = ((a ++ [y]).length : Int) := by rw [w64 (by omega)]; simp
      have hw2 : wrap64 (((a ++ x :: m2).length : Int) - 1) = ((a ++ [y]).length : Int) + (m2.length : Int) - 1 := by rw [w64 (by omega)]; simp; omega
      rw [e0, hj]
      refine Ev.step (fun k => by rw [hex_Decimal.l1, if_pos (by omega), if_pos (by omega), if_pos (by omega), if_pos (by omega), if_pos (by omega), hra, hry, hs1, hs2, hw1, hw2]) ?_
      have := ih (n - 1) (by omega) (a ++ [y]) m2 ([x] ++ b) (by rw [hL] at hm; omega) (by simp at hl ⊢; omega)
      rw [show a ++ (x :: (m2 ++ [y])).reverse ++ b = a ++ [y] ++ m2.reverse ++ ([x] ++ b) by simp]
      exact this
theorem ev_Decimal_rev (l : List Int) (hl : l.length ≤ 1000) : Ev (fun k => hex_Decimal.j2 k l) (strOfNums l.reverse) := by
  have hw : wrap64 ((l.length : Int) - 1) = (l.length : Int) - 1 := w64 (by omega)
  refine Ev.step (fun k => by rw [hex_Decimal.j2, hw]) ?_
  have := ev_Decimal_swap l.length [] l [] (Nat.le_refl _) (by simp; omega)
  simpa using this
theorem ev_Decimal_loop (x0 : Int) (d : Nat) : ∀ (m : Nat) (acc : List Int), m < 10 ^ (d + 1) → m ≤ 9223372036854775808 → acc.length + d ≤ 100 →
    Ev (fun k => hex_Decimal.l0 k x0 (m : Int) acc) (strOfNums (if x0 < 0 then 45 :: (natD m ++ acc.reverse) else natD m ++ acc.reverse)) := by
  induction d with
  | zero =>
    intro m acc hm hb ha
    have e1 : Int.tmod (m : Int) 10 = (m : Int) := by rw [Int.tmod_eq_emod_of_nonneg (by omega)]; simp at hm; omega
    have e2 : IntKind.u64.wrap (Int.tdiv (m : Int) 10) = 0 := by rw [Int.tdiv_eq_ediv_of_nonneg (by omega), IntWalk.u64_in _ (by omega)]; simp at hm; omega
    have e3 := hexD_at (m : Int) (by omega) (by simp at hm; omega)
    have e4 : hexD (m : Int) = 48 + (m : Int) := hexD_dec (by omega) (by simp at hm; omega)
    have hn := natD_lt (n := m) (by simpa using hm)
    refine Ev.step (fun k => by rw [hex_Decimal.l0, e1, e2, e3, e4, if_pos (by omega), if_pos (by simp at hm; omega), if_pos (by omega), Option.bind_some, if_pos rfl]) ?_
    by_cases hx : x0 < 0
    · refine Ev.congr (fun k => by rw [if_pos hx, if_pos (by simp; omega)]) ?_
      rw [if_pos hx, hn]
      have := ev_Decimal_rev (acc ++ [48 + (m : Int)] ++ [45]) (by simp; omega)
      simpa using this
    · refine Ev.congr (fun k => by rw [if_neg hx]) ?_
      rw [if_neg hx, hn]
      have := ev_Decimal_rev (acc ++ [48 + (m : Int)]) (by simp; omega)
      simpa using this
  | succ d ih =>
    intro m acc hm hb ha
    have e1 : Int.tmod (m : Int) 10 = ((m % 10 : Nat) : Int) := by rw [Int.tmod_eq_emod_of_nonneg (by omega)]; omega
    have e2 : IntKind.u64.wrap (Int.tdiv (m : Int) 10) = ((m / 10 : Nat) : Int) := by rw [Int.tdiv_eq_ediv_of_nonneg (by omega), IntWalk.u64_in _ (by omega)]; omega
    have e3 := hexD_at ((m % 10 : Nat) : Int) (by omega) (by omega)
    have e4 : hexD ((m % 10 : Nat) : Int) = 48 + ((m % 10 : Nat) : Int) := hexD_dec (by omega) (by omega)
    refine Ev.step (fun k => by rw [hex_Decimal.l0, e1, e2, e3, e4, if_pos (by omega), if_pos (by omega), if_pos (by omega), Option.bind_some]) ?_
    by_cases h10 : m < 10
    · have hn := natD_lt h10
      have hm10 : m % 10 = m := by omega
      refine Ev.congr (fun k => by rw [if_pos (by omega)]) ?_
      rw [hm10]
      by_cases hx : x0 < 0
      · refine Ev.congr (fun k => by rw [if_pos hx, if_pos (by simp; omega)]) ?_
        rw [if_pos hx, hn]
        have := ev_Decimal_rev (acc ++ [48 + (m : Int)] ++ [45]) (by simp; omega)
        simpa using this
      · refine Ev.congr (fun k => by rw [if_neg hx]) ?_
        rw [if_neg hx, hn]
        have := ev_Decimal_rev (acc ++ [48 + (m : Int)]) (by simp; omega)
        simpa using this
    · refine Ev.congr (fun k => by rw [if_neg (by omega)]) ?_
      have := ih (m / 10) (acc ++ [48 + ((m % 10 : Nat) : Int)]) (by rw [Nat.pow_succ] at hm; omega) (by omega) (by simp; omega)
      rw [natD_ge h10, List.append_assoc]
      simpa using this
theorem ev_Decimal (n : Int) (h0 : -9223372036854775808 ≤ n) (h1 : n ≤ 9223372036854775807) : Ev (fun k => hex_Decimal.f k n) (strOfNums (decL n)) := by
  unfold decL
  by_cases hn : n < 0
  · have e : IntKind.u64.wrap (-(IntKind.u64.wrap n)) = (n.natAbs : Int) := by
      rw [IntKind.wrap_u64, IntKind.wrap_u64]; omega
    refine Ev.congr (fun k => by rw [hex_Decimal.f, if_pos hn, e]) ?_
    refine Ev.step (fun k => by rw [hex_Decimal.j0]) ?_
    have := ev_Decimal_loop n 19 n.natAbs [] (by omega) (by omega) (by simp)
    rw [if_pos hn] at this ⊢
    simpa using this
  · have e : IntKind.u64.wrap n = (n.natAbs : Int) := by
      rw [IntKind.wrap_u64]; omega
    refine Ev.congr (fun k => by rw [hex_Decimal.f, if_neg hn, e]) ?_
    refine Ev.step (fun k => by rw [hex_Decimal.j0]) ?_
    have := ev_Decimal_loop n 19 n.natAbs [] (by omega) (by omega) (by simp)
    rw [if_neg hn] at this ⊢
    simpa using this
theorem strOf_size (l : List Int) : (strOfNums l).size = l.length := strOfNums_size l
end Go.Proofs.Ytdfghdppbfabfaa.P

/- Times as texts: the program's. -/
namespace Go.Proofs.Ytdfghdppbfabfaa.P
open Go.RowKit Go.Proofs.YtdfghdppbfabfaaW.PrintWords Go.Proofs.YtdfghdppbfabfaaW.PrintLast Go.Proofs.YtdfghdppbfabfaaW.PrintMore
set_option linter.unusedVariables false
set_option linter.unusedSimpArgs false

def d2 (n : Int) : List Int := [48 + n / 10, 48 + n % 10]
def d4 (n : Int) : List Int := [48 + n / 1000, 48 + n / 100 % 10, 48 + n / 10 % 10, 48 + n % 10]
theorem d2_len (n : Int) : (d2 n).length = 2 := rfl
theorem d4_len (n : Int) : (d4 n).length = 4 := rfl
theorem dec_1 {n : Int} (h : 0 ≤ n ∧ n < 10) : decL n = [48 + n] := by
  unfold decL
  rw [if_neg (by omega), natD_lt (by omega)]
  congr 2
  omega
theorem dec_s {n : Int} (h : 10 ≤ n) : decL n = decL (n / 10) ++ [48 + n % 10] := by
  unfold decL
  rw [if_neg (by omega), if_neg (by omega), natD_ge (by omega), show (n / 10).natAbs = n.natAbs / 10 by omega]
  congr 3
  omega
theorem pad_2 {n : Int} (h : 0 ≤ n ∧ n < 100) : List.replicate (2 - (decL n).length) (48 : Int) ++ decL n = d2 n := by
  unfold d2
  by_cases h1 : n < 10
  · rw [dec_1 ⟨h.1, h1⟩, show n / 10 = 0 by omega, show n % 10 = n by omega]
    rfl
  · rw [dec_s (by omega), dec_1 (n := n / 10) (by omega)]
    rfl
theorem pad_4 {n : Int} (h : 0 ≤ n ∧ n < 10000) : List.replicate (4 - (decL n).length) (48 : Int) ++ decL n = d4 n := by
  unfold d4
  by_cases h1 : n < 10
  · rw [dec_1 ⟨h.1, h1⟩, show n / 1000 = 0 by omega, show n / 100 % 10 = 0 by omega, show n / 10 % 10 = 0 by omega, show n % 10 = n by omega]
    rfl
  · rw [dec_s (by omega)]
    by_cases h2 : n < 100
    · rw [dec_1 (n := n / 10) (by omega), show n / 1000 = 0 by omega, show n / 100 % 10 = 0 by omega, show n / 10 % 10 = n / 10 by omega]
      rfl
    · rw [dec_s (n := n / 10) (by omega)]
      by_cases h3 : n < 1000
      · rw [dec_1 (n := n / 10 / 10) (by omega), show n / 1000 = 0 by omega, show n / 100 % 10 = n / 10 / 10 by omega]
        rfl
      · rw [dec_s (n := n / 10 / 10) (by omega), dec_1 (n := n / 10 / 10 / 10) (by omega), show n / 10 / 10 / 10 = n / 1000 by omega, show n / 10 / 10 % 10 = n / 100 % 10 by omega]
        rfl
theorem ev_pad (z : Int) (hz : z ≤ 100) : ∀ (d : Nat) (l : List Int), (z - l.length).toNat = d → l.length ≤ 100 → Ev (fun k => clock_digits.l0 k z (strOfNums l)) (strOfNums (List.replicate d (48 : Int) ++ l)) := by
  intro d
  induction d with
  | zero =>
    intro l hd hl
    exact Ev.step (fun k => by rw [clock_digits.l0, if_neg (by rw [strOfNums_size]; omega)]; rfl) (Ev.now _)
  | succ d ih =>
    intro l hd hl
    have e := ih (48 :: l) (by rw [List.length_cons]; omega) (by rw [List.length_cons]; omega)
    rw [show List.replicate (d + 1) (48 : Int) ++ l = List.replicate d (48 : Int) ++ 48 :: l by rw [List.replicate_succ']; simp]
    refine Ev.step (fun k => by rw [clock_digits.l0, if_pos (by rw [strOfNums_size]; omega), if_pos (by rw [strOfNums_size]; omega)]) ?_
    rw [show (⟨#[48]⟩ : ByteArray) ++ strOfNums l = strOfNums (48 :: l) by rw [show (48 :: l) = [48] ++ l from rfl, strOf_append]; rfl]
    exact e
theorem ev_digits2 {n : Int} (h : 0 ≤ n ∧ n < 100) : Ev (fun k => clock_digits.f k n 2) (strOfNums (d2 n)) := by
  unfold clock_digits.f
  refine Ev.bind (ev_Decimal n (by omega) (by omega)) ?_
  have hl : (decL n).length ≤ 100 := by
    have := congrArg List.length (pad_2 h)
    simp [d2] at this
    omega
  have e := ev_pad 2 (by omega) _ (decL n) rfl hl
  rw [show ((2 : Int) - (decL n).length).toNat = 2 - (decL n).length by omega, pad_2 h] at e
  exact e
theorem ev_digits4 {n : Int} (h : 0 ≤ n ∧ n < 10000) : Ev (fun k => clock_digits.f k n 4) (strOfNums (d4 n)) := by
  unfold clock_digits.f
  refine Ev.bind (ev_Decimal n (by omega) (by omega)) ?_
  have hl : (decL n).length ≤ 100 := by
    have := congrArg List.length (pad_4 h)
    simp [d4] at this
    omega
  have e := ev_pad 4 (by omega) _ (decL n) rfl hl
  rw [show ((4 : Int) - (decL n).length).toNat = 4 - (decL n).length by omega, pad_4 h] at e
  exact e
def dateB (Y M D : Int) (a : ByteArray) : ByteArray := (((strOfNums (d4 Y) ++ a) ++ strOfNums (d2 M)) ++ a) ++ strOfNums (d2 D)
def timeB (h m s : Int) (a : ByteArray) : ByteArray := (((strOfNums (d2 h) ++ a) ++ strOfNums (d2 m)) ++ a) ++ strOfNums (d2 s)
theorem right_bd {Y M D h m s : Int} (hr : rightT Y M D h m s) : (0 ≤ Y ∧ Y < 10000) ∧ (0 ≤ M ∧ M < 100) ∧ (0 ≤ D ∧ D < 100) ∧ (0 ≤ h ∧ h < 100) ∧ (0 ≤ m ∧ m < 100) ∧ (0 ≤ s ∧ s < 100) := by
  have hm := right_month hr
  have hd := days_bd Y M
  unfold rightT at hr
  omega
theorem ev_part {Y M D h m s : Int} (hr : rightT Y M D h m s) (a b : ByteArray) (ha : a.size ≤ 10) (hb : b.size ≤ 10) : Ev (fun k => clock_Time_part.f k Y M D h m s a b) (dateB Y M D a, timeB h m s b) := by
  obtain ⟨q1, q2, q3, q4, q5, q6⟩ := right_bd hr
  unfold clock_Time_part.f
  refine Ev.bind (ev_digits4 q1) ?_
  refine Ev.congr (fun k => by rw [if_pos (by simp only [ByteArray.size_append, strOfNums_size, d2_len, d4_len]; omega)]) ?_
  refine Ev.bind (ev_digits2 q2) ?_
  refine Ev.congr (fun k => by rw [if_pos (by simp only [ByteArray.size_append, strOfNums_size, d2_len, d4_len]; omega), if_pos (by simp only [ByteArray.size_append, strOfNums_size, d2_len, d4_len]; omega)]) ?_
  refine Ev.bind (ev_digits2 q3) ?_
  refine Ev.congr (fun k => by rw [if_pos (by simp only [ByteArray.size_append, strOfNums_size, d2_len, d4_len]; omega)]) ?_
  refine Ev.bind (ev_digits2 q4) ?_
  refine Ev.congr (fun k => by rw [if_pos (by simp only [ByteArray.size_append, strOfNums_size, d2_len, d4_len]; omega)]) ?_
  refine Ev.bind (ev_digits2 q5) ?_
  refine Ev.congr (fun k => by rw [if_pos (by simp only [ByteArray.size_append, strOfNums_size, d2_len, d4_len]; omega), if_pos (by simp only [ByteArray.size_append, strOfNums_size, d2_len, d4_len]; omega)]) ?_
  refine Ev.bind (ev_digits2 q6) ?_
  refine Ev.congr (fun k => by rw [if_pos (by simp only [ByteArray.size_append, strOfNums_size, d2_len, d4_len]; omega)]) ?_
  exact Ev.now _
theorem dateB_size (Y M D : Int) (a : ByteArray) : (dateB Y M D a).size = 8 + 2 * a.size := by
  simp only [dateB, ByteArray.size_append, strOfNums_size, d2_len, d4_len]; omega
theorem timeB_size (h m s : Int) (a : ByteArray) : (timeB h m s a).size = 6 + 2 * a.size := by
  simp only [timeB, ByteArray.size_append, strOfNums_size, d2_len]; omega
def isoL (Y M D h m s : Int) : List Int := d4 Y ++ ([45] ++ (d2 M ++ ([45] ++ (d2 D ++ ([84] ++ (d2 h ++ ([58] ++ (d2 m ++ ([58] ++ (d2 s ++ [46, 48, 48, 48, 90]))))))))))
def shortL (Y M D h m s : Int) : List Int := d4 Y ++ (d2 M ++ (d2 D ++ ([84] ++ (d2 h ++ (d2 m ++ (d2 s ++ [90]))))))
theorem l45 : (⟨#[45]⟩ : ByteArray) = strOfNums [45] := rfl
theorem l58 : (⟨#[58]⟩ : ByteArray) = strOfNums [58] := rfl
theorem l84 : (⟨#[84]⟩ : ByteArray) = strOfNums [84] := rfl
theorem l90 : (⟨#[90]⟩ : ByteArray) = strOfNums [90] := rfl
theorem l32 : (⟨#[32]⟩ : ByteArray) = strOfNums [32] := rfl
theorem l0 : (⟨#[]⟩ : ByteArray) = strOfNums [] := rfl
theorem lz : (⟨#[46, 48, 48, 48, 90]⟩ : ByteArray) = strOfNums [46, 48, 48, 48, 90] := rfl
theorem lc : (⟨#[44, 32]⟩ : ByteArray) = strOfNums [44, 32] := rfl
theorem lg : (⟨#[32, 71, 77, 84]⟩ : ByteArray) = strOfNums [32, 71, 77, 84] := rfl
open Classical in
noncomputable def isoS (Y M D h m s : Int) : ByteArray := if rightT Y M D h m s then strOfNums (isoL Y M D h m s) else strOfNums []
open Classical in
noncomputable def shortS (Y M D h m s : Int) : ByteArray := if rightT Y M D h m s then strOfNums (shortL Y M D h m s) else strOfNums []
theorem ev_Iso (Y M D h m s : Int) : Ev (fun k => clock_Iso.f k Y M D h m s) (isoS Y M D h m s) := by
  unfold clock_Iso.f isoS
  by_cases hr : rightT Y M D h m s
  · refine Ev.congr (fun k => by rw [right_eq, Option.bind_some, if_pos (decide_eq_true hr)]) ?_
    rw [if_pos hr]
    refine Ev.bind (ev_part hr _ _ (by decide) (by decide)) ?_
    have e1 : (⟨#[45]⟩ : ByteArray).size = 1 := rfl
    have e2 : (⟨#[58]⟩ : ByteArray).size = 1 := rfl
    have e3 : (⟨#[84]⟩ : ByteArray).size = 1 := rfl
    refine Ev.congr (fun k => by rw [if_pos (by simp only [dateB_size]; omega), if_pos (by simp only [ByteArray.size_append, dateB_size, timeB_size]; omega), if_pos (by simp only [ByteArray.size_append, dateB_size, timeB_size]; omega)]) ?_
    rw [show (dateB Y M D (⟨#[45]⟩ : ByteArray) ++ (⟨#[84]⟩ : ByteArray) ++ timeB h m s (⟨#[58]⟩ : ByteArray) ++ (⟨#[46, 48, 48, 48, 90]⟩ : ByteArray)) = strOfNums (isoL Y M D h m s) by
      rw [l45, l58, l84, lz]; simp only [dateB, timeB, isoL, ← strOf_append, List.append_assoc]]
    exact Ev.now _
  · rw [if_neg hr]
    exact Ev.congr (fun k => by rw [right_eq, Option.bind_some, if_neg (by simpa using hr)]; rfl) (Ev.now _)
theorem ev_Short (Y M D h m s : Int) : Ev (fun k => clock_Short.f k Y M D h m s) (shortS Y M D h m s) := by
  unfold clock_Short.f shortS
  by_cases hr : rightT Y M D h m s
  · refine Ev.congr (fun k => by rw [right_eq, Option.bind_some, if_pos (decide_eq_true hr)]) ?_
    rw [if_pos hr]
    refine Ev.bind (ev_part hr _ _ (by decide) (by decide)) ?_
    have e1 : (⟨#[]⟩ : ByteArray).size = 0 := rfl
    have e3 : (⟨#[84]⟩ : ByteArray).size = 1 := rfl
    refine Ev.congr (fun k => by rw [if_pos (by simp only [dateB_size]; omega), if_pos (by simp only [ByteArray.size_append, dateB_size, timeB_size]; omega), if_pos (by simp only [ByteArray.size_append, dateB_size, timeB_size]; omega)]) ?_
    rw [show (dateB Y M D (⟨#[]⟩ : ByteArray) ++ (⟨#[84]⟩ : ByteArray) ++ timeB h m s (⟨#[]⟩ : ByteArray) ++ (⟨#[90]⟩ : ByteArray)) = strOfNums (shortL Y M D h m s) by
      rw [l0, l84, l90]; simp only [dateB, timeB, shortL, ← strOf_append, List.append_assoc, List.nil_append]]
    exact Ev.now _
  · rw [if_neg hr]
    exact Ev.congr (fun k => by rw [right_eq, Option.bind_some, if_neg (by simpa using hr)]; rfl) (Ev.now _)
/-! ### The form of the web -/
def dayNamesL : List Int := [83, 117, 110, 77, 111, 110, 84, 117, 101, 87, 101, 100, 84, 104, 117, 70, 114, 105, 83, 97, 116]
def monNamesL : List Int := [74, 97, 110, 70, 101, 98, 77, 97, 114, 65, 112, 114, 77, 97, 121, 74, 117, 110, 74, 117, 108, 65, 117, 103, 83, 101, 112, 79, 99, 116, 78, 111, 118, 68, 101, 99]
def dayL (w : Int) : List Int := (dayNamesL.drop (3 * w.toNat)).take 3
def monL (k : Int) : List Int := (monNamesL.drop (3 * k.toNat)).take 3
theorem dayL_len {w : Int} (h : 0 ≤ w ∧ w < 7) : (dayL w).length = 3 := by
  have key : ∀ i : Fin 7, (dayL (i.val : Int)).length = 3 := by decide
  obtain ⟨m, rfl⟩ := Int.eq_ofNat_of_zero_le h.1
  exact key ⟨m, by omega⟩
theorem monL_len {w : Int} (h : 0 ≤ w ∧ w < 12) : (monL w).length = 3 := by
  have key : ∀ i : Fin 12, (monL (i.val : Int)).length = 3 := by decide
  obtain ⟨m, rfl⟩ := Int.eq_ofNat_of_zero_le h.1
  exact key ⟨m, by omega⟩
abbrev dayB : ByteArray := ⟨#[83, 117, 110, 77, 111, 110, 84, 117, 101, 87, 101, 100, 84, 104, 117, 70, 114, 105, 83, 97, 116]⟩
abbrev monB : ByteArray := ⟨#[74, 97, 110, 70, 101, 98, 77, 97, 114, 65, 112, 114, 77, 97, 121, 74, 117, 110, 74, 117, 108, 65, 117, 103, 83, 101, 112, 79, 99, 116, 78, 111, 118, 68, 101, 99]⟩
theorem dayB_cut {w : Int} (h : 0 ≤ w ∧ w < 7) : dayB.extract (3 * w).toNat (3 * (w + 1)).toNat = strOfNums (dayL w) := by
  have key : ∀ i : Fin 7, dayB.extract (3 * (i.val : Int)).toNat (3 * ((i.val : Int) + 1)).toNat = strOfNums (dayL (i.val : Int)) := by decide +kernel
  obtain ⟨m, rfl⟩ := Int.eq_ofNat_of_zero_le h.1
  exact key ⟨m, by omega⟩
theorem monB_cut {w : Int} (h : 0 ≤ w ∧ w < 12) : monB.extract (3 * w).toNat (3 * (w + 1)).toNat = strOfNums (monL w) := by
  have key : ∀ i : Fin 12, monB.extract (3 * (i.val : Int)).toNat (3 * ((i.val : Int) + 1)).toNat = strOfNums (monL (i.val : Int)) := by decide +kernel
  obtain ⟨m, rfl⟩ := Int.eq_ofNat_of_zero_le h.1
  exact key ⟨m, by omega⟩
theorem dayname_eq {w : Int} (h : 0 ≤ w ∧ w < 7) : clock_name.f dayB w = some (strOfNums (dayL w)) := by
  have hs : (dayB.size : Int) = 21 := rfl
  unfold clock_name.f
  rw [wk64 (n := 3 * w) (by omega), wk64 (n := w + 1) (by omega), wk64 (n := 3 * (w + 1)) (by omega), if_pos (by omega), if_pos (by omega), if_pos (by rw [hs]; omega), dayB_cut h]
theorem monname_eq {w : Int} (h : 0 ≤ w ∧ w < 12) : clock_name.f monB w = some (strOfNums (monL w)) := by
  have hs : (monB.size : Int) = 36 := rfl
  unfold clock_name.f
  rw [wk64 (n := 3 * w) (by omega), wk64 (n := w + 1) (by omega), wk64 (n := 3 * (w + 1)) (by omega), if_pos (by omega), if_pos (by omega), if_pos (by rw [hs]; omega), monB_cut h]
def webL (w Y M D h m s : Int) : List Int := dayL w ++ ([44, 32] ++ (d2 D ++ ([32] ++ (monL (M - 1) ++ ([32] ++ (d4 Y ++ ([32] ++ (d2 h ++ ([58] ++ (d2 m ++ ([58] ++ (d2 s ++ [32, 71, 77, 84]))))))))))))
open Classical in
noncomputable def webS (Y M D h m s : Int) : ByteArray := if rightT Y M D h m s then strOfNums (webL ((dayN Y M D + 1) % 7) Y M D h m s) else strOfNums []
theorem ev_Web (Y M D h m s : Int) : Ev (fun k => clock_Web.f k Y M D h m s) (webS Y M D h m s) := by
  unfold clock_Web.f webS
  by_cases hr : rightT Y M D h m s
  · refine Ev.congr (fun k => by rw [right_eq, Option.bind_some, if_pos (decide_eq_true hr)]) ?_
    rw [if_pos hr]
    obtain ⟨q1, q2, q3, q4, q5, q6⟩ := right_bd hr
    have hm := right_month hr
    have hw : 0 ≤ (dayN Y M D + 1) % 7 ∧ (dayN Y M D + 1) % 7 < 7 := by omega
    have hwk := ev_Weekday Y M D h m s
    unfold weekT at hwk
    rw [if_pos hr] at hwk
    generalize (dayN Y M D + 1) % 7 = w at *
    have hk : 0 ≤ M - 1 ∧ M - 1 < 12 := by omega
    have n1 := dayL_len hw
    have n2 := monL_len hk
    refine Ev.bind (ev_part hr _ _ (by decide) (by decide)) ?_
    refine Ev.bind hwk ?_
    refine Ev.congr (fun k => by rw [dayname_eq hw, Option.bind_some, if_pos (by rw [strOfNums_size, n1]; omega)]) ?_
    refine Ev.bind (ev_digits2 q3) ?_
    have e1 : (⟨#[44, 32]⟩ : ByteArray).size = 2 := rfl
    have e2 : (⟨#[32]⟩ : ByteArray).size = 1 := rfl
    have e3 : (⟨#[58]⟩ : ByteArray).size = 1 := rfl
    have e4 : (⟨#[32, 71, 77, 84]⟩ : ByteArray).size = 4 := rfl
    refine Ev.congr (fun k => by rw [if_pos (by simp only [ByteArray.size_append, strOfNums_size, d2_len, d4_len, n1, n2, e1, e2]; omega), if_pos (by simp only [ByteArray.size_append, strOfNums_size, d2_len, d4_len, n1, n2, e1, e2]; omega), wk64 (n := M - 1) (by omega), monname_eq hk, Option.bind_some]) ?_
    refine Ev.congr (fun k => by rw [if_pos (by simp only [ByteArray.size_append, strOfNums_size, d2_len, d4_len, n1, n2, e1, e2]; omega), if_pos (by simp only [ByteArray.size_append, strOfNums_size, d2_len, d4_len, n1, n2, e1, e2]; omega)]) ?_
    refine Ev.bind (ev_digits4 q1) ?_
    refine Ev.congr (fun k => by rw [if_pos (by simp only [ByteArray.size_append, strOfNums_size, d2_len, d4_len, n1, n2, e1, e2]; omega), if_pos (by simp only [ByteArray.size_append, strOfNums_size, d2_len, d4_len, n1, n2, e1, e2]; omega), if_pos (by simp only [ByteArray.size_append, strOfNums_size, d2_len, d4_len, n1, n2, e1, e2, timeB_size, e3]; omega), if_pos (by simp only [ByteArray.size_append, strOfNums_size, d2_len, d4_len, n1, n2, e1, e2, timeB_size, e3]; omega)]) ?_
    refine Ev.congr (fun k => show _ = some (strOfNums (webL w Y M D h m s)) from ?_) (Ev.now _)
    congr 1
    rw [l32, lc, l58, lg]
    simp only [timeB, webL, ← strOf_append, List.append_assoc]
  · rw [if_neg hr]
    exact Ev.congr (fun k => by rw [right_eq, Option.bind_some, if_neg (by simpa using hr)]; rfl) (Ev.now _)
end Go.Proofs.Ytdfghdppbfabfaa.P

/- Times that are read: the program's. -/
namespace Go.Proofs.Ytdfghdppbfabfaa.P
open Go.RowKit Go.Proofs.YtdfghdppbfabfaaW.PrintWords Go.Proofs.YtdfghdppbfabfaaW.PrintLast Go.Proofs.YtdfghdppbfabfaaW.PrintMore
set_option linter.unusedVariables false
set_option linter.unusedSimpArgs false

def fieldV (s : ByteArray) (a b : Nat) : Int := if (rdec (bytesOf (s.extract a b))).2 = true then (rdec (bytesOf (s.extract a b))).1 else -1
theorem ev_field (s : ByteArray) (a b : Int) (h0 : 0 ≤ a) (h1 : a ≤ b) (h2 : b ≤ (s.size : Int)) : Ev (fun k => clock_field.f k s a b) (fieldV s a.toNat b.toNat) := by
  unfold clock_field.f fieldV
  refine Ev.congr (fun k => by rw [if_pos h0, if_pos h1, if_pos h2]) ?_
  refine Ev.bind (ev_ReadDecimal _) ?_
  by_cases h : (rdec (bytesOf (s.extract a.toNat b.toNat))).2 = true
  · rw [if_pos h]
    exact Ev.congr (fun k => by rw [if_pos h]) (Ev.now _)
  · rw [if_neg h]
    exact Ev.congr (fun k => by rw [if_neg h]) (Ev.now _)
theorem rdec_d2 {n : Int} (h : 0 ≤ n ∧ n < 100) : rdec (d2 n) = (n, true) := by
  unfold rdec d2
  rw [if_neg (by simp), rdecG_ok (kind1_iff.2 (by omega)), rdecG_ok (kind1_iff.2 (by omega))]
  show (_, true) = (n, true)
  congr 1
  omega
theorem rdec_d4 {n : Int} (h : 0 ≤ n ∧ n < 10000) : rdec (d4 n) = (n, true) := by
  unfold rdec d4
  rw [if_neg (by simp), rdecG_ok (kind1_iff.2 (by omega)), rdecG_ok (kind1_iff.2 (by omega)), rdecG_ok (kind1_iff.2 (by omega)), rdecG_ok (kind1_iff.2 (by omega))]
  show (_, true) = (n, true)
  congr 1
  omega
theorem field_2 {s : ByteArray} {n : Int} {a b : Nat} (h : 0 ≤ n ∧ n < 100) (hs : ((bytesOf s).drop a).take (b - a) = d2 n) : fieldV s a b = n := by
  unfold fieldV
  rw [bytesOf_extract, hs, rdec_d2 h]
  rfl
theorem field_4 {s : ByteArray} {n : Int} {a b : Nat} (h : 0 ≤ n ∧ n < 10000) (hs : ((bytesOf s).drop a).take (b - a) = d4 n) : fieldV s a b = n := by
  unfold fieldV
  rw [bytesOf_extract, hs, rdec_d4 h]
  rfl
def zeroT : T7 := (0, 0, 0, 0, 0, 0, false)
theorem kept_yes (Y M D h m s : Int) {l : List Int} (x : ByteArray) (hl : l ≠ []) (hb : Bytes l) (hx : bytesOf x = l) : clock_kept.f Y M D h m s (strOfNums l) x = some (Y, M, D, h, m, s, true) := by
  unfold clock_kept.f
  have hn : ¬ (strOfNums l).toList = [] := by
    intro e
    have := congrArg List.length e
    rw [Go.ByteArray.toList_eq, Array.length_toList] at this
    have h2 := strOfNums_size l
    rw [show (strOfNums l).data.size = (strOfNums l).size from rfl, h2] at this
    exact hl (List.eq_nil_of_length_eq_zero this)
  rw [if_neg hn, if_pos ((toList_strOf l hb x).2 hx.symm)]
theorem kept_no (Y M D h m s : Int) {l : List Int} (x : ByteArray) (hb : Bytes l) (hx : bytesOf x ≠ l) : clock_kept.f Y M D h m s (strOfNums l) x = some zeroT := by
  unfold clock_kept.f zeroT
  by_cases h0 : (strOfNums l).toList = []
  · rw [if_pos h0]
  · rw [if_neg h0, if_neg (fun e => hx ((toList_strOf l hb x).1 e).symm)]
theorem d2_bytes {n : Int} (h : 0 ≤ n ∧ n < 100) : Bytes (d2 n) := by
  intro x hx; unfold d2 at hx; simp at hx; omega
theorem d4_bytes {n : Int} (h : 0 ≤ n ∧ n < 10000) : Bytes (d4 n) := by
  intro x hx; unfold d4 at hx; simp at hx; omega
theorem app_bytes {a b : List Int} (ha : Bytes a) (hb : Bytes b) : Bytes (a ++ b) := by
  intro x hx
  rcases List.mem_append.1 hx with h | h
  · exact ha x h
  · exact hb x h
theorem iso_bytes {Y M D h m s : Int} (hr : rightT Y M D h m s) : Bytes (isoL Y M D h m s) := by
  obtain ⟨q1, q2, q3, q4, q5, q6⟩ := right_bd hr
  unfold isoL
  repeat' first
    | refine app_bytes ?_ ?_
    | exact d4_bytes (by assumption)
    | exact d2_bytes (by assumption)
    | (intro x hx; simp at hx; omega)
theorem short_bytes {Y M D h m s : Int} (hr : rightT Y M D h m s) : Bytes (shortL Y M D h m s) := by
  obtain ⟨q1, q2, q3, q4, q5, q6⟩ := right_bd hr
  unfold shortL
  repeat' first
    | refine app_bytes ?_ ?_
    | exact d4_bytes (by assumption)
    | exact d2_bytes (by assumption)
    | (intro x hx; simp at hx; omega)
theorem iso_kept {x : ByteArray} (hx : x.size = 24) (hn : ¬ ∃ Y M D h m s : Int, rightT Y M D h m s ∧ bytesOf x = isoL Y M D h m s) (Y M D h m s : Int) : clock_kept.f Y M D h m s (isoS Y M D h m s) x = some zeroT := by
  unfold isoS
  by_cases hr : rightT Y M D h m s
  · rw [if_pos hr]
    exact kept_no Y M D h m s x (iso_bytes hr) (fun e => hn ⟨Y, M, D, h, m, s, hr, e⟩)
  · rw [if_neg hr]
    exact kept_no Y M D h m s x (by intro x hx; cases hx) (fun e => by have := congrArg List.length e; rw [bytesOf_len, hx] at this; simp at this)
theorem short_kept {x : ByteArray} (hx : x.size = 16) (hn : ¬ ∃ Y M D h m s : Int, rightT Y M D h m s ∧ bytesOf x = shortL Y M D h m s) (Y M D h m s : Int) : clock_kept.f Y M D h m s (shortS Y M D h m s) x = some zeroT := by
  unfold shortS
  by_cases hr : rightT Y M D h m s
  · rw [if_pos hr]
    exact kept_no Y M D h m s x (short_bytes hr) (fun e => hn ⟨Y, M, D, h, m, s, hr, e⟩)
  · rw [if_neg hr]
    exact kept_no Y M D h m s x (by intro x hx; cases hx) (fun e => by have := congrArg List.length e; rw [bytesOf_len, hx] at this; simp at this)
theorem iso_size {x : ByteArray} {Y M D h m s : Int} (hx : bytesOf x = isoL Y M D h m s) : x.size = 24 := by rw [← bytesOf_len, hx]; rfl
theorem short_size {x : ByteArray} {Y M D h m s : Int} (hx : bytesOf x = shortL Y M D h m s) : x.size = 16 := by rw [← bytesOf_len, hx]; rfl
theorem ev_ReadIso_yes {x : ByteArray} {Y M D h m s : Int} (hr : rightT Y M D h m s) (hx : bytesOf x = isoL Y M D h m s) : Ev (fun k => clock_ReadIso.f k x) ((Y, M, D, h, m, s, true) : T7) := by
  obtain ⟨q1, q2, q3, q4, q5, q6⟩ := right_bd hr
  have hz := iso_size hx
  unfold clock_ReadIso.f
  refine Ev.congr (fun k => by rw [if_pos (by omega)]) ?_
  refine Ev.bind (ev_field x 0 4 (by omega) (by omega) (by omega)) ?_
  refine Ev.bind (ev_field x 5 7 (by omega) (by omega) (by omega)) ?_
  refine Ev.bind (ev_field x 8 10 (by omega) (by omega) (by omega)) ?_
  refine Ev.bind (ev_field x 11 13 (by omega) (by omega) (by omega)) ?_
  refine Ev.bind (ev_field x 14 16 (by omega) (by omega) (by omega)) ?_
  refine Ev.bind (ev_field x 17 19 (by omega) (by omega) (by omega)) ?_
  rw [show fieldV x (Int.toNat 0) (Int.toNat 4) = Y from field_4 q1 (by rw [hx]; rfl), show fieldV x (Int.toNat 5) (Int.toNat 7) = M from field_2 q2 (by rw [hx]; rfl), show fieldV x (Int.toNat 8) (Int.toNat 10) = D from field_2 q3 (by rw [hx]; rfl),
    show fieldV x (Int.toNat 11) (Int.toNat 13) = h from field_2 q4 (by rw [hx]; rfl), show fieldV x (Int.toNat 14) (Int.toNat 16) = m from field_2 q5 (by rw [hx]; rfl), show fieldV x (Int.toNat 17) (Int.toNat 19) = s from field_2 q6 (by rw [hx]; rfl)]
  refine Ev.bind (ev_Iso Y M D h m s) ?_
  unfold isoS
  rw [if_pos hr]
  exact Ev.congr (fun k => by rw [kept_yes Y M D h m s x (by simp [isoL, d4]) (iso_bytes hr) hx, Option.bind_some]) (Ev.now _)
theorem ev_ReadIso_no {x : ByteArray} (hn : ¬ ∃ Y M D h m s : Int, rightT Y M D h m s ∧ bytesOf x = isoL Y M D h m s) : Ev (fun k => clock_ReadIso.f k x) zeroT := by
  unfold clock_ReadIso.f
  by_cases hz : x.size = 24
  · refine Ev.congr (fun k => by rw [if_pos (by omega)]) ?_
    refine Ev.bind (ev_field x 0 4 (by omega) (by omega) (by omega)) ?_
    refine Ev.bind (ev_field x 5 7 (by omega) (by omega) (by omega)) ?_
    refine Ev.bind (ev_field x 8 10 (by omega) (by omega) (by omega)) ?_
    refine Ev.bind (ev_field x 11 13 (by omega) (by omega) (by omega)) ?_
    refine Ev.bind (ev_field x 14 16 (by omega) (by omega) (by omega)) ?_
    refine Ev.bind (ev_field x 17 19 (by omega) (by omega) (by omega)) ?_
    refine Ev.bind (ev_Iso _ _ _ _ _ _) ?_
    exact Ev.congr (fun k => by rw [iso_kept hz hn, Option.bind_some]) (Ev.now _)
  · exact Ev.congr (fun k => by rw [if_neg (by omega)]; rfl) (Ev.now _)
theorem ev_ReadShort_yes {x : ByteArray} {Y M D h m s : Int} (hr : rightT Y M D h m s) (hx : bytesOf x = shortL Y M D h m s) : Ev (fun k => clock_ReadShort.f k x) ((Y, M, D, h, m, s, true) : T7) := by
  obtain ⟨q1, q2, q3, q4, q5, q6⟩ := right_bd hr
  have hz := short_size hx
  unfold clock_ReadShort.f
  refine Ev.congr (fun k => by rw [if_pos (by omega)]) ?_
  refine Ev.bind (ev_field x 0 4 (by omega) (by omega) (by omega)) ?_
  refine Ev.bind (ev_field x 4 6 (by omega) (by omega) (by omega)) ?_
  refine Ev.bind (ev_field x 6 8 (by omega) (by omega) (by omega)) ?_
  refine Ev.bind (ev_field x 9 11 (by omega) (by omega) (by omega)) ?_
  refine Ev.bind (ev_field x 11 13 (by omega) (by omega) (by omega)) ?_
  refine Ev.bind (ev_field x 13 15 (by omega) (by omega) (by omega)) ?_
  rw [show fieldV x (Int.toNat 0) (Int.toNat 4) = Y from field_4 q1 (by rw [hx]; rfl), show fieldV x (Int.toNat 4) (Int.toNat 6) = M from field_2 q2 (by rw [hx]; rfl), show fieldV x (Int.toNat 6) (Int.toNat 8) = D from field_2 q3 (by rw [hx]; rfl),
    show fieldV x (Int.toNat 9) (Int.toNat 11) = h from field_2 q4 (by rw [hx]; rfl), show fieldV x (Int.toNat 11) (Int.toNat 13) = m from field_2 q5 (by rw [hx]; rfl), show fieldV x (Int.toNat 13) (Int.toNat 15) = s from field_2 q6 (by rw [hx]; rfl)]
  refine Ev.bind (ev_Short Y M D h m s) ?_
  unfold shortS
  rw [if_pos hr]
  exact Ev.congr (fun k => by rw [kept_yes Y M D h m s x (by simp [shortL, d4]) (short_bytes hr) hx, Option.bind_some]) (Ev.now _)
theorem ev_ReadShort_no {x : ByteArray} (hn : ¬ ∃ Y M D h m s : Int, rightT Y M D h m s ∧ bytesOf x = shortL Y M D h m s) : Ev (fun k => clock_ReadShort.f k x) zeroT := by
  unfold clock_ReadShort.f
  by_cases hz : x.size = 16
  · refine Ev.congr (fun k => by rw [if_pos (by omega)]) ?_
    refine Ev.bind (ev_field x 0 4 (by omega) (by omega) (by omega)) ?_
    refine Ev.bind (ev_field x 4 6 (by omega) (by omega) (by omega)) ?_
    refine Ev.bind (ev_field x 6 8 (by omega) (by omega) (by omega)) ?_
    refine Ev.bind (ev_field x 9 11 (by omega) (by omega) (by omega)) ?_
    refine Ev.bind (ev_field x 11 13 (by omega) (by omega) (by omega)) ?_
    refine Ev.bind (ev_field x 13 15 (by omega) (by omega) (by omega)) ?_
    refine Ev.bind (ev_Short _ _ _ _ _ _) ?_
    exact Ev.congr (fun k => by rw [short_kept hz hn, Option.bind_some]) (Ev.now _)
  · exact Ev.congr (fun k => by rw [if_neg (by omega)]; rfl) (Ev.now _)
end Go.Proofs.Ytdfghdppbfabfaa.P

/- Times that are read in the form of the web: the program's. -/
namespace Go.Proofs.Ytdfghdppbfabfaa.P
open Go.RowKit Go.Proofs.YtdfghdppbfabfaaW.PrintWords Go.Proofs.YtdfghdppbfabfaaW.PrintLast Go.Proofs.YtdfghdppbfabfaaW.PrintMore
set_option linter.unusedVariables false
set_option linter.unusedSimpArgs false

theorem dayL_bytes {w : Int} (h : 0 ≤ w ∧ w < 7) : Bytes (dayL w) := by
  have key : ∀ i : Fin 7, ∀ x ∈ dayL (i.val : Int), 0 ≤ x ∧ x ≤ 255 := by decide
  obtain ⟨m, rfl⟩ := Int.eq_ofNat_of_zero_le h.1
  exact key ⟨m, by omega⟩
theorem monL_bytes {w : Int} (h : 0 ≤ w ∧ w < 12) : Bytes (monL w) := by
  have key : ∀ i : Fin 12, ∀ x ∈ monL (i.val : Int), 0 ≤ x ∧ x ≤ 255 := by decide
  obtain ⟨m, rfl⟩ := Int.eq_ofNat_of_zero_le h.1
  exact key ⟨m, by omega⟩
theorem monL_inj {a b : Int} (ha : 0 ≤ a ∧ a < 12) (hb : 0 ≤ b ∧ b < 12) (h : monL a = monL b) : a = b := by
  have key : ∀ i j : Fin 12, monL (i.val : Int) = monL (j.val : Int) → i = j := by decide
  obtain ⟨m, rfl⟩ := Int.eq_ofNat_of_zero_le ha.1
  obtain ⟨n, rfl⟩ := Int.eq_ofNat_of_zero_le hb.1
  have := key ⟨m, by omega⟩ ⟨n, by omega⟩ h
  have := congrArg Fin.val this
  simp at this
  omega
theorem week_bd (N : Int) : 0 ≤ (N + 1) % 7 ∧ (N + 1) % 7 < 7 := by omega
theorem web_bytes {w Y M D h m s : Int} (hw : 0 ≤ w ∧ w < 7) (hr : rightT Y M D h m s) : Bytes (webL w Y M D h m s) := by
  obtain ⟨q1, q2, q3, q4, q5, q6⟩ := right_bd hr
  have hm := right_month hr
  unfold webL
  repeat' first
    | refine app_bytes ?_ ?_
    | exact dayL_bytes hw
    | exact monL_bytes (by omega)
    | exact d4_bytes (by assumption)
    | exact d2_bytes (by assumption)
    | (intro x hx; simp at hx; omega)
theorem three {l : List Int} (h : l.length = 3) : ∃ a b c, l = [a, b, c] := by
  match l, h with
  | [a, b, c], _ => exact ⟨a, b, c, rfl⟩
structure WebAt (x : ByteArray) (Y M D h m s : Int) : Prop where
  sz : x.size = 29
  dd : ((bytesOf x).drop 5).take 2 = d2 D
  mm : ((bytesOf x).drop 8).take 3 = monL (M - 1)
  yy : ((bytesOf x).drop 12).take 4 = d4 Y
  hh : ((bytesOf x).drop 17).take 2 = d2 h
  mi : ((bytesOf x).drop 20).take 2 = d2 m
  ss : ((bytesOf x).drop 23).take 2 = d2 s
theorem web_at {x : ByteArray} {w Y M D h m s : Int} (hw : 0 ≤ w ∧ w < 7) (hm : 1 ≤ M ∧ M ≤ 12) (hx : bytesOf x = webL w Y M D h m s) : WebAt x Y M D h m s := by
  obtain ⟨a, b, c, e1⟩ := three (dayL_len hw)
  obtain ⟨p, q, r, e2⟩ := three (monL_len (w := M - 1) (by omega))
  unfold webL at hx
  rw [e1, e2] at hx
  refine ⟨?_, ?_, ?_, ?_, ?_, ?_, ?_⟩
  · rw [← bytesOf_len, hx]; rfl
  · rw [hx]; rfl
  · rw [hx, e2]; rfl
  · rw [hx]; rfl
  · rw [hx]; rfl
  · rw [hx]; rfl
  · rw [hx]; rfl
def monF (x : List Int) : Nat → Nat → Int → Int
  | 0, _, M => M
  | d + 1, i, M => monF x d (i + 1) (if monL (i : Int) = x then (i : Int) + 1 else M)
theorem monF_of {M : Int} (h : 1 ≤ M ∧ M ≤ 12) : monF (monL (M - 1)) 12 0 0 = M := by
  have key : ∀ i : Fin 12, monF (monL (i.val : Int)) 12 0 0 = (i.val : Int) + 1 := by decide
  obtain ⟨j, rfl⟩ : ∃ j : Nat, M = j + 1 := ⟨(M - 1).toNat, by omega⟩
  rw [show (j : Int) + 1 - 1 = j by omega]
  exact key ⟨j, by omega⟩
theorem ev_ReadWeb_loop (x : ByteArray) (hz : x.size = 29) (Y D h m s : Int) (r : T7) : ∀ (d i : Nat) (M : Int), i + d = 12 →
    (Ev (fun k => clock_kept.f Y (monF (((bytesOf x).drop 8).take 3) d i M) D h m s (webS Y (monF (((bytesOf x).drop 8).take 3) d i M) D h m s) x) r) →
    Ev (fun k => clock_ReadWeb.l0 k x (i : Int) Y M D h m s) r := by
  intro d
  induction d with
  | zero =>
    intro i M hi hr
    refine Ev.step (fun k => by rw [clock_ReadWeb.l0, if_neg (by omega)]) ?_
    refine Ev.bind (ev_Web Y M D h m s) ?_
    exact Ev.bind hr (Ev.now _)
  | succ d ih =>
    intro i M hi hr
    refine Ev.step (fun k => by rw [clock_ReadWeb.l0, if_pos (by omega), monname_eq (by omega), Option.bind_some, if_pos (by decide), if_pos (by omega), wk64 (n := (i : Int) + 1) (by omega)]) ?_
    have hb := toList_strOf (monL (i : Int)) (monL_bytes (by omega)) (x.extract 8 11)
    rw [bytesOf_extract, show 11 - 8 = 3 from rfl] at hb
    rw [monF] at hr
    by_cases he : monL (i : Int) = ((bytesOf x).drop 8).take 3
    · rw [if_pos he] at hr
      exact Ev.congr (fun k => by rw [if_pos (hb.2 he)]; rfl) (ih (i + 1) _ (by omega) hr)
    · rw [if_neg he] at hr
      exact Ev.congr (fun k => by rw [if_neg (fun e => he (hb.1 e))]; rfl) (ih (i + 1) _ (by omega) hr)
def webOf (Y M D h m s : Int) : List Int := webL ((dayN Y M D + 1) % 7) Y M D h m s
theorem ev_ReadWeb_yes {x : ByteArray} {Y M D h m s : Int} (hr : rightT Y M D h m s) (hx : bytesOf x = webOf Y M D h m s) : Ev (fun k => clock_ReadWeb.f k x) ((Y, M, D, h, m, s, true) : T7) := by
  obtain ⟨q1, q2, q3, q4, q5, q6⟩ := right_bd hr
  have hm := right_month hr
  have hw := week_bd (dayN Y M D)
  have ha := web_at hw hm hx
  have hz := ha.sz
  unfold clock_ReadWeb.f
  refine Ev.congr (fun k => by rw [if_pos (by omega)]) ?_
  refine Ev.bind (ev_field x 12 16 (by omega) (by omega) (by omega)) ?_
  refine Ev.bind (ev_field x 5 7 (by omega) (by omega) (by omega)) ?_
  refine Ev.bind (ev_field x 17 19 (by omega) (by omega) (by omega)) ?_
  refine Ev.bind (ev_field x 20 22 (by omega) (by omega) (by omega)) ?_
  refine Ev.bind (ev_field x 23 25 (by omega) (by omega) (by omega)) ?_
  rw [show fieldV x (Int.toNat 12) (Int.toNat 16) = Y from field_4 q1 ha.yy, show fieldV x (Int.toNat 5) (Int.toNat 7) = D from field_2 q3 ha.dd,
    show fieldV x (Int.toNat 17) (Int.toNat 19) = h from field_2 q4 ha.hh, show fieldV x (Int.toNat 20) (Int.toNat 22) = m from field_2 q5 ha.mi, show fieldV x (Int.toNat 23) (Int.toNat 25) = s from field_2 q6 ha.ss]
  refine ev_ReadWeb_loop x hz Y D h m s _ 12 0 0 (by omega) ?_
  rw [ha.mm, monF_of hm]
  unfold webS
  rw [if_pos hr]
  have hne : webL ((dayN Y M D + 1) % 7) Y M D h m s ≠ [] := by
    intro e
    have := congrArg List.length (hx.trans e)
    rw [bytesOf_len, hz] at this
    simp at this
  exact Ev.congr (fun k => by rw [kept_yes Y M D h m s x hne (web_bytes hw hr) hx]) (Ev.now _)
theorem ev_ReadWeb_no {x : ByteArray} (hn : ¬ ∃ Y M D h m s : Int, rightT Y M D h m s ∧ bytesOf x = webOf Y M D h m s) : Ev (fun k => clock_ReadWeb.f k x) zeroT := by
  unfold clock_ReadWeb.f
  by_cases hz : x.size = 29
  · refine Ev.congr (fun k => by rw [if_pos (by omega)]) ?_
    refine Ev.bind (ev_field x 12 16 (by omega) (by omega) (by omega)) ?_
    refine Ev.bind (ev_field x 5 7 (by omega) (by omega) (by omega)) ?_
    refine Ev.bind (ev_field x 17 19 (by omega) (by omega) (by omega)) ?_
    refine Ev.bind (ev_field x 20 22 (by omega) (by omega) (by omega)) ?_
    refine Ev.bind (ev_field x 23 25 (by omega) (by omega) (by omega)) ?_
    refine ev_ReadWeb_loop x hz _ _ _ _ _ _ 12 0 0 (by omega) ?_
    generalize monF (((bytesOf x).drop 8).take 3) 12 0 0 = M
    generalize fieldV x (Int.toNat 12) (Int.toNat 16) = Y
    generalize fieldV x (Int.toNat 5) (Int.toNat 7) = D
    generalize fieldV x (Int.toNat 17) (Int.toNat 19) = h
    generalize fieldV x (Int.toNat 20) (Int.toNat 22) = m
    generalize fieldV x (Int.toNat 23) (Int.toNat 25) = s
    unfold webS
    by_cases hr : rightT Y M D h m s
    · rw [if_pos hr]
      exact Ev.congr (fun k => by rw [kept_no Y M D h m s x (web_bytes (week_bd _) hr) (fun e => hn ⟨Y, M, D, h, m, s, hr, e⟩)]) (Ev.now _)
    · rw [if_neg hr]
      exact Ev.congr (fun k => by rw [kept_no Y M D h m s x (by intro x hx; cases hx) (fun e => by have := congrArg List.length e; rw [bytesOf_len, hz] at this; simp at this)]) (Ev.now _)
  · exact Ev.congr (fun k => by rw [if_neg (by omega)]; rfl) (Ev.now _)
end Go.Proofs.Ytdfghdppbfabfaa.P

/- ClockBack: for every int n of seconds: either its time is told, and these seconds come back, and each of its three forms is read back as it; or n lies out of the years 1 to 9999 and no time is told. -/
namespace Go.Proofs.Ytdfghdppbfabfaa.Pure
open Go.RowKit Go.Proofs.Ytdfghdppbfabfaa.P Go.Proofs.YtdfghdppbfabfaaW.PrintWords Go.Proofs.YtdfghdppbfabfaaW.PrintLast
set_option linter.unusedVariables false
set_option linter.unusedSimpArgs false

theorem i64_wf {n : Int} (h : (Lit.int .i64 n).wf = true) : -9223372036854775808 ≤ n ∧ n ≤ 9223372036854775807 := by
  simp only [Lit.wf, IntKind.min, IntKind.max, IntKind.signed, IntKind.bits, Bool.and_eq_true, decide_eq_true_eq] at h
  simp at h
  omega
theorem back_sec {N r n : Int} (hN : N = n / 86400 + 719162) (hr : r = n % 86400) : (N - 719162) * 86400 + r / 3600 * 3600 + r % 3600 / 60 * 60 + r % 60 = n := by omega
theorem ClockBack : shadowboxlaw15_ClockBack.Pure := by
  intro n hn
  have hw := i64_wf hn
  refine Ev.rounds ?_
  obtain ⟨t, ht, et⟩ := ev_Of n hw
  refine Ev.congr (fun k => by rw [shadowboxlaw15_ClockBack.f]) ?_
  refine Ev.bind et ?_
  unfold ofS at ht
  by_cases hb : -62135596800 ≤ n ∧ n ≤ 253402300799
  · rw [if_pos hb] at ht
    obtain ⟨Y, M, D, hi, rfl⟩ := ht
    have hs := back_sec rfl (show n % 86400 = n % 86400 from rfl)
    have h1 : 0 ≤ n % 86400 / 3600 ∧ n % 86400 / 3600 ≤ 23 := by omega
    have h2 : 0 ≤ n % 86400 % 3600 / 60 ∧ n % 86400 % 3600 / 60 ≤ 59 := by omega
    have h3 : 0 ≤ n % 86400 % 60 ∧ n % 86400 % 60 ≤ 59 := by omega
    generalize n % 86400 / 3600 = h at *
    generalize n % 86400 % 3600 / 60 = m at *
    generalize n % 86400 % 60 = s at *
    have hr : rightT Y M D h m s := ⟨⟨hi.y0, hi.y1⟩, ⟨hi.d0, hi.d1⟩, h1, h2, h3⟩
    refine Ev.congr (fun k => by rw [if_pos rfl]) ?_
    refine Ev.bind (ev_Seconds Y M D h m s) ?_
    unfold secR
    rw [if_pos hr]
    unfold secT
    rw [hi.n, hs]
    refine Ev.bind (ev_Web Y M D h m s) ?_
    have hwk := week_bd (dayN Y M D)
    have b1 : bytesOf (webS Y M D h m s) = webOf Y M D h m s := by unfold webS; rw [if_pos hr]; exact bytesOf_strOf (web_bytes hwk hr)
    have b2 : bytesOf (isoS Y M D h m s) = isoL Y M D h m s := by unfold isoS; rw [if_pos hr]; exact bytesOf_strOf (iso_bytes hr)
    have b3 : bytesOf (shortS Y M D h m s) = shortL Y M D h m s := by unfold shortS; rw [if_pos hr]; exact bytesOf_strOf (short_bytes hr)
    refine Ev.bind (ev_ReadWeb_yes hr b1) ?_
    refine Ev.bind (ev_Iso Y M D h m s) ?_
    refine Ev.bind (ev_ReadIso_yes hr b2) ?_
    refine Ev.bind (ev_Short Y M D h m s) ?_
    refine Ev.bind (ev_ReadShort_yes hr b3) ?_
    refine Ev.congr (fun k => by rw [if_pos rfl, if_pos rfl, if_pos rfl, if_pos rfl, if_pos rfl, if_pos (by simp), if_pos (by simp), if_pos (by simp), if_pos hi.d0, days_eq, Option.bind_some, decide_eq_true hi.d1]) (Ev.now _)
  · rw [if_neg hb] at ht
    subst ht
    obtain ⟨u, hu, eu⟩ := ev_Of 0 (by omega)
    unfold ofS at hu
    rw [if_pos (by omega)] at hu
    obtain ⟨Y, M, D, hi, rfl⟩ := hu
    have h0 : IsT (0 / 86400 + 719162) 1970 1 1 := ⟨by decide, by decide, by decide, by decide, by decide, by decide, by decide⟩
    obtain ⟨rfl, rfl, rfl⟩ := hi.one h0
    refine Ev.congr (fun k => by rw [if_neg (by simp)]) ?_
    refine Ev.bind eu ?_
    refine Ev.congr (fun k => by rw [if_pos (by simp)]) ?_
    by_cases hl : n < -62135596800
    · exact Ev.congr (fun k => by rw [if_pos hl, if_pos rfl]; rfl) (Ev.now _)
    · exact Ev.congr (fun k => by rw [if_neg hl, if_pos (by omega), if_pos rfl]; rfl) (Ev.now _)
end Go.Proofs.Ytdfghdppbfabfaa.Pure

namespace Go.Proofs.Ytdfghdppbfabfaa.clockBack
open Go.ChangeShapes Go.WideShapes Go.ChangeAt Go.RowKit
open Go.ChangeMaps (open_string shut_string)
set_option linter.unusedVariables false
theorem own : ownKnob Try.prog.godebug = none := by kernel_rfl
set_option maxRecDepth 100000 in
theorem lifted (os : Os) (started : os.Started) (H : Type) (enc : TypeId × Value → H) :
    ReturnsInHanded {} Try.checked os 7 .any (Rows.clockBackSpec.pre6 enc Try.prog Try.f7 Rows.clockBackRow.domain false) (Rows.clockBackSpec.post enc Try.prog Try.f7 false true false false) := by
  refine returnsInHanded_of_change_sized (C := Try.checked) own started (by kernel_rfl) Try.func7
    (ChangeSpec.witness6 (enc := enc) (C := Try.checked) false ⟨#[], #[.int .i64 0], []⟩ 8 (by kernel_rfl) (by kernel_rfl) (by kernel_rfl) (by kernel_rfl)) ?_
  intro W base args ds gs before hval0 hW hcnd hsz0 _
  have hsz : (DataW.weightsEach Try.prog (Try.f7.params.toList ++ Rows.clockBackSpec.plain.varTypes Try.prog) (ds ++ gs)).all (· ≤ reachBytes) = true := hsz0
  have hval : ∀ (j : Nat) t v, Try.f7.params[j]? = some t → args[j]? = some v → Value.okWide Try.prog W .any base t v := hval0
  have hW' := hW
  obtain ⟨p, q, hA0, hV, rfl, hfz, hnd⟩ := hW
  have hA : DataW.TrodAll enc Try.prog W 0 (fun _ => true) true Try.f7.params.toList args.toList ds p := hA0
  rw [Try.params7] at hA hval hsz
  obtain ⟨v0, vs0, d0, ds0, p0, q0, hargs, rfl, rfl, h0, r0⟩ := trodAll_cons hA
  obtain ⟨rfl, rfl, rfl⟩ := trodAll_nil r0
  obtain rfl : args = #[v0] := by cases args; simp_all
  obtain ⟨rfl, rfl⟩ := trodVars_none hV
  obtain ⟨a0, rfl, rfl, rfl, w0⟩ := open_int Try.underlying3 (hval 0 3 v0 rfl rfl) h0
  clear hA0 hval0 hsz0 hsz
  refine (P.shadowboxlaw15_ClockBack.walk Pure.ClockBack a0 W w0).mono fun e W' ⟨he, bel⟩ => ?_
  subst he
  exact ⟨_, rfl, _, _, _, [], _, [], hW', trodAll_mk1 (shut_bool Try.underlying4 _), (trodAll_cons_mk (shut_int Try.underlying3 w0) trodAll_mk0), rfl, bel.frame _, fun h => by cases h⟩
theorem over : Rows.clockBackRow.holds Try.pinned (OpenSpec.ofChange Rows.clockBackSpec) :=
  OpenClaim.holds_of_wide 7 Try.f7 rfl rfl rfl rfl rfl rfl rfl ⟨rfl, rfl, rfl, rfl, rfl⟩ rfl rfl rfl rfl rfl (by kernel_rfl) Try.func7 (by kernel_rfl)
    (of_decide_eq_true (by kernel_rfl)) (by unfold Func.isWrapper; first | (rw [if_pos (by decide +kernel)]; kernel_rfl) | (rw [if_neg (by decide +kernel)]; exact ⟨rfl, rfl⟩))
    (fun os started H enc _ => lifted os started H enc)
theorem proved : Rows.ClockBackSaid := over
#print axioms proved
end Go.Proofs.Ytdfghdppbfabfaa.clockBack
namespace Go.Proofs.Ytdfghdppbfabfaa
/-- The row, under a short name, for the claim. -/
theorem clockBack_holds : Rows.ClockBackSaid := clockBack.proved
end Go.Proofs.Ytdfghdppbfabfaa
