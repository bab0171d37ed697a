/- ClockOrder: for every two ints n and m, of which the rest at 2 to the 37 is taken: where n, m and a day behind n have times: n is ahead of m just if its Iso text is, they are the same just if their times are, the day behind has the next weekday, and the web's form has 29 bytes; where one of them has none, the law asks the weekday of 1970-01-01 alone. -/
import Derived.Test.YtdfghdppbfabfaaBClockOrderc
import Derived.Test.YtdfghdppbfabfaaBClockOrderb
import Derived.Test.YtdfghdppbfabfaaRows
import Derived.WalkKit
import Derived.ProofKit
import Derived.OpenShut
import Derived.ShutString
import Derived.ChangeOld
import Derived.Below
import Derived.SizedLaws
set_option linter.unusedVariables false
set_option linter.unusedSimpArgs false

/- Times that are read in the form of the web: the program's. -/
namespace Go.Proofs.Ytdfghdppbfabfaa.P
open Go.RowKit Go.Proofs.YtdfghdppbfabfaaW.PrintWords Go.Proofs.YtdfghdppbfabfaaW.PrintLast Go.Proofs.YtdfghdppbfabfaaW.PrintMore
set_option linter.unusedVariables false
set_option linter.unusedSimpArgs false

theorem dayL_bytes {w : Int} (h : 0 ≤ w ∧ w < 7) : Bytes (dayL w) := by
  have key : ∀ i : Fin 7, ∀ x ∈ dayL (i.val : Int), 0 ≤ x ∧ x ≤ 255 := by decide
  obtain ⟨m, rfl⟩ := Int.eq_ofNat_of_zero_le h.1
  exact key ⟨m, by omega⟩
theorem monL_bytes {w : Int} (h : 0 ≤ w ∧ w < 12) : Bytes (monL w) := by
  have key : ∀ i : Fin 12, ∀ x ∈ monL (i.val : Int), 0 ≤ x ∧ x ≤ 255 := by decide
  obtain ⟨m, rfl⟩ := Int.eq_ofNat_of_zero_le h.1
  exact key ⟨m, by omega⟩
theorem monL_inj {a b : Int} (ha : 0 ≤ a ∧ a < 12) (hb : 0 ≤ b ∧ b < 12) (h : monL a = monL b) : a = b := by
  have key : ∀ i j : Fin 12, monL (i.val : Int) = monL (j.val : Int) → i = j := by decide
  obtain ⟨m, rfl⟩ := Int.eq_ofNat_of_zero_le ha.1
  obtain ⟨n, rfl⟩ := Int.eq_ofNat_of_zero_le hb.1
  have := key ⟨m, by omega⟩ ⟨n, by omega⟩ h
  have := congrArg Fin.val this
  simp at this
  omega
theorem week_bd (N : Int) : 0 ≤ (N + 1) % 7 ∧ (N + 1) % 7 < 7 := by omega
theorem web_bytes {w Y M D h m s : Int} (hw : 0 ≤ w ∧ w < 7) (hr : rightT Y M D h m s) : Bytes (webL w Y M D h m s) := by
  obtain ⟨q1, q2, q3, q4, q5, q6⟩ := right_bd hr
  have hm := right_month hr
  unfold webL
  repeat' first
    | refine app_bytes ?_ ?_
    | exact dayL_bytes hw
    | exact monL_bytes (by omega)
    | exact d4_bytes (by assumption)
    | exact d2_bytes (by assumption)
    | (intro x hx; simp at hx; omega)
theorem three {l : List Int} (h : l.length = 3) : ∃ a b c, l = [a, b, c] := by
  match l, h with
  | [a, b, c], _ => exact ⟨a, b, c, rfl⟩
structure WebAt (x : ByteArray) (Y M D h m s : Int) : Prop where
  sz : x.size = 29
  dd : ((bytesOf x).drop 5).take 2 = d2 D
  mm : ((bytesOf x).drop 8).take 3 = monL (M - 1)
  yy : ((bytesOf x).drop 12).take 4 = d4 Y
  hh : ((bytesOf x).drop 17).take 2 = d2 h
  mi : ((bytesOf x).drop 20).take 2 = d2 m
  ss : ((bytesOf x).drop 23).take 2 = d2 s
theorem web_at {x : ByteArray} {w Y M D h m s : Int} (hw : 0 ≤ w ∧ w < 7) (hm : 1 ≤ M ∧ M ≤ 12) (hx : bytesOf x = webL w Y M D h m s) : WebAt x Y M D h m s := by
  obtain ⟨a, b, c, e1⟩ := three (dayL_len hw)
  obtain ⟨p, q, r, e2⟩ := three (monL_len (w := M - 1) (by omega))
  unfold webL at hx
  rw [e1, e2] at hx
  refine ⟨?_, ?_, ?_, ?_, ?_, ?_, ?_⟩
  · rw [← bytesOf_len, hx]; rfl
  · rw [hx]; rfl
  · rw [hx, e2]; rfl
  · rw [hx]; rfl
  · rw [hx]; rfl
  · rw [hx]; rfl
  · rw [hx]; rfl
def monF (x : List Int) : Nat → Nat → Int → Int
  | 0, _, M => M
  | d + 1, i, M => monF x d (i + 1) (if monL (i : Int) = x then (i : Int) + 1 else M)
theorem monF_of {M : Int} (h : 1 ≤ M ∧ M ≤ 12) : monF (monL (M - 1)) 12 0 0 = M := by
  have key : ∀ i : Fin 12, monF (monL (i.val : Int)) 12 0 0 = (i.val : Int) + 1 := by decide
  obtain ⟨j, rfl⟩ : ∃ j : Nat, M = j + 1 := ⟨(M - 1).toNat, by omega⟩
  rw [show (j : Int) + 1 - 1 = j by omega]
  exact key ⟨j, by omega⟩
theorem ev_ReadWeb_loop (x : ByteArray) (hz : x.size = 29) (Y D h m s : Int) (r : T7) : ∀ (d i : Nat) (M : Int), i + d = 12 →
    (Ev (fun k => clock_kept.f Y (monF (((bytesOf x).drop 8).take 3) d i M) D h m s (webS Y (monF (((bytesOf x).drop 8).take 3) d i M) D h m s) x) r) →
    Ev (fun k => clock_ReadWeb.l0 k x (i : Int) Y M D h m s) r := by
  intro d
  induction d with
  | zero =>
    intro i M hi hr
    refine Ev.step (fun k => by rw [clock_ReadWeb.l0, if_neg (by omega)]) ?_
    refine Ev.bind (ev_Web Y M D h m s) ?_
    exact Ev.bind hr (Ev.now _)
  | succ d ih =>
    intro i M hi hr
    refine Ev.step (fun k => by rw [clock_ReadWeb.l0, if_pos (by omega), monname_eq (by omega), Option.bind_some, if_pos (by decide), if_pos (by omega), wk64 (n := (i : Int) + 1) (by omega)]) ?_
    have hb := toList_strOf (monL (i : Int)) (monL_bytes (by omega)) (x.extract 8 11)
    rw [bytesOf_extract, show 11 - 8 = 3 from rfl] at hb
    rw [monF] at hr
    by_cases he : monL (i : Int) = ((bytesOf x).drop 8).take 3
    · rw [if_pos he] at hr
      exact Ev.congr (fun k => by rw [if_pos (hb.2 he)]; rfl) (ih (i + 1) _ (by omega) hr)
    · rw [if_neg he] at hr
      exact Ev.congr (fun k => by rw [if_neg (fun e => he (hb.1 e))]; rfl) (ih (i + 1) _ (by omega) hr)
def webOf (Y M D h m s : Int) : List Int := webL ((dayN Y M D + 1) % 7) Y M D h m s
theorem ev_ReadWeb_yes {x : ByteArray} {Y M D h m s : Int} (hr : rightT Y M D h m s) (hx : bytesOf x = webOf Y M D h m s) : Ev (fun k => clock_ReadWeb.f k x) ((Y, M, D, h, m, s, true) : T7) := by
  obtain ⟨q1, q2, q3, q4, q5, q6⟩ := right_bd hr
  have hm := right_month hr
  have hw := week_bd (dayN Y M D)
  have ha := web_at hw hm hx
  have hz := ha.sz
  unfold clock_ReadWeb.f
  refine Ev.congr (fun k => by rw [if_pos (by omega)]) ?_
  refine Ev.bind (ev_field x 12 16 (by omega) (by omega) (by omega)) ?_
  refine Ev.bind (ev_field x 5 7 (by omega) (by omega) (by omega)) ?_
  refine Ev.bind (ev_field x 17 19 (by omega) (by omega) (by omega)) ?_
  refine Ev.bind (ev_field x 20 22 (by omega) (by omega) (by omega)) ?_
  refine Ev.bind (ev_field x 23 25 (by omega) (by omega) (by omega)) ?_
  rw [show fieldV x (Int.toNat 12) (Int.toNat 16) = Y from field_4 q1 ha.yy, show fieldV x (Int.toNat 5) (Int.toNat 7) = D from field_2 q3 ha.dd,
    show fieldV x (Int.toNat 17) (Int.toNat 19) = h from field_2 q4 ha.hh, show fieldV x (Int.toNat 20) (Int.toNat 22) = m from field_2 q5 ha.mi, show fieldV x (Int.toNat 23) (Int.toNat 25) = s from field_2 q6 ha.ss]
  refine ev_ReadWeb_loop x hz Y D h m s _ 12 0 0 (by omega) ?_
  rw [ha.mm, monF_of hm]
  unfold webS
  rw [if_pos hr]
  have hne : webL ((dayN Y M D + 1) % 7) Y M D h m s ≠ [] := by
    intro e
    have := congrArg List.length (hx.trans e)
    rw [bytesOf_len, hz] at this
    simp at this
  exact Ev.congr (fun k => by rw [kept_yes Y M D h m s x hne (web_bytes hw hr) hx]) (Ev.now _)
theorem ev_ReadWeb_no {x : ByteArray} (hn : ¬ ∃ Y M D h m s : Int, rightT Y M D h m s ∧ bytesOf x = webOf Y M D h m s) : Ev (fun k => clock_ReadWeb.f k x) zeroT := by
  unfold clock_ReadWeb.f
  by_cases hz : x.size = 29
  · refine Ev.congr (fun k => by rw [if_pos (by omega)]) ?_
    refine Ev.bind (ev_field x 12 16 (by omega) (by omega) (by omega)) ?_
    refine Ev.bind (ev_field x 5 7 (by omega) (by omega) (by omega)) ?_
    refine Ev.bind (ev_field x 17 19 (by omega) (by omega) (by omega)) ?_
    refine Ev.bind (ev_field x 20 22 (by omega) (by omega) (by omega)) ?_
    refine Ev.bind (ev_field x 23 25 (by omega) (by omega) (by omega)) ?_
    refine ev_ReadWeb_loop x hz _ _ _ _ _ _ 12 0 0 (by omega) ?_
    generalize monF (((bytesOf x).drop 8).take 3) 12 0 0 = M
    generalize fieldV x (Int.toNat 12) (Int.toNat 16) = Y
    generalize fieldV x (Int.toNat 5) (Int.toNat 7) = D
    generalize fieldV x (Int.toNat 17) (Int.toNat 19) = h
    generalize fieldV x (Int.toNat 20) (Int.toNat 22) = m
    generalize fieldV x (Int.toNat 23) (Int.toNat 25) = s
    unfold webS
    by_cases hr : rightT Y M D h m s
    · rw [if_pos hr]
      exact Ev.congr (fun k => by rw [kept_no Y M D h m s x (web_bytes (week_bd _) hr) (fun e => hn ⟨Y, M, D, h, m, s, hr, e⟩)]) (Ev.now _)
    · rw [if_neg hr]
      exact Ev.congr (fun k => by rw [kept_no Y M D h m s x (by intro x hx; cases hx) (fun e => by have := congrArg List.length e; rw [bytesOf_len, hz] at this; simp at this)]) (Ev.now _)
  · exact Ev.congr (fun k => by rw [if_neg (by omega)]; rfl) (Ev.now _)
end Go.Proofs.Ytdfghdppbfabfaa.P

/- ClockOrder: for every two ints n and m, of which the rest at 2 to the 37 is taken: where n, m and a day behind n have times: n is ahead of m just if its Iso text is, they are the same just if their times are, the day behind has the next weekday, and the web's form has 29 bytes; where one of them has none, the law asks the weekday of 1970-01-01 alone. -/
namespace Go.Proofs.Ytdfghdppbfabfaa.Pure
open Go.RowKit Go.Proofs.Ytdfghdppbfabfaa.P Go.Proofs.YtdfghdppbfabfaaW.PrintWords Go.Proofs.YtdfghdppbfabfaaW.PrintLast
set_option linter.unusedVariables false
set_option linter.unusedSimpArgs false

theorem i64_wfO {n : Int} (h : (Lit.int .i64 n).wf = true) : -9223372036854775808 ≤ n ∧ n ≤ 9223372036854775807 := by
  simp only [Lit.wf, IntKind.min, IntKind.max, IntKind.signed, IntKind.bits, Bool.and_eq_true, decide_eq_true_eq] at h
  simp at h
  omega
def lexI : List Int → List Int → Bool
  | [], [] => false
  | [], _ :: _ => true
  | _ :: _, [] => false
  | a :: x, b :: y => decide (a < b) || (decide (a = b) && lexI x y)
theorem u8_lt {a b : Int} (ha : 0 ≤ a ∧ a ≤ 255) (hb : 0 ≤ b ∧ b ≤ 255) : decide (UInt8.ofNat a.toNat < UInt8.ofNat b.toNat) = decide (a < b) := by
  rw [decide_eq_decide, UInt8.lt_iff_toNat_lt, UInt8.toNat_ofNat', UInt8.toNat_ofNat']
  omega
theorem u8_eq {a b : Int} (ha : 0 ≤ a ∧ a ≤ 255) (hb : 0 ≤ b ∧ b ≤ 255) : (UInt8.ofNat a.toNat == UInt8.ofNat b.toNat) = decide (a = b) := by
  have h : (UInt8.ofNat a.toNat = UInt8.ofNat b.toNat) ↔ a = b := by
    constructor
    · intro e
      have := congrArg UInt8.toNat e
      rw [UInt8.toNat_ofNat', UInt8.toNat_ofNat'] at this
      omega
    · rintro rfl; rfl
  by_cases e : a = b
  · rw [decide_eq_true e, beq_iff_eq.2 (h.2 e)]
  · rw [decide_eq_false e, beq_eq_false_iff_ne.2 (fun x => e (h.1 x))]
theorem less_map : ∀ (a b : List Int), Bytes a → Bytes b → Op.bytesLess (a.map fun n => UInt8.ofNat n.toNat) (b.map fun n => UInt8.ofNat n.toNat) = lexI a b
  | [], [], _, _ => rfl
  | [], _ :: _, _, _ => rfl
  | _ :: _, [], _, _ => rfl
  | a :: x, b :: y, ha, hb => by
    have h1 := ha a List.mem_cons_self
    have h2 := hb b List.mem_cons_self
    rw [List.map_cons, List.map_cons, lexI, ← less_map x y ha.tail hb.tail, ← u8_lt h1 h2, ← u8_eq h1 h2]
    rfl
theorem less_str (a b : List Int) (ha : Bytes a) (hb : Bytes b) : Op.bytesLess (strOfNums a).toList (strOfNums b).toList = lexI a b := by
  rw [Go.ByteArray.toList_eq, Go.ByteArray.toList_eq]
  exact less_map a b ha hb
theorem lex_c (c : Int) (r t : List Int) : lexI ([c] ++ r) ([c] ++ t) = lexI r t := by
  show (decide (c < c) || (decide (c = c) && lexI r t)) = _
  simp
theorem lex_2 {x y : Int} (hx : 0 ≤ x ∧ x < 100) (hy : 0 ≤ y ∧ y < 100) (r t : List Int) : lexI (d2 x ++ r) (d2 y ++ t) = true ↔ x < y ∨ (x = y ∧ lexI r t = true) := by
  show (decide (48 + x / 10 < 48 + y / 10) || (decide (48 + x / 10 = 48 + y / 10) && (decide (48 + x % 10 < 48 + y % 10) || (decide (48 + x % 10 = 48 + y % 10) && lexI r t)))) = true ↔ _
  simp only [Bool.or_eq_true, Bool.and_eq_true, decide_eq_true_eq]
  by_cases p : lexI r t = true
  · simp only [p, and_true]; omega
  · simp only [p, Bool.false_eq_true, and_false, or_false]; omega
theorem lex_4 {x y : Int} (hx : 0 ≤ x ∧ x < 10000) (hy : 0 ≤ y ∧ y < 10000) (r t : List Int) : lexI (d4 x ++ r) (d4 y ++ t) = true ↔ x < y ∨ (x = y ∧ lexI r t = true) := by
  show (decide (48 + x / 1000 < 48 + y / 1000) || (decide (48 + x / 1000 = 48 + y / 1000) && (decide (48 + x / 100 % 10 < 48 + y / 100 % 10) || (decide (48 + x / 100 % 10 = 48 + y / 100 % 10) && (decide (48 + x / 10 % 10 < 48 + y / 10 % 10) || (decide (48 + x / 10 % 10 = 48 + y / 10 % 10) && (decide (48 + x % 10 < 48 + y % 10) || (decide (48 + x % 10 = 48 + y % 10) && lexI r t)))))))) = true ↔ _
  simp only [Bool.or_eq_true, Bool.and_eq_true, decide_eq_true_eq]
  by_cases p : lexI r t = true
  · simp only [p, and_true]; omega
  · simp only [p, Bool.false_eq_true, and_false, or_false]; omega
theorem lex_end (l : List Int) : lexI l l = false := by
  induction l with
  | nil => rfl
  | cons a l ih => rw [lexI, ih]; simp
structure OfAt (n Y M D h m s : Int) : Prop where
  it : IsT (n / 86400 + 719162) Y M D
  rt : rightT Y M D h m s
  sec : n = n / 86400 * 86400 + h * 3600 + m * 60 + s
theorem of_some {n : Int} {t : T7} (hb : -62135596800 ≤ n ∧ n ≤ 253402300799) (ht : ofS n t) : ∃ Y M D h m s : Int, t = (Y, M, D, h, m, s, true) ∧ OfAt n Y M D h m s := by
  unfold ofS at ht
  rw [if_pos hb] at ht
  obtain ⟨Y, M, D, hi, rfl⟩ := ht
  refine ⟨Y, M, D, _, _, _, rfl, hi, ⟨⟨hi.y0, hi.y1⟩, ⟨hi.d0, hi.d1⟩, by omega, by omega, by omega⟩, by omega⟩
theorem of_none {n : Int} {t : T7} (hb : ¬ (-62135596800 ≤ n ∧ n ≤ 253402300799)) (ht : ofS n t) : t = zeroT := by
  unfold ofS at ht
  rw [if_neg hb] at ht
  exact ht
def lex6 (Y M D h m s Y' M' D' h' m' s' : Int) : Prop := Y < Y' ∨ (Y = Y' ∧ (M < M' ∨ (M = M' ∧ (D < D' ∨ (D = D' ∧ (h < h' ∨ (h = h' ∧ (m < m' ∨ (m = m' ∧ s < s')))))))))
theorem order_dates {N N' Y M D Y' M' D' : Int} (a : IsT N Y M D) (b : IsT N' Y' M' D') : ((Y < Y' ∨ (Y = Y' ∧ (M < M' ∨ (M = M' ∧ D < D')))) ∧ N < N') ∨ ((Y' < Y ∨ (Y' = Y ∧ (M' < M ∨ (M' = M ∧ D' < D)))) ∧ N' < N) ∨ (Y = Y' ∧ M = M' ∧ D = D' ∧ N = N') := by
  have h1 := @IsT.lt _ _ _ _ _ _ _ _ a b
  have h2 := @IsT.lt _ _ _ _ _ _ _ _ b a
  rcases (show (Y < Y' ∨ (Y = Y' ∧ (M < M' ∨ (M = M' ∧ D < D')))) ∨ (Y' < Y ∨ (Y' = Y ∧ (M' < M ∨ (M' = M ∧ D' < D)))) ∨ (Y = Y' ∧ M = M' ∧ D = D') by omega) with h | h | ⟨rfl, rfl, rfl⟩
  · exact .inl ⟨h, h1 h⟩
  · exact .inr (.inl ⟨h, h2 h⟩)
  · exact .inr (.inr ⟨rfl, rfl, rfl, a.n.symm.trans b.n⟩)
theorem order_secs {n n' Y M D h m s Y' M' D' h' m' s' : Int} (a : OfAt n Y M D h m s) (b : OfAt n' Y' M' D' h' m' s') : (n < n' ↔ lex6 Y M D h m s Y' M' D' h' m' s') ∧ (n = n' ↔ Y = Y' ∧ M = M' ∧ D = D' ∧ h = h' ∧ m = m' ∧ s = s') := by
  have e1 := a.sec
  have e2 := b.sec
  have o := order_dates a.it b.it
  have r1 := a.rt.2.2
  have r2 := b.rt.2.2
  unfold lex6
  generalize n / 86400 = q at *
  generalize n' / 86400 = q' at *
  clear a b
  rcases o with ⟨o, p⟩ | ⟨o, p⟩ | ⟨rfl, rfl, rfl, p⟩
  · constructor <;> omega
  · constructor <;> omega
  · constructor <;> omega
theorem iso_order {Y M D h m s Y' M' D' h' m' s' : Int} (a : rightT Y M D h m s) (b : rightT Y' M' D' h' m' s') : lexI (isoL Y M D h m s) (isoL Y' M' D' h' m' s') = true ↔ lex6 Y M D h m s Y' M' D' h' m' s' := by
  obtain ⟨q1, q2, q3, q4, q5, q6⟩ := right_bd a
  obtain ⟨p1, p2, p3, p4, p5, p6⟩ := right_bd b
  unfold isoL lex6
  rw [lex_4 q1 p1, lex_c, lex_2 q2 p2, lex_c, lex_2 q3 p3, lex_c, lex_2 q4 p4, lex_c, lex_2 q5 p5, lex_c, lex_2 q6 p6, lex_end]
  simp
theorem bool_eq {p q : Prop} [Decidable p] {b : Bool} (h : p ↔ q) (k : b = true ↔ q) : (decide p == b) = true := by
  rw [beq_iff_eq]
  by_cases e : p
  · rw [decide_eq_true e, k.2 (h.1 e)]
  · rw [decide_eq_false e]
    cases hb : b with
    | false => rfl
    | true => exact absurd (h.2 (k.1 hb)) e
theorem rest37 (a : Int) : -137438953472 < Int.tmod a 137438953472 ∧ Int.tmod a 137438953472 < 137438953472 := by
  have h1 := Int.tmod_lt_of_pos a (show (0 : Int) < 137438953472 by decide)
  have h2 := Int.lt_tmod_of_pos a (show (0 : Int) < 137438953472 by decide)
  exact ⟨h2, h1⟩
theorem none_case (x0 x1 : Int) (p0 p1 p2 p3 p4 p5 q0 q1 q2 q3 q4 q5 r0 r1 r2 r3 r4 r5 : Int) : Ev (fun k => shadowboxlaw15_ClockOrder.j0 k x0 x1 true p0 p1 p2 p3 p4 p5 q0 q1 q2 q3 q4 q5 r0 r1 r2 r3 r4 r5) true := by
  refine Ev.step (fun k => by rw [shadowboxlaw15_ClockOrder.j0, if_pos rfl]) ?_
  refine Ev.bind (ev_Weekday 1970 1 1 0 0 0) ?_
  have hr : rightT 1970 1 1 0 0 0 := by decide
  unfold weekT
  rw [if_pos hr, show (dayN 1970 1 1 + 1) % 7 = 4 by decide]
  exact Ev.now _
theorem ClockOrder : shadowboxlaw15_ClockOrder.Pure := by
  intro a b ha hb
  refine Ev.rounds ?_
  have hn := rest37 a
  have hm := rest37 b
  refine Ev.congr (fun k => by rw [shadowboxlaw15_ClockOrder.f]) ?_
  generalize Int.tmod a 137438953472 = n at *
  generalize Int.tmod b 137438953472 = m at *
  obtain ⟨t, ht, et⟩ := ev_Of n (by omega)
  obtain ⟨u, hu, eu⟩ := ev_Of m (by omega)
  obtain ⟨v, hv, ev⟩ := ev_Of (n + 86400) (by omega)
  rw [wk64 (n := n + 86400) (by omega)]
  refine Ev.bind et ?_
  refine Ev.bind eu ?_
  refine Ev.bind ev ?_
  by_cases b1 : -62135596800 ≤ n ∧ n ≤ 253402300799
  case neg =>
    rw [of_none b1 ht]
    exact Ev.congr (fun k => by rw [if_neg (by decide)]) (none_case _ _ _ _ _ _ _ _ _ _ _ _ _ _ _ _ _ _ _ _)
  obtain ⟨Y, M, D, h, i, s, rfl, o1⟩ := of_some b1 ht
  by_cases b2 : -62135596800 ≤ m ∧ m ≤ 253402300799
  case neg =>
    rw [of_none b2 hu]
    exact Ev.congr (fun k => by rw [if_pos rfl, if_neg (by decide)]) (none_case _ _ _ _ _ _ _ _ _ _ _ _ _ _ _ _ _ _ _ _)
  obtain ⟨Y', M', D', h', i', s', rfl, o2⟩ := of_some b2 hu
  by_cases b3 : -62135596800 ≤ n + 86400 ∧ n + 86400 ≤ 253402300799
  case neg =>
    rw [of_none b3 hv]
    exact Ev.congr (fun k => by rw [if_pos rfl, if_pos rfl]; rfl) (none_case _ _ _ _ _ _ _ _ _ _ _ _ _ _ _ _ _ _ _ _)
  obtain ⟨Y2, M2, D2, h2, i2, s2, rfl, o3⟩ := of_some b3 hv
  refine Ev.congr (fun k => by rw [if_pos rfl, if_pos rfl]) ?_
  refine Ev.step (fun k => by rw [shadowboxlaw15_ClockOrder.j0, if_neg (by simp)]) ?_
  refine Ev.bind (ev_Iso Y M D h i s) ?_
  refine Ev.bind (ev_Iso Y' M' D' h' i' s') ?_
  obtain ⟨w1, w2⟩ := order_secs o1 o2
  have q1 : (decide (n < m) == Op.bytesLess (isoS Y M D h i s).toList (isoS Y' M' D' h' i' s').toList) = true := by
    unfold isoS
    rw [if_pos o1.rt, if_pos o2.rt, less_str _ _ (iso_bytes o1.rt) (iso_bytes o2.rt)]
    exact bool_eq w1 (iso_order o1.rt o2.rt)
  have q2 : ((n == m) == (Y == Y' && (M == M' && (D == D' && (h == h' && (i == i' && (s == s'))))))) = true := by
    have := bool_eq (p := n = m) (b := (Y == Y' && (M == M' && (D == D' && (h == h' && (i == i' && (s == s'))))))) w2 (by simp)
    exact this
  refine Ev.congr (fun k => by rw [if_pos q1, if_pos q2]) ?_
  refine Ev.bind (ev_Weekday Y M D h i s) ?_
  refine Ev.bind (ev_Weekday Y2 M2 D2 h2 i2 s2) ?_
  unfold weekT
  rw [if_pos o1.rt, if_pos o3.rt, o1.it.n, o3.it.n]
  have q3 : Int.tmod (wrap64 ((n / 86400 + 719162 + 1) % 7 + 1)) 7 = ((n + 86400) / 86400 + 719162 + 1) % 7 := by
    rw [wk64 (by omega), tmod_nn 7 (by omega)]
    omega
  refine Ev.congr (fun k => by rw [if_pos q3]) ?_
  refine Ev.bind (ev_Web Y M D h i s) ?_
  have q4 : (webS Y M D h i s).size = 29 := by
    have hb : bytesOf (webS Y M D h i s) = webL ((dayN Y M D + 1) % 7) Y M D h i s := by unfold webS; rw [if_pos o1.rt]; exact bytesOf_strOf (web_bytes (week_bd _) o1.rt)
    exact (web_at (week_bd _) (right_month o1.rt) hb).sz
  exact Ev.congr (fun k => by rw [q4]; rfl) (Ev.now _)
end Go.Proofs.Ytdfghdppbfabfaa.Pure

namespace Go.Proofs.Ytdfghdppbfabfaa.clockOrder
open Go.ChangeShapes Go.WideShapes Go.ChangeAt Go.RowKit
open Go.ChangeMaps (open_string shut_string)
set_option linter.unusedVariables false
theorem own : ownKnob Try.prog.godebug = none := by kernel_rfl
set_option maxRecDepth 100000 in
theorem lifted (os : Os) (started : os.Started) (H : Type) (enc : TypeId × Value → H) :
    ReturnsInHanded {} Try.checked os 4 .any (Rows.clockOrderSpec.pre6 enc Try.prog Try.f4 Rows.clockOrderRow.domain false) (Rows.clockOrderSpec.post enc Try.prog Try.f4 false true false false) := by
  refine returnsInHanded_of_change_sized (C := Try.checked) own started (by kernel_rfl) Try.func4
    (ChangeSpec.witness6 (enc := enc) (C := Try.checked) false ⟨#[], #[.int .i64 0, .int .i64 0], []⟩ 8 (by kernel_rfl) (by kernel_rfl) (by kernel_rfl) (by kernel_rfl)) ?_
  intro W base args ds gs before hval0 hW hcnd hsz0 _
  have hsz : (DataW.weightsEach Try.prog (Try.f4.params.toList ++ Rows.clockOrderSpec.plain.varTypes Try.prog) (ds ++ gs)).all (· ≤ reachBytes) = true := hsz0
  have hval : ∀ (j : Nat) t v, Try.f4.params[j]? = some t → args[j]? = some v → Value.okWide Try.prog W .any base t v := hval0
  have hW' := hW
  obtain ⟨p, q, hA0, hV, rfl, hfz, hnd⟩ := hW
  have hA : DataW.TrodAll enc Try.prog W 0 (fun _ => true) true Try.f4.params.toList args.toList ds p := hA0
  rw [Try.params4] at hA hval hsz
  obtain ⟨v0, vs0, d0, ds0, p0, q0, hargs, rfl, rfl, h0, r0⟩ := trodAll_cons hA
  obtain ⟨v1, vs1, d1, ds1, p1, q1, rfl, rfl, rfl, h1, r1⟩ := trodAll_cons r0
  obtain ⟨rfl, rfl, rfl⟩ := trodAll_nil r1
  obtain rfl : args = #[v0, v1] := by cases args; simp_all
  obtain ⟨rfl, rfl⟩ := trodVars_none hV
  obtain ⟨a0, rfl, rfl, rfl, w0⟩ := open_int Try.underlying3 (hval 0 3 v0 rfl rfl) h0
  obtain ⟨a1, rfl, rfl, rfl, w1⟩ := open_int Try.underlying3 (hval 1 3 v1 rfl rfl) h1
  clear hA0 hval0 hsz0 hsz
  refine (P.shadowboxlaw15_ClockOrder.walk Pure.ClockOrder a0 a1 W w0 w1).mono fun e W' ⟨he, bel⟩ => ?_
  subst he
  exact ⟨_, rfl, _, _, _, [], _, [], hW', trodAll_mk1 (shut_bool Try.underlying4 _), (trodAll_cons_mk (shut_int Try.underlying3 w0) (trodAll_cons_mk (shut_int Try.underlying3 w1) trodAll_mk0)), rfl, bel.frame _, fun h => by cases h⟩
theorem over : Rows.clockOrderRow.holds Try.pinned (OpenSpec.ofChange Rows.clockOrderSpec) :=
  OpenClaim.holds_of_wide 4 Try.f4 rfl rfl rfl rfl rfl rfl rfl ⟨rfl, rfl, rfl, rfl, rfl⟩ rfl rfl rfl rfl rfl (by kernel_rfl) Try.func4 (by kernel_rfl)
    (of_decide_eq_true (by kernel_rfl)) (by unfold Func.isWrapper; first | (rw [if_pos (by decide +kernel)]; kernel_rfl) | (rw [if_neg (by decide +kernel)]; exact ⟨rfl, rfl⟩))
    (fun os started H enc _ => lifted os started H enc)
theorem proved : Rows.ClockOrderSaid := over
#print axioms proved
end Go.Proofs.Ytdfghdppbfabfaa.clockOrder
namespace Go.Proofs.Ytdfghdppbfabfaa
/-- The row, under a short name, for the claim. -/
theorem clockOrder_holds : Rows.ClockOrderSaid := clockOrder.proved
end Go.Proofs.Ytdfghdppbfabfaa
