/- HexNumbers: for every int, every string (of more than 2000 bytes: let go) and every byte, the program's digits of the number, the number of the text, and the kind of the byte are the document's; no condition. -/
import Derived.Test.YtcnkndmegnfofaaBHexNumbersa
import Derived.Test.YtcnkndmegnfofaaRows
import Derived.WalkKit
import Derived.ProofKit
import Derived.OpenShut
import Derived.ShutString
import Derived.ChangeOld
import Derived.Below
import Derived.SizedLaws

/- Numbers as digits: what Decimal and ReadDecimal, and the reference's, come to. -/
namespace Go.Proofs.Ytcnkndmegnfofaa.P
open Go.RowKit Go.Proofs.YtcnkndmegnfofaaW.PrintWords Go.Proofs.YtcnkndmegnfofaaW.PrintLast Go.Proofs.YtcnkndmegnfofaaW.PrintMore
set_option linter.unusedVariables false
set_option linter.unusedSimpArgs false

/-! ### ReadDecimal -/
def decF : Int → List Int → Option Int
  | acc, [] => some acc
  | acc, c :: r => if kindOf c = 1 then decF (acc * 10 + (c - 48)) r else none
def rdecG (acc : Int) (l : List Int) : Int × Bool := match decF acc l with
  | some n => (n, true)
  | none => (0, false)
def rdec (l : List Int) : Int × Bool := if l.length = 0 ∨ l.length > 18 then (0, false) else rdecG 0 l
theorem rdecG_ok {acc c : Int} {r : List Int} (h : kindOf c = 1) : rdecG acc (c :: r) = rdecG (acc * 10 + (c - 48)) r := by
  unfold rdecG
  rw [decF, if_pos h]
theorem rdecG_no {acc c : Int} {r : List Int} (h : ¬ kindOf c = 1) : rdecG acc (c :: r) = (0, false) := by
  unfold rdecG
  rw [decF, if_neg h]
theorem ev_ReadDecimal_loop (s : ByteArray) (hs : s.size ≤ 1000) : ∀ (d i : Nat) (acc : Int), i + d = s.size → 0 ≤ acc → acc * 10 ^ d + 10 ^ d ≤ 1000000000000000000 →
    Ev (fun k => hex_ReadDecimal.l0 k s acc (s.size : Int) (i : Int)) (rdecG acc ((bytesOf s).drop i)) := by
  intro d
  induction d with
  | zero =>
    intro i acc hi h0 hb
    refine Ev.step (fun k => by rw [hex_ReadDecimal.l0, if_neg (by omega)]) ?_
    rw [List.drop_of_length_le (by rw [bytesOf_len]; omega)]
    exact Ev.now _
  | succ d ih =>
    intro i acc hi h0 hb
    have hp : (0 : Int) < 10 ^ d := Int.pow_pos (by omega)
    have hpe : (10 : Int) ^ (d + 1) = 10 ^ d * 10 := Int.pow_succ ..
    rw [hpe] at hb
    generalize hP : (10 : Int) ^ d = P at hb hp
    have hb2 : acc * 10 * P + 10 * P ≤ 1000000000000000000 := by
      have e1 : acc * (P * 10) = acc * 10 * P := by rw [Int.mul_comm P 10, Int.mul_assoc]
      omega
    have hacc : acc * 10 + 10 ≤ 1000000000000000000 := by
      have h1 : (acc * 10 + 10) * 1 ≤ (acc * 10 + 10) * P := Int.mul_le_mul_of_nonneg_left (by omega) (by omega)
      have h2 : (acc * 10 + 10) * P = acc * 10 * P + 10 * P := Int.add_mul ..
      omega
    rw [drop_bt s i (by omega)]
    have hw : wrap64 ((i : Int) + 1) = ((i + 1 : Nat) : Int) := by rw [w64 (by omega)]; rfl
    by_cases h1 : kindOf (bt s (i : Int)) = 1
    · have hk := kind1_iff.1 h1
      have e1 : (bt s (i : Int) - 48) % 256 = bt s (i : Int) - 48 := by omega
      have e2 : wrap64 (acc * 10) = acc * 10 := w64 (by omega)
      have e3 : wrap64 (acc * 10 + (bt s (i : Int) - 48)) = acc * 10 + (bt s (i : Int) - 48) := w64 (by omega)
      refine Ev.step (fun k => by rw [hex_ReadDecimal.l0, if_pos (by omega), if_pos (by omega), if_pos (by omega), show hex_Kind.f (bt s (i : Int)) = some (kindOf (bt s (i : Int))) from rfl, Option.bind_some, if_pos h1, e1, e2, e3, hw]) ?_
      rw [rdecG_ok h1]
      refine ih (i + 1) _ (by omega) (by omega) ?_
      rw [hP]
      have e4 : (acc * 10 + (bt s (i : Int) - 48)) * P ≤ (acc * 10 + 9) * P := Int.mul_le_mul_of_nonneg_right (by omega) (by omega)
      have e5 : (acc * 10 + 9) * P = acc * 10 * P + 9 * P := Int.add_mul ..
      omega
    · refine Ev.step (fun k => by rw [hex_ReadDecimal.l0, if_pos (by omega), if_pos (by omega), if_pos (by omega), show hex_Kind.f (bt s (i : Int)) = some (kindOf (bt s (i : Int))) from rfl, Option.bind_some, if_neg h1]) ?_
      rw [rdecG_no h1]
      exact Ev.now _
theorem ev_ReadDecimal (s : ByteArray) : Ev (fun k => hex_ReadDecimal.f k s) (rdec (bytesOf s)) := by
  unfold rdec
  rw [bytesOf_len]
  by_cases h0 : s.size = 0
  · rw [if_pos (.inl h0)]
    refine Ev.congr (fun k => by rw [hex_ReadDecimal.f, if_pos (size_nil.2 h0)]) ?_
    exact Ev.step (fun k => by rw [hex_ReadDecimal.j0, if_pos rfl]) (Ev.now _)
  · refine Ev.congr (fun k => by rw [hex_ReadDecimal.f, if_neg (fun e => h0 (size_nil.1 e))]) ?_
    by_cases h1 : s.size > 18
    · rw [if_pos (.inr h1)]
      exact Ev.step (fun k => by rw [hex_ReadDecimal.j0, if_pos (by rw [decide_eq_true_eq]; omega)]) (Ev.now _)
    · rw [if_neg (by omega)]
      refine Ev.step (fun k => by rw [hex_ReadDecimal.j0, if_neg (by rw [decide_eq_true_eq]; omega)]) ?_
      refine ev_ReadDecimal_loop s (by omega) s.size 0 0 (by omega) (by omega) ?_
      have : (10 : Int) ^ s.size ≤ 10 ^ 18 := by
        have h := Nat.pow_le_pow_right (n := 10) (by omega) (show s.size ≤ 18 by omega)
        exact_mod_cast h
      omega
theorem ev_rReadDecimal_loop (s : ByteArray) (hs : s.size ≤ 1000) : ∀ (d i : Nat) (acc : Int), i + d = s.size → 0 ≤ acc → acc * 10 ^ d + 10 ^ d ≤ 1000000000000000000 →
    Ev (fun k => shadowboxref04_ReadDecimal.l0 k s acc (i : Int)) (rdecG acc ((bytesOf s).drop i)) := by
  intro d
  induction d with
  | zero =>
    intro i acc hi h0 hb
    refine Ev.step (fun k => by rw [shadowboxref04_ReadDecimal.l0, if_neg (by omega)]) ?_
    rw [List.drop_of_length_le (by rw [bytesOf_len]; omega)]
    exact Ev.now _
  | succ d ih =>
    intro i acc hi h0 hb
    have hp : (0 : Int) < 10 ^ d := Int.pow_pos (by omega)
    have hpe : (10 : Int) ^ (d + 1) = 10 ^ d * 10 := Int.pow_succ ..
    rw [hpe] at hb
    generalize hP : (10 : Int) ^ d = P at hb hp
    have hb2 : acc * 10 * P + 10 * P ≤ 1000000000000000000 := by
      have e1 : acc * (P * 10) = acc * 10 * P := by rw [Int.mul_comm P 10, Int.mul_assoc]
      omega
    have hacc : acc * 10 + 10 ≤ 1000000000000000000 := by
      have h1 : (acc * 10 + 10) * 1 ≤ (acc * 10 + 10) * P := Int.mul_le_mul_of_nonneg_left (by omega) (by omega)
      have h2 : (acc * 10 + 10) * P = acc * 10 * P + 10 * P := Int.add_mul ..
      omega
    rw [drop_bt s i (by omega)]
    have hw : wrap64 ((i : Int) + 1) = ((i + 1 : Nat) : Int) := by rw [w64 (by omega)]; rfl
    refine Ev.step (fun k => by rw [shadowboxref04_ReadDecimal.l0, if_pos (by omega), if_pos (by omega)]) ?_
    refine Ev.bind (ev_rKind _) ?_
    by_cases h1 : kindOf (bt s (i : Int)) = 1
    · have hk := kind1_iff.1 h1
      have hv : hexVal (bt s (i : Int)) = bt s (i : Int) - 48 := by unfold hexVal; rw [if_pos h1]
      have e2 : wrap64 (acc * 10) = acc * 10 := w64 (by omega)
      have e3 : wrap64 (acc * 10 + (bt s (i : Int) - 48)) = acc * 10 + (bt s (i : Int) - 48) := w64 (by omega)
      refine Ev.congr (fun k => by rw [if_pos h1]) ?_
      refine Ev.bind (ev_rvalue_ok (.inl h1)) ?_
      refine Ev.congr (fun k => by rw [hv, e2, e3, hw]) ?_
      rw [rdecG_ok h1]
      refine ih (i + 1) _ (by omega) (by omega) ?_
      rw [hP]
      have e4 : (acc * 10 + (bt s (i : Int) - 48)) * P ≤ (acc * 10 + 9) * P := Int.mul_le_mul_of_nonneg_right (by omega) (by omega)
      have e5 : (acc * 10 + 9) * P = acc * 10 * P + 9 * P := Int.add_mul ..
      omega
    · refine Ev.congr (fun k => by rw [if_neg h1]) ?_
      rw [rdecG_no h1]
      exact Ev.now _
theorem ev_rReadDecimal (s : ByteArray) : Ev (fun k => shadowboxref04_ReadDecimal.f k s) (rdec (bytesOf s)) := by
  unfold rdec
  rw [bytesOf_len]
  by_cases h0 : s.size = 0
  · rw [if_pos (.inl h0)]
    refine Ev.congr (fun k => by rw [shadowboxref04_ReadDecimal.f, if_pos (by omega)]) ?_
    exact Ev.step (fun k => by rw [shadowboxref04_ReadDecimal.j0, if_pos rfl]) (Ev.now _)
  · refine Ev.congr (fun k => by rw [shadowboxref04_ReadDecimal.f, if_neg (by omega)]) ?_
    by_cases h1 : s.size > 18
    · rw [if_pos (.inr h1)]
      exact Ev.step (fun k => by rw [shadowboxref04_ReadDecimal.j0, if_pos (by rw [decide_eq_true_eq]; omega)]) (Ev.now _)
    · rw [if_neg (by omega)]
      refine Ev.step (fun k => by rw [shadowboxref04_ReadDecimal.j0, if_neg (by rw [decide_eq_true_eq]; omega)]) ?_
      refine ev_rReadDecimal_loop s (by omega) s.size 0 0 (by omega) (by omega) ?_
      have : (10 : Int) ^ s.size ≤ 10 ^ 18 := by
        have h := Nat.pow_le_pow_right (n := 10) (by omega) (show s.size ≤ 18 by omega)
        exact_mod_cast h
      omega

/-! ### Decimal -/
def natD (n : Nat) : List Int := if h : n < 10 then [48 + (n : Int)] else natD (n / 10) ++ [48 + ((n % 10 : Nat) : Int)]
  termination_by n
  decreasing_by omega
def decL (n : Int) : List Int := if n < 0 then 45 :: natD n.natAbs else natD n.natAbs
theorem natD_lt {n : Nat} (h : n < 10) : natD n = [48 + (n : Int)] := by rw [natD, dif_pos h]
theorem natD_ge {n : Nat} (h : ¬ n < 10) : natD n = natD (n / 10) ++ [48 + ((n % 10 : Nat) : Int)] := by rw [natD, dif_neg h]
theorem natD_bytes : ∀ (d n : Nat), n ≤ d → Bytes (natD n)
  | d, n, hd => by
    by_cases h : n < 10
    · rw [natD_lt h]; exact Bytes.cons (by omega) Bytes.nil
    · rw [natD_ge h]
      cases d with
      | zero => omega
      | succ d => exact Bytes.append (natD_bytes d (n / 10) (by omega)) (Bytes.cons (by omega) Bytes.nil)
theorem decL_bytes (n : Int) : Bytes (decL n) := by
  unfold decL
  split
  · exact Bytes.cons (by omega) (natD_bytes _ _ (Nat.le_refl _))
  · exact natD_bytes _ _ (Nat.le_refl _)
theorem natD_len : ∀ (d n : Nat), n < 10 ^ (d + 1) → (natD n).length ≤ d + 1
  | d, n, hd => by
    by_cases h : n < 10
    · rw [natD_lt h]; simp
    · rw [natD_ge h]
      cases d with
      | zero => simp at hd; omega
      | succ d =>
        have h1 : n / 10 < 10 ^ (d + 1) := by
          rw [Nat.pow_succ] at hd
          omega
        have := natD_len d (n / 10) h1
        simp
        omega
theorem hexD_dec {n : Int} (h0 : 0 ≤ n) (h1 : n < 10) : hexD n = 48 + n := by unfold hexD; rw [if_pos h1]
theorem set_at (a r : List Int) (x v : Int) : (a ++ x :: r).set a.length v = a ++ v :: r := by
  rw [List.set_append]
  simp
theorem ev_Decimal_swap (n : Nat) : ∀ (a m b : List Int), m.length ≤ n → a.length + m.length + b.length ≤ 1000 →
    Ev (fun k => hex_Decimal.l1 k (a ++ m ++ b) (a.length : Int) ((a.length : Int) + (m.length : Int) - 1)) (strOfNums (a ++ m.reverse ++ b)) := by
  induction n using Nat.strongRecOn with
  | _ n ih =>
    intro a m b hm hl
    by_cases h1 : m.length ≤ 1
    · refine Ev.step (fun k => by rw [hex_Decimal.l1, if_neg (by omega)]) ?_
      have : m.reverse = m := by
        match m, h1 with
        | [], _ => rfl
        | [_], _ => rfl
      rw [this]
      exact Ev.now _
    · obtain ⟨x, m1, rfl⟩ : ∃ x m1, m = x :: m1 := by
        cases m with
        | nil => simp at h1
        | cons x m1 => exact ⟨x, m1, rfl⟩
      have hne : m1 ≠ [] := by rintro rfl; simp at h1
      obtain ⟨m2, y, rfl⟩ : ∃ m2 y, m1 = m2 ++ [y] := ⟨m1.dropLast, m1.getLast hne, (List.dropLast_concat_getLast hne).symm⟩
      have hL : (x :: (m2 ++ [y])).length = m2.length + 2 := by simp
      have e0 : a ++ (x :: (m2 ++ [y])) ++ b = a ++ x :: (m2 ++ y :: b) := by simp
      have e1 : a ++ x :: (m2 ++ y :: b) = (a ++ x :: m2) ++ y :: b := by simp
      have hra : rd (a ++ x :: (m2 ++ y :: b)) (a.length : Int) = x := by
        unfold rd; rw [Int.toNat_natCast]; simp
      have hj : (a.length : Int) + ((x :: (m2 ++ [y])).length : Int) - 1 = ((a ++ x :: m2).length : Int) := by rw [hL]; simp; omega
      have hry : rd (a ++ x :: (m2 ++ y :: b)) ((a ++ x :: m2).length : Int) = y := by
        unfold rd; rw [Int.toNat_natCast, e1]; simp
      have hs1 : (a ++ x :: (m2 ++ y :: b)).set (a.length : Int).toNat y = a ++ y :: (m2 ++ y :: b) := by rw [Int.toNat_natCast, set_at]
      have hs2 : (a ++ y :: (m2 ++ y :: b)).set ((a ++ x :: m2).length : Int).toNat x = (a ++ [y]) ++ m2 ++ ([x] ++ b) := by
        rw [Int.toNat_natCast, show (a ++ x :: m2).length = (a ++ y :: m2).length by simp, show a ++ y :: (m2 ++ y :: b) = (a ++ y :: m2) ++ y :: b by simp, set_at]
        simp
      have hlen : ((a ++ x :: (m2 ++ y :: b)).length : Int) = (a.length : Int) + (m2.length : Int) + (b.length : Int) + 2 := by simp; omega
      have hlx : ((a ++ x :: m2).length : Int) = (a.length : Int) + (m2.length : Int) + 1 := by simp; omega
      have hw1 : wrap64 ((a.length : Int) + 1) = ((a ++ [y]).length : Int) := by rw [w64 (by omega)]; simp
      have hw2 : wrap64 (((a ++ x :: m2).length : Int) - 1) = ((a ++ [y]).length : Int) + (m2.length : Int) - 1 := by rw [w64 (by omega)]; simp; omega
      rw [e0, hj]
      refine Ev.step (fun k => by rw [hex_Decimal.l1, if_pos (by omega), if_pos (by omega), if_pos (by omega), if_pos (by omega), if_pos (by omega), hra, hry, hs1, hs2, hw1, hw2]) ?_
      have := ih (n - 1) (by omega) (a ++ [y]) m2 ([x] ++ b) (by rw [hL] at hm; omega) (by simp at hl ⊢; omega)
      rw [show a ++ (x :: (m2 ++ [y])).reverse ++ b = a ++ [y] ++ m2.reverse ++ ([x] ++ b) by simp]
      exact this
theorem ev_Decimal_rev (l : List Int) (hl : l.length ≤ 1000) : Ev (fun k => hex_Decimal.j2 k l) (strOfNums l.reverse) := by
  have hw : wrap64 ((l.length : Int) - 1) = (l.length : Int) - 1 := w64 (by omega)
  refine Ev.step (fun k => by rw [hex_Decimal.j2, hw]) ?_
  have := ev_Decimal_swap l.length [] l [] (Nat.le_refl _) (by simp; omega)
  simpa using this
theorem ev_Decimal_loop (x0 : Int) (d : Nat) : ∀ (m : Nat) (acc : List Int), m < 10 ^ (d + 1) → m ≤ 9223372036854775808 → acc.length + d ≤ 100 →
    Ev (fun k => hex_Decimal.l0 k x0 (m : Int) acc) (strOfNums (if x0 < 0 then 45 :: (natD m ++ acc.reverse) else natD m ++ acc.reverse)) := by
  induction d with
  | zero =>
    intro m acc hm hb ha
    have e1 : Int.tmod (m : Int) 10 = (m : Int) := by rw [Int.tmod_eq_emod_of_nonneg (by omega)]; simp at hm; omega
    have e2 : IntKind.u64.wrap (Int.tdiv (m : Int) 10) = 0 := by rw [Int.tdiv_eq_ediv_of_nonneg (by omega), IntWalk.u64_in _ (by omega)]; simp at hm; omega
    have e3 := hexD_at (m : Int) (by omega) (by simp at hm; omega)
    have e4 : hexD (m : Int) = 48 + (m : Int) := hexD_dec (by omega) (by simp at hm; omega)
    have hn := natD_lt (n := m) (by simpa using hm)
    refine Ev.step (fun k => by rw [hex_Decimal.l0, e1, e2, e3, e4, if_pos (by omega), if_pos (by simp at hm; omega), if_pos (by omega), Option.bind_some, if_pos rfl]) ?_
    by_cases hx : x0 < 0
    · refine Ev.congr (fun k => by rw [if_pos hx, if_pos (by simp; omega)]) ?_
      rw [if_pos hx, hn]
      have := ev_Decimal_rev (acc ++ [48 + (m : Int)] ++ [45]) (by simp; omega)
      simpa using this
    · refine Ev.congr (fun k => by rw [if_neg hx]) ?_
      rw [if_neg hx, hn]
      have := ev_Decimal_rev (acc ++ [48 + (m : Int)]) (by simp; omega)
      simpa using this
  | succ d ih =>
    intro m acc hm hb ha
    have e1 : Int.tmod (m : Int) 10 = ((m % 10 : Nat) : Int) := by rw [Int.tmod_eq_emod_of_nonneg (by omega)]; omega
    have e2 : IntKind.u64.wrap (Int.tdiv (m : Int) 10) = ((m / 10 : Nat) : Int) := by rw [Int.tdiv_eq_ediv_of_nonneg (by omega), IntWalk.u64_in _ (by omega)]; omega
    have e3 := hexD_at ((m % 10 : Nat) : Int) (by omega) (by omega)
    have e4 : hexD ((m % 10 : Nat) : Int) = 48 + ((m % 10 : Nat) : Int) := hexD_dec (by omega) (by omega)
    refine Ev.step (fun k => by rw [hex_Decimal.l0, e1, e2, e3, e4, if_pos (by omega), if_pos (by omega), if_pos (by omega), Option.bind_some]) ?_
    by_cases h10 : m < 10
    · have hn := natD_lt h10
      have hm10 : m % 10 = m := by omega
      refine Ev.congr (fun k => by rw [if_pos (by omega)]) ?_
      rw [hm10]
      by_cases hx : x0 < 0
      · refine Ev.congr (fun k => by rw [if_pos hx, if_pos (by simp; omega)]) ?_
        rw [if_pos hx, hn]
        have := ev_Decimal_rev (acc ++ [48 + (m : Int)] ++ [45]) (by simp; omega)
        simpa using this
      · refine Ev.congr (fun k => by rw [if_neg hx]) ?_
        rw [if_neg hx, hn]
        have := ev_Decimal_rev (acc ++ [48 + (m : Int)]) (by simp; omega)
        simpa using this
    · refine Ev.congr (fun k => by rw [if_neg (by omega)]) ?_
      have := ih (m / 10) (acc ++ [48 + ((m % 10 : Nat) : Int)]) (by rw [Nat.pow_succ] at hm; omega) (by omega) (by simp; omega)
      rw [natD_ge h10, List.append_assoc]
      simpa using this
theorem ev_Decimal (n : Int) (h0 : -9223372036854775808 ≤ n) (h1 : n ≤ 9223372036854775807) : Ev (fun k => hex_Decimal.f k n) (strOfNums (decL n)) := by
  unfold decL
  by_cases hn : n < 0
  · have e : IntKind.u64.wrap (-(IntKind.u64.wrap n)) = (n.natAbs : Int) := by
      rw [IntKind.wrap_u64, IntKind.wrap_u64]; omega
    refine Ev.congr (fun k => by rw [hex_Decimal.f, if_pos hn, e]) ?_
    refine Ev.step (fun k => by rw [hex_Decimal.j0]) ?_
    have := ev_Decimal_loop n 19 n.natAbs [] (by omega) (by omega) (by simp)
    rw [if_pos hn] at this ⊢
    simpa using this
  · have e : IntKind.u64.wrap n = (n.natAbs : Int) := by
      rw [IntKind.wrap_u64]; omega
    refine Ev.congr (fun k => by rw [hex_Decimal.f, if_neg hn, e]) ?_
    refine Ev.step (fun k => by rw [hex_Decimal.j0]) ?_
    have := ev_Decimal_loop n 19 n.natAbs [] (by omega) (by omega) (by simp)
    rw [if_neg hn] at this ⊢
    simpa using this
theorem strOf_size (l : List Int) : (strOfNums l).size = l.length := strOfNums_size l
theorem ev_rDecimal_pos (d : Nat) : ∀ (n : Nat), n < 10 ^ (d + 1) → n ≤ 9223372036854775807 → Ev (fun k => shadowboxref04_Decimal.f k (n : Int)) (strOfNums (natD n)) := by
  induction d with
  | zero =>
    intro n hn hb
    have hd := shadowboxref04_Hex.dig (n : Int) (by omega) (by simp at hn; omega)
    have e4 : hexD (n : Int) = 48 + (n : Int) := hexD_dec (by omega) (by simp at hn; omega)
    rw [natD_lt (by simpa using hn)]
    refine Ev.step (fun k => by rw [shadowboxref04_Decimal.f, if_pos (by omega), decide_eq_true (by simp at hn; omega)]) ?_
    exact Ev.step (fun k => by rw [shadowboxref04_Decimal.j0, if_pos rfl, hd, Option.bind_some, e4]) (Ev.now _)
  | succ d ih =>
    intro n hn hb
    by_cases h10 : n < 10
    · have hd := shadowboxref04_Hex.dig (n : Int) (by omega) (by omega)
      have e4 : hexD (n : Int) = 48 + (n : Int) := hexD_dec (by omega) (by omega)
      rw [natD_lt h10]
      refine Ev.step (fun k => by rw [shadowboxref04_Decimal.f, if_pos (by omega), decide_eq_true (by omega)]) ?_
      exact Ev.step (fun k => by rw [shadowboxref04_Decimal.j0, if_pos rfl, hd, Option.bind_some, e4]) (Ev.now _)
    · have hd := shadowboxref04_Hex.dig ((n % 10 : Nat) : Int) (by omega) (by omega)
      have e4 : hexD ((n % 10 : Nat) : Int) = 48 + ((n % 10 : Nat) : Int) := hexD_dec (by omega) (by omega)
      have e1 : wrap64 (Int.tdiv (n : Int) 10) = ((n / 10 : Nat) : Int) := by rw [Int.tdiv_eq_ediv_of_nonneg (by omega), w64 (by omega)]; omega
      have e2 : Int.tmod (n : Int) 10 = ((n % 10 : Nat) : Int) := by rw [Int.tmod_eq_emod_of_nonneg (by omega)]; omega
      have h1 : n / 10 < 10 ^ (d + 1) := by rw [Nat.pow_succ] at hn; omega
      have hlen := natD_len 18 (n / 10) (by omega)
      rw [natD_ge h10]
      refine Ev.step (fun k => by rw [shadowboxref04_Decimal.f, if_pos (by omega), decide_eq_false (by omega)]) ?_
      refine Ev.step (fun k => by rw [shadowboxref04_Decimal.j0, if_neg (by decide), if_neg (by omega), e1, e2]) ?_
      refine Ev.bind (ih (n / 10) h1 (by omega)) ?_
      refine Ev.congr (fun k => by rw [hd, Option.bind_some, if_pos (by rw [strOf_size, strOf_size]; simp; omega), e4, ← strOf_append]) (Ev.now _)
def natD0 (n : Nat) : List Int := if n = 0 then [] else natD n
theorem natD_of0 (n : Nat) (h : n ≠ 0) : natD0 n = natD0 (n / 10) ++ [48 + ((n % 10 : Nat) : Int)] := by
  unfold natD0
  rw [if_neg h]
  by_cases h10 : n < 10
  · rw [natD_lt h10, if_pos (by omega)]
    simp; omega
  · rw [natD_ge h10, if_neg (by omega)]
theorem ev_rDecimal_neg (d : Nat) : ∀ (n : Nat) (acc : List Int), n < 10 ^ d → n ≤ 9223372036854775808 → acc.length + d ≤ 100 →
    Ev (fun k => shadowboxref04_Decimal.l0 k (-(n : Int)) (strOfNums acc)) (strOfNums (45 :: (natD0 n ++ acc))) := by
  induction d with
  | zero =>
    intro n acc hn hb ha
    have : n = 0 := by simp at hn; exact hn
    subst this
    refine Ev.step (fun k => by rw [shadowboxref04_Decimal.l0, if_neg (by omega), if_pos (by rw [strOf_size]; omega), show (⟨#[45]⟩ : ByteArray) = strOfNums [45] from rfl, ← strOf_append]) ?_
    exact Ev.now _
  | succ d ih =>
    intro n acc hn hb ha
    by_cases h0 : n = 0
    · subst h0
      refine Ev.step (fun k => by rw [shadowboxref04_Decimal.l0, if_neg (by omega), if_pos (by rw [strOf_size]; omega), show (⟨#[45]⟩ : ByteArray) = strOfNums [45] from rfl, ← strOf_append]) ?_
      exact Ev.now _
    · have hd := shadowboxref04_Hex.dig ((n % 10 : Nat) : Int) (by omega) (by omega)
      have e4 : hexD ((n % 10 : Nat) : Int) = 48 + ((n % 10 : Nat) : Int) := hexD_dec (by omega) (by omega)
      have e1 : wrap64 (-(Int.tmod (-(n : Int)) 10)) = ((n % 10 : Nat) : Int) := by
        rw [Int.neg_tmod, Int.tmod_eq_emod_of_nonneg (by omega), w64 (by omega)]; omega
      have e2 : wrap64 (Int.tdiv (-(n : Int)) 10) = -((n / 10 : Nat) : Int) := by
        rw [Int.neg_tdiv, Int.tdiv_eq_ediv_of_nonneg (by omega), w64 (by omega)]; omega
      refine Ev.step (fun k => by rw [shadowboxref04_Decimal.l0, if_pos (by omega), e1, e2, hd, Option.bind_some, if_pos (by rw [strOf_size, strOf_size]; simp; omega), e4, ← strOf_append]) ?_
      have := ih (n / 10) ([48 + ((n % 10 : Nat) : Int)] ++ acc) (by rw [Nat.pow_succ] at hn; omega) (by omega) (by simp; omega)
      rw [natD_of0 n h0, List.append_assoc]
      exact this
theorem ev_rDecimal (n : Int) (h0 : -9223372036854775808 ≤ n) (h1 : n ≤ 9223372036854775807) : Ev (fun k => shadowboxref04_Decimal.f k n) (strOfNums (decL n)) := by
  unfold decL
  by_cases hn : n < 0
  · rw [if_pos hn]
    refine Ev.step (fun k => by rw [shadowboxref04_Decimal.f, if_neg (by omega)]) ?_
    refine Ev.step (fun k => by rw [shadowboxref04_Decimal.j0, if_neg (by decide), if_pos hn]) ?_
    have := ev_rDecimal_neg 20 n.natAbs [] (by omega) (by omega) (by simp)
    rw [show -((n.natAbs : Nat) : Int) = n by omega, show natD0 n.natAbs = natD n.natAbs by unfold natD0; rw [if_neg (by omega)], List.append_nil] at this
    exact this
  · rw [if_neg hn]
    have := ev_rDecimal_pos 19 n.natAbs (by omega) (by omega)
    rw [show ((n.natAbs : Nat) : Int) = n by omega] at this
    exact this
end Go.Proofs.Ytcnkndmegnfofaa.P

/- HexNumbers: for every int, every string (of more than 2000 bytes: let go) and every byte, the program's digits of the number, the number of the text, and the kind of the byte are the document's; no condition. -/
namespace Go.Proofs.Ytcnkndmegnfofaa.Pure
open Go.RowKit Go.Proofs.Ytcnkndmegnfofaa.P Go.Proofs.YtcnkndmegnfofaaW.PrintWords Go.Proofs.YtcnkndmegnfofaaW.PrintLast
set_option linter.unusedVariables false
set_option linter.unusedSimpArgs false

theorem wf_i64 {n : Int} (h : (Lit.int .i64 n).wf = true) : -9223372036854775808 ≤ n ∧ n ≤ 9223372036854775807 := by
  simp only [Lit.wf, IntKind.min, IntKind.max, IntKind.signed, IntKind.bits, Bool.and_eq_true, decide_eq_true_eq] at h
  simp at h
  omega

theorem HexNumbers : shadowboxlaw04_HexNumbers.Pure := by
  intro n s c hn hs hc
  have hb := wf_i64 hn
  refine Ev.rounds ?_
  by_cases h0 : (s.size : Int) > 2000
  · exact Ev.congr (fun k => by rw [shadowboxlaw04_HexNumbers.f, if_pos h0]) (Ev.now _)
  refine Ev.congr (fun k => by rw [shadowboxlaw04_HexNumbers.f, if_neg h0]) ?_
  refine Ev.bind (ev_ReadDecimal s) ?_
  refine Ev.bind (ev_rReadDecimal s) ?_
  refine Ev.bind (ev_Decimal n hb.1 hb.2) ?_
  refine Ev.bind (ev_rDecimal n hb.1 hb.2) ?_
  refine Ev.congr (fun k => by rw [if_pos rfl, if_pos rfl, if_pos (by simp), show hex_Kind.f c = some (kindOf c) from rfl, Option.bind_some]) ?_
  refine Ev.bind (ev_rKind c) ?_
  refine Ev.congr (fun k => by rw [if_pos rfl]) ?_
  refine Ev.bind (ev_Decimal (-7) (by omega) (by omega)) ?_
  have e : strOfNums (decL (-7)) = (⟨#[45, 55]⟩ : ByteArray) := by
    unfold decL
    rw [if_pos (by omega), natD_lt (by decide)]
    rfl
  exact Ev.congr (fun k => by rw [e, show ((⟨#[45, 55]⟩ : ByteArray).toList == ([45, 55] : List UInt8)) = true by decide +kernel]) (Ev.now _)

end Go.Proofs.Ytcnkndmegnfofaa.Pure

namespace Go.Proofs.Ytcnkndmegnfofaa.hexNumbers
open Go.ChangeShapes Go.WideShapes Go.ChangeAt Go.RowKit
open Go.ChangeMaps (open_string shut_string)
set_option linter.unusedVariables false
theorem own : ownKnob Try.prog.godebug = none := by kernel_rfl
set_option maxRecDepth 100000 in
theorem lifted (os : Os) (started : os.Started) (H : Type) (enc : TypeId × Value → H) :
    ReturnsInHanded {} Try.checked os 6 .any (Rows.hexNumbersSpec.pre6 enc Try.prog Try.f6 Rows.hexNumbersRow.domain false) (Rows.hexNumbersSpec.post enc Try.prog Try.f6 false true false false) := by
  refine returnsInHanded_of_change_sized (C := Try.checked) own started (by kernel_rfl) Try.func6
    (ChangeSpec.witness6 (enc := enc) (C := Try.checked) false ⟨#[], #[.int .i64 0, .string ByteArray.empty, .int .u8 0], []⟩ 8 (by kernel_rfl) (by kernel_rfl) (by kernel_rfl) (by kernel_rfl)) ?_
  intro W base args ds gs before hval0 hW hcnd hsz0 _
  have hsz : (DataW.weightsEach Try.prog (Try.f6.params.toList ++ Rows.hexNumbersSpec.plain.varTypes Try.prog) (ds ++ gs)).all (· ≤ reachBytes) = true := hsz0
  have hval : ∀ (j : Nat) t v, Try.f6.params[j]? = some t → args[j]? = some v → Value.okWide Try.prog W .any base t v := hval0
  have hW' := hW
  obtain ⟨p, q, hA0, hV, rfl, hfz, hnd⟩ := hW
  have hA : DataW.TrodAll enc Try.prog W 0 (fun _ => true) true Try.f6.params.toList args.toList ds p := hA0
  rw [Try.params6] at hA hval hsz
  obtain ⟨v0, vs0, d0, ds0, p0, q0, hargs, rfl, rfl, h0, r0⟩ := trodAll_cons hA
  obtain ⟨v1, vs1, d1, ds1, p1, q1, rfl, rfl, rfl, h1, r1⟩ := trodAll_cons r0
  obtain ⟨v2, vs2, d2, ds2, p2, q2, rfl, rfl, rfl, h2, r2⟩ := trodAll_cons r1
  obtain ⟨rfl, rfl, rfl⟩ := trodAll_nil r2
  obtain rfl : args = #[v0, v1, v2] := by cases args; simp_all
  obtain ⟨rfl, rfl⟩ := trodVars_none hV
  obtain ⟨a0, rfl, rfl, rfl, w0⟩ := open_int Try.underlying3 (hval 0 3 v0 rfl rfl) h0
  obtain ⟨a1, rfl, rfl, rfl, y1⟩ := open_string Try.underlying9 (hval 1 9 v1 rfl rfl) h1
  have w1 : a1.size ≤ 140737488351232 := by
    have z := sized_string hsz (j := 1) (t := 9) rfl rfl
    rw [Array.length_toList] at z
    exact z
  obtain ⟨a2, rfl, rfl, rfl, w2⟩ := open_int Try.underlying5 (hval 2 5 v2 rfl rfl) h2
  clear hA0 hval0 hsz0 hsz
  refine (P.shadowboxlaw04_HexNumbers.walk Pure.HexNumbers a0 a1 a2 W w0 w1 w2).mono fun e W' ⟨he, bel⟩ => ?_
  subst he
  exact ⟨_, rfl, _, _, _, [], _, [], hW', trodAll_mk1 (shut_bool Try.underlying4 _), (trodAll_cons_mk (shut_int Try.underlying3 w0) (trodAll_cons_mk (shut_string Try.underlying9 y1) (trodAll_cons_mk (shut_int Try.underlying5 w2) trodAll_mk0))), rfl, bel.frame _, fun h => by cases h⟩
theorem over : Rows.hexNumbersRow.holds Try.pinned (OpenSpec.ofChange Rows.hexNumbersSpec) :=
  OpenClaim.holds_of_wide 6 Try.f6 rfl rfl rfl rfl rfl rfl rfl ⟨rfl, rfl, rfl, rfl, rfl⟩ rfl rfl rfl rfl rfl (by kernel_rfl) Try.func6 (by kernel_rfl)
    (of_decide_eq_true (by kernel_rfl)) (by unfold Func.isWrapper; first | (rw [if_pos (by decide +kernel)]; kernel_rfl) | (rw [if_neg (by decide +kernel)]; exact ⟨rfl, rfl⟩))
    (fun os started H enc _ => lifted os started H enc)
theorem proved : Rows.HexNumbersSaid := over
#print axioms proved
end Go.Proofs.Ytcnkndmegnfofaa.hexNumbers
namespace Go.Proofs.Ytcnkndmegnfofaa
/-- The row, under a short name, for the claim. -/
theorem hexNumbers_holds : Rows.HexNumbersSaid := hexNumbers.proved
end Go.Proofs.Ytcnkndmegnfofaa
