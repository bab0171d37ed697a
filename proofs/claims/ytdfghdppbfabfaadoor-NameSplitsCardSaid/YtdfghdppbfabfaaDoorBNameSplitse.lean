/- Part of the proof of NameSplits: walks and plain words, merged. -/
import Derived.Test.YtdfghdppbfabfaaDoorBNameSplitsd
import Derived.Test.YtdfghdppbfabfaaDoorBNameSplitsc
import Derived.Test.YtdfghdppbfabfaaDoorRows
import Derived.Test.YtdfghdppbfabfaaDoorCards
import Derived.Test.YtdfghdppbfabfaaDoorTie
import Derived.Test.YtdfghdppbfabfaaDoorChecked
import Derived.WalkKit
import Derived.ProofKit
import Derived.OpenShut
import Derived.Lay
import Derived.LaidMore
import Derived.LaidOnce
import Derived.SevenTiedAt
set_option linter.unusedVariables false
set_option linter.unusedSimpArgs false

/- hex.Decimal: what it answers. -/
set_option linter.unusedVariables false
set_option linter.unusedSimpArgs false
namespace Go.Proofs.YtdfghdppbfabfaaDoorX
open Go

/-- The digits of a number, the last one first. -/
def dgR (n : Nat) : List Int := if n < 10 then [48 + (n : Int)] else (48 + ((n % 10 : Nat) : Int)) :: dgR (n / 10)
theorem dgR_lt {n : Nat} (h : n < 10) : dgR n = [48 + (n : Int)] := by rw [dgR, if_pos h]
theorem dgR_ge {n : Nat} (h : ¬ n < 10) : dgR n = (48 + ((n % 10 : Nat) : Int)) :: dgR (n / 10) := by rw [dgR, if_neg h]
theorem dgR_len : ∀ (k n : Nat), n < 10 ^ (k + 1) → (dgR n).length ≤ k + 1
  | 0, n, h => by rw [dgR_lt (by omega)]; simp
  | k + 1, n, h => by
    by_cases h1 : n < 10
    · rw [dgR_lt h1]; simp
    · rw [dgR_ge h1, List.length_cons]
      have := dgR_len k (n / 10) (by rw [Nat.pow_succ] at h; omega)
      omega
theorem dgR_pos (n : Nat) : 0 < (dgR n).length := by
  by_cases h : n < 10
  · rw [dgR_lt h]; simp
  · rw [dgR_ge h]; simp
/-- A number's text. -/
def decI (n : Int) : List Int := (if n < 0 then dgR n.natAbs ++ [45] else dgR n.natAbs).reverse
def decT (n : Int) : List UInt8 := (decI n).map toB

def rvI (l0 : List Int) (i : Nat) (l : List Int) : Prop := l.length = l0.length ∧ ∀ k, k < l0.length → l.getD k 0 = if k < i ∨ l0.length - i ≤ k then l0.getD (l0.length - 1 - k) 0 else l0.getD k 0
theorem rv_end {l0 l : List Int} {i : Nat} (h : rvI l0 i l) (hi : l0.length ≤ 2 * i + 1) : l = l0.reverse := by
  obtain ⟨h1, h2⟩ := h
  apply List.ext_getElem
  · rw [h1, List.length_reverse]
  · intro k hk1 hk2
    have hk : k < l0.length := by omega
    have h3 := h2 k hk
    rw [List.getD_eq_getElem?_getD, List.getElem?_eq_getElem hk1] at h3
    rw [List.getElem_reverse]
    rw [show l[k] = (some l[k]).getD 0 from rfl, h3]
    split
    · rw [List.getD_eq_getElem?_getD, List.getElem?_eq_getElem (by omega)]; rfl
    · have e : l0.length - 1 - k = k := by omega
      rw [List.getD_eq_getElem?_getD, List.getElem?_eq_getElem (by omega)]
      simp only [e]; rfl
theorem rv_step {l0 l : List Int} {i j : Nat} (h : rvI l0 i l) (hj : i + j + 1 = l0.length) (hij : i < j) : rvI l0 (i + 1) ((l.set i (l.getD j 0)).set j (l.getD i 0)) := by
  obtain ⟨h1, h2⟩ := h
  refine ⟨by simp [h1], fun k hk => ?_⟩
  have gi := h2 i (by omega)
  have gj := h2 j (by omega)
  rw [if_neg (by omega)] at gi gj
  rw [List.getD_eq_getElem?_getD, List.getElem?_set]
  by_cases hkj : j = k
  · subst hkj
    rw [if_pos rfl, List.length_set, if_pos (by omega), Option.getD_some, gi, if_pos (by omega), show l0.length - 1 - j = i by omega]
  · rw [if_neg hkj, List.getElem?_set]
    by_cases hki : i = k
    · subst hki
      rw [if_pos rfl, if_pos (by omega), Option.getD_some, gj, if_pos (by omega), show l0.length - 1 - i = j by omega]
    · rw [if_neg hki, ← List.getD_eq_getElem?_getD, h2 k hk]
      by_cases hc : k < i ∨ l0.length - i ≤ k
      · rw [if_pos hc, if_pos (by omega)]
      · rw [if_neg hc, if_neg (by omega)]
theorem ev_rev (l0 : List Int) (hl : l0.length ≤ 1000) : ∀ (d i : Nat) (l : List Int), l0.length ≤ 2 * i + d → i ≤ l0.length → rvI l0 i l →
    Ev (fun n => F7_L4 n (i : Int) ((l0.length : Int) - 1 - i) l) (l0.reverse.map toB) := by
  intro d
  induction d with
  | zero =>
    intro i l hd hi h
    refine Ev.step (Ev.pure.congr fun n => ?_)
    have d1 : decide ((i : Int) < (l0.length : Int) - 1 - i) = false := decide_eq_false (by omega)
    simp only [F7_L4, d1, iteB_f]
    rw [rv_end h (by omega)]
  | succ d ih =>
    intro i l hd hi h
    refine Ev.step ?_
    by_cases hlt : (i : Int) < (l0.length : Int) - 1 - i
    · obtain ⟨j, hj⟩ : ∃ j : Nat, (l0.length : Int) - 1 - i = j := ⟨((l0.length : Int) - 1 - i).toNat, by omega⟩
      have d1 : decide ((i : Int) < (j : Int)) = true := decide_eq_true (by omega)
      have hll := h.1
      have w1 : IntKind.wrap .i64 ((i : Int) + 1) = ((i + 1 : Nat) : Int) := by rw [w64 (by omega)]; omega
      have w2 : IntKind.wrap .i64 ((j : Int) - 1) = (l0.length : Int) - 1 - ((i + 1 : Nat) : Int) := by rw [w64 (by omega)]; omega
      have e := ih (i + 1) _ (by omega) (by omega) (rv_step (j := j) h (by omega) (by omega))
      rw [hj]
      refine e.congr fun n => ?_
      simp only [F7_L4, d1, iteB_t, toNat_nat, w1, w2]
      have g1 : (0 ≤ (j : Int) ∧ (j : Int) < (l.length : Int)) := by omega
      have g2 : (0 ≤ (i : Int) ∧ (i : Int) < (l.length : Int)) := by omega
      have g3 : j < l.length := by omega
      have g4 : i < l.length := by omega
      rw [grd_t _ g1, grd_t _ g3, grd_t _ g2, grd_t _ g4, grd_t _ g2, grd_t _ g4, grd_t _ g1, grd_t _ g3]
      rfl
    · refine Ev.pure.congr fun n => ?_
      have d1 : decide ((i : Int) < (l0.length : Int) - 1 - i) = false := decide_eq_false hlt
      simp only [F7_L4, d1, iteB_f]
      rw [rv_end h (by omega)]
theorem ev_J3 (l : List Int) (h0 : 0 < l.length) (hl : l.length ≤ 1000) : Ev (fun n => F7_J3 n l) (l.reverse.map toB) := by
  have w1 : IntKind.wrap .i64 ((l.length : Int) - 1) = (l.length : Int) - 1 - ((0 : Nat) : Int) := by rw [w64 (by omega)]; omega
  refine (ev_rev l hl l.length 0 l (by omega) (by omega) ⟨rfl, fun k hk => by rw [if_neg (by omega)]⟩).congr fun n => ?_
  simp only [F7_J3, w1]; rfl
theorem digitAt (r : Nat) (h : r < 10) : ((([48, 49, 50, 51, 52, 53, 54, 55, 56, 57, 97, 98, 99, 100, 101, 102] : List UInt8).getD r 0).toNat : Int) = 48 + r := by
  have : ∀ r : Fin 10, ((([48, 49, 50, 51, 52, 53, 54, 55, 56, 57, 97, 98, 99, 100, 101, 102] : List UInt8).getD r.val 0).toNat : Int) = 48 + r.val := by decide
  exact this ⟨r, h⟩
theorem ev_digs (a : Int) : ∀ (k m : Nat) (l : List Int), m < 10 ^ (k + 1) → m < 10000000000000000000 → l.length + k ≤ 100 → Ev (fun n => F7_L2 n a (m : Int) l) ((if a < 0 then l ++ dgR m ++ [45] else l ++ dgR m).reverse.map toB) := by
  intro k
  induction k with
  | zero =>
    intro m l hm hb hl
    have hm' : m < 10 := by omega
    refine Ev.step ?_
    have e1 : (m : Int).tmod 10 = m := by rw [Int.tmod_eq_emod_of_nonneg (by omega)]; omega
    have e2 : (m : Int).tdiv 10 = 0 := by rw [Int.tdiv_eq_ediv_of_nonneg (by omega)]; omega
    have e3 : (IntKind.wrap .u64 0 == (0 : Int)) = true := by rw [wu64 (by omega)]; rfl
    rw [dgR_lt hm']
    by_cases ha : a < 0
    · rw [if_pos ha]
      refine (ev_J3 (l ++ [48 + (m : Int)] ++ [45]) (by simp) (by simp; omega)).congr fun n => ?_
      simp only [F7_L2, e1, e2, e3, toNat_nat, digitAt m hm', decide_eq_true ha, iteB_t]
      rw [grd_t _ (by omega), grd_t _ (by omega), grd_t _ (by omega)]
    · rw [if_neg ha]
      refine (ev_J3 (l ++ [48 + (m : Int)]) (by simp) (by simp; omega)).congr fun n => ?_
      simp only [F7_L2, e1, e2, e3, toNat_nat, digitAt m hm', decide_eq_false ha, iteB_t, iteB_f]
      rw [grd_t _ (by omega), grd_t _ (by omega)]
  | succ k ih =>
    intro m l hm hb hl
    by_cases hm' : m < 10
    · have := ih m l (by have : 10 ^ 1 ≤ 10 ^ (k + 1) := Nat.pow_le_pow_right (by omega) (by omega); omega) hb (by omega)
      exact this
    refine Ev.step ?_
    have e1 : (m : Int).tmod 10 = ((m % 10 : Nat) : Int) := by rw [Int.tmod_eq_emod_of_nonneg (by omega)]; omega
    have e2 : (m : Int).tdiv 10 = ((m / 10 : Nat) : Int) := by rw [Int.tdiv_eq_ediv_of_nonneg (by omega)]; omega
    have e4 : IntKind.wrap .u64 ((m / 10 : Nat) : Int) = ((m / 10 : Nat) : Int) := wu64 (by omega)
    have e3 : (((m / 10 : Nat) : Int) == (0 : Int)) = false := by rw [beq_eq_false_iff_ne]; omega
    have := ih (m / 10) (l ++ [48 + ((m % 10 : Nat) : Int)]) (by rw [Nat.pow_succ] at hm; omega) (by omega) (by simp; omega)
    rw [dgR_ge hm']
    rw [show (if a < 0 then l ++ (48 + ((m % 10 : Nat) : Int)) :: dgR (m / 10) ++ [45] else l ++ (48 + ((m % 10 : Nat) : Int)) :: dgR (m / 10)) = (if a < 0 then l ++ [48 + ((m % 10 : Nat) : Int)] ++ dgR (m / 10) ++ [45] else l ++ [48 + ((m % 10 : Nat) : Int)] ++ dgR (m / 10)) by simp]
    refine this.congr fun n => ?_
    simp only [F7_L2, e1, e2, e4, e3, toNat_nat, digitAt (m % 10) (by omega), iteB_f]
    rw [grd_t _ (by omega), grd_t _ (by omega)]
theorem ev_Decimal (a : Int) (h : -9223372036854775808 ≤ a ∧ a ≤ 9223372036854775807) : Ev (fun n => F7 n a) (decT a) := by
  have hd := ev_digs a 19 a.natAbs [] (by omega) (by omega) (by simp)
  simp only [List.nil_append] at hd
  unfold decT decI
  refine hd.congr fun n => ?_
  have hw : ∀ x : Int, IntKind.wrap .u64 x = x % 18446744073709551616 := fun x => rfl
  by_cases ha : a < 0
  · have e : IntKind.wrap .u64 (0 - IntKind.wrap .u64 a) = (a.natAbs : Int) := by rw [hw, hw]; omega
    simp only [F7, F7_J1, decide_eq_true ha, iteB_t, e]
  · have e : IntKind.wrap .u64 a = (a.natAbs : Int) := by rw [hw]; omega
    simp only [F7, F7_J1, decide_eq_false ha, iteB_f, e]
end Go.Proofs.YtdfghdppbfabfaaDoorX

/- Names: what name.Bucket and name.Split answer. -/
set_option linter.unusedVariables false
set_option linter.unusedSimpArgs false
namespace Go.Proofs.YtdfghdppbfabfaaDoorX
open Go

/-! hex.ReadDecimal -/
def decP : List UInt8 → Int → Int × Bool
  | [], n => (n, true)
  | c :: l, n => if kindOf (c.toNat : Int) = 1 then decP l (n * 10 + ((c.toNat : Int) - 48)) else (0, false)
theorem kind_one {c : Int} (h : kindOf c = 1) : 48 ≤ c ∧ c ≤ 57 := by
  unfold kindOf at h
  split at h
  · assumption
  · split at h
    · omega
    · split at h
      · omega
      · split at h <;> omega
theorem pow10 (i : Nat) (h : i ≤ 17) : 1 ≤ (10 : Int) ^ i ∧ (10 : Int) ^ i ≤ 100000000000000000 ∧ (10 : Int) ^ (i + 1) = 10 ^ i * 10 := by
  have h1 : (10 : Nat) ^ i ≤ 10 ^ 17 := Nat.pow_le_pow_right (by omega) h
  have h2 : 1 ≤ (10 : Nat) ^ i := Nat.pos_of_ne_zero (by simp)
  have h3 : ((10 : Nat) ^ i : Nat) = ((10 : Int) ^ i) := by simp
  refine ⟨by omega, by omega, Int.pow_succ _ _⟩
theorem ev_dec_l (l : List UInt8) (hl : l.length ≤ 18) : ∀ (d i : Nat) (x : Int), i + d = l.length → 0 ≤ x ∧ x < (10 : Int) ^ i → Ev (fun k => F19_L1 k l x (i : Int)) (decP (l.drop i) x) := by
  intro d
  induction d with
  | zero =>
    intro i x hi hx
    rw [List.drop_of_length_le (by omega)]
    refine Ev.step (Ev.pure.congr fun k => ?_)
    rw [F19_L1, decide_eq_false (by omega), iteB_f]; rfl
  | succ d ih =>
    intro i x hi hx
    rw [drop_cons l i 0 (by omega), decP]
    obtain ⟨p1, p2, p3⟩ := pow10 i (by omega)
    have hb := u8_lt (l.getD i 0)
    have w1 : IntKind.wrap .i64 ((i : Int) + 1) = ((i + 1 : Nat) : Int) := by rw [w64 (by omega)]; omega
    generalize hc : l.getD i 0 = c at *
    by_cases hk : kindOf (c.toNat : Int) = 1
    · rw [if_pos hk]
      have hk' := kind_one hk
      have e := ih (i + 1) (x * 10 + ((c.toNat : Int) - 48)) (by omega) (by rw [p3]; omega)
      refine Ev.step (e.congr fun k => ?_)
      rw [F19_L1, decide_eq_true (by omega), iteB_t, grd_t _ (by omega), toNat_nat, hc, F23, bind_some', hk]
      show iteB false _ _ = _
      rw [iteB_f, grd_t _ (by omega), wu8 (by omega), w64 (n := (c.toNat : Int) - 48) (by omega), w64 (n := x * 10) (by omega), w64 (n := x * 10 + _) (by omega), w1]
    · rw [if_neg hk]
      refine Ev.step (Ev.pure.congr fun k => ?_)
      rw [F19_L1, decide_eq_true (by omega), iteB_t, grd_t _ (by omega), toNat_nat, hc, F23, bind_some', show (kindOf (c.toNat : Int) != 1) = true by rw [bne_iff_ne]; exact hk, iteB_t]
def readD (l : List UInt8) : Int × Bool := if l = [] ∨ 18 < l.length then (0, false) else decP l 0
theorem ev_ReadDecimal (l : List UInt8) : Ev (fun k => F19 k l) (readD l) := by
  unfold readD
  cases l with
  | nil => rw [if_pos (Or.inl rfl)]; exact Ev.pure.congr fun k => rfl
  | cons a l =>
    by_cases h : 18 < (a :: l).length
    · rw [if_pos (Or.inr h)]
      refine Ev.pure.congr fun k => ?_
      rw [F19, show ((a :: l) == []) = false by rfl, iteB_f, decide_eq_true (by omega), iteB_t]
    · rw [if_neg (by simp only [reduceCtorEq, false_or]; exact h)]
      have e := ev_dec_l (a :: l) (by omega) (a :: l).length 0 0 (by omega) (by decide)
      refine e.congr fun k => ?_
      rw [F19, show ((a :: l) == []) = false by rfl, iteB_f, decide_eq_false (by omega), iteB_f]; rfl
theorem decP_bd : ∀ (l : List UInt8) (x : Int) (m : Nat), 0 ≤ x → x < (10 : Int) ^ m → m + l.length ≤ 18 → 0 ≤ (decP l x).1 ∧ (decP l x).1 ≤ 1000000000000000000
  | [], x, m, h0, h, hl => by
    have h1 : (10 : Nat) ^ m ≤ 10 ^ 18 := Nat.pow_le_pow_right (by omega) (by simpa using hl)
    have h3 : ((10 : Nat) ^ m : Nat) = ((10 : Int) ^ m) := by simp
    rw [decP]; dsimp only; omega
  | c :: l, x, m, h0, h, hl => by
    rw [decP]
    rw [List.length_cons] at hl
    obtain ⟨p1, p2, p3⟩ := pow10 m (by omega)
    by_cases hk : kindOf (c.toNat : Int) = 1
    · have hk' := kind_one hk
      rw [if_pos hk]
      exact decP_bd l _ (m + 1) (by omega) (by rw [p3]; omega) (by omega)
    · rw [if_neg hk]; dsimp only; omega
theorem readD_bd (l : List UInt8) : 0 ≤ (readD l).1 ∧ (readD l).1 ≤ 1000000000000000000 := by
  unfold readD
  split
  · dsimp only; omega
  · exact decP_bd l 0 0 (by omega) (by decide) (by omega)

/-! signs and labels -/
def smallB (c : Int) : Bool := kindOf c == 1 || (kindOf c == 2 || kindOf c == 3)
theorem small_eq (n : Nat) (c : Int) : F35 n c = some (smallB c) := by
  rw [F35, F23, bind_some']
  unfold smallB
  generalize kindOf c = k
  by_cases h1 : k = 1
  · subst h1; rfl
  · rw [show (k == (1 : Int)) = false by rw [beq_eq_false_iff_ne]; exact h1, iteB_f, Bool.false_or]
    by_cases h2 : k = 2
    · subst h2; rfl
    · rw [show (k == (2 : Int)) = false by rw [beq_eq_false_iff_ne]; exact h2, iteB_f, Bool.false_or]
      cases k == (3 : Int) <;> rfl
def okS (c : UInt8) : Bool := smallB (c.toNat : Int) || ((c.toNat : Int) == 46 || (c.toNat : Int) == 45)
theorem ev_signs_l (s : List UInt8) (hs : s.length ≤ 1000000) : ∀ (d i : Nat), i + d = s.length → Ev (fun k => F20_L1 k s (i : Int)) ((s.drop i).all okS) := by
  intro d
  induction d with
  | zero =>
    intro i hi
    rw [List.drop_of_length_le (by omega)]
    refine Ev.step (Ev.pure.congr fun k => ?_)
    rw [F20_L1, decide_eq_false (by omega), iteB_f]; rfl
  | succ d ih =>
    intro i hi
    have w1 : IntKind.wrap .i64 ((i : Int) + 1) = ((i + 1 : Nat) : Int) := by rw [w64 (by omega)]; omega
    have e := ih (i + 1) (by omega)
    rw [drop_cons s i 0 (by omega), List.all_cons]
    have q1 : ∀ x : UInt8, ((([46] : List UInt8).getD (0 : Int).toNat 0).toNat : Int) = 46 := fun _ => rfl
    have q2 : ((([45] : List UInt8).getD (0 : Int).toNat 0).toNat : Int) = 45 := rfl
    generalize hc : s.getD i 0 = c at *
    unfold okS
    by_cases h1 : smallB (c.toNat : Int) = true
    · rw [h1, Bool.true_or, Bool.true_and]
      refine Ev.step (e.congr fun k => ?_)
      rw [F20_L1, decide_eq_true (by omega), iteB_t, grd_t _ (by omega), toNat_nat, hc, small_eq, bind_some', h1, w1]; rfl
    · rw [Bool.not_eq_true] at h1
      rw [h1, Bool.false_or]
      by_cases h2 : (c.toNat : Int) = 46
      · rw [show ((c.toNat : Int) == 46) = true by rw [beq_iff_eq]; exact h2, Bool.true_or, Bool.true_and]
        refine Ev.step (e.congr fun k => ?_)
        rw [F20_L1, decide_eq_true (by omega), iteB_t, grd_t _ (by omega), toNat_nat, hc, small_eq, bind_some', h1, w1]
        show iteB true _ _ = _
        rw [iteB_t, grd_t _ (by omega), grd_t _ (by decide), q1 0, show ((c.toNat : Int) != 46) = false by rw [h2]; rfl, iteB_f]
      · rw [show ((c.toNat : Int) == 46) = false by rw [beq_eq_false_iff_ne]; exact h2, Bool.false_or]
        by_cases h3 : (c.toNat : Int) = 45
        · rw [show ((c.toNat : Int) == 45) = true by rw [beq_iff_eq]; exact h3, Bool.true_and]
          refine Ev.step (e.congr fun k => ?_)
          rw [F20_L1, decide_eq_true (by omega), iteB_t, grd_t _ (by omega), toNat_nat, hc, small_eq, bind_some', h1, w1]
          show iteB true _ _ = _
          rw [iteB_t, grd_t _ (by omega), grd_t _ (by decide), q1 0, show ((c.toNat : Int) != 46) = true by rw [bne_iff_ne]; exact h2, iteB_t, grd_t _ (by omega), grd_t _ (by decide), q2, show ((c.toNat : Int) != 45) = false by rw [h3]; rfl, iteB_f]
        · rw [show ((c.toNat : Int) == 45) = false by rw [beq_eq_false_iff_ne]; exact h3, Bool.false_and]
          refine Ev.step (Ev.pure.congr fun k => ?_)
          rw [F20_L1, decide_eq_true (by omega), iteB_t, grd_t _ (by omega), toNat_nat, hc, small_eq, bind_some', h1]
          show iteB true _ _ = _
          rw [iteB_t, grd_t _ (by omega), grd_t _ (by decide), q1 0, show ((c.toNat : Int) != 46) = true by rw [bne_iff_ne]; exact h2, iteB_t, grd_t _ (by omega), grd_t _ (by decide), q2, show ((c.toNat : Int) != 45) = true by rw [bne_iff_ne]; exact h3, iteB_t]
theorem ev_signs (s : List UInt8) (hs : s.length ≤ 1000000) : Ev (fun k => F20 k s) (s.all okS) := (ev_signs_l s hs s.length 0 (by omega)).congr fun k => rfl
theorem split_len (c : UInt8) : ∀ (s : List UInt8), ∀ p ∈ splitB c s, p.length ≤ s.length
  | [], p, h => by simp [splitB] at h; subst h; simp
  | x :: l, p, h => by
    rw [splitB] at h
    split at h
    · rcases List.mem_cons.1 h with rfl | h
      · simp
      · have := split_len c l p h; simp; omega
    · split at h
      · simp at h; subst h; simp
      · rename_i y ys e
        rcases List.mem_cons.1 h with rfl | h
        · have := split_len c l y (by rw [e]; simp); simp; omega
        · have := split_len c l p (by rw [e]; simp [h]); simp; omega
def labB (p : List UInt8) : Bool := !(p == []) && (smallB ((p.getD 0 0).toNat : Int) && smallB ((p.getD (p.length - 1) 0).toNat : Int))
theorem mem_getD {α : Type} [Inhabited α] {l : List α} {i : Nat} (h : i < l.length) : l.getD i default ∈ l := by
  rw [List.getD_eq_getElem?_getD, List.getElem?_eq_getElem h]; exact List.getElem_mem h
theorem ev_edges_l (l : List (List UInt8)) (hl : l.length ≤ 1000000) (hp : ∀ p ∈ l, p.length ≤ 1000000) : ∀ (d i : Nat), i + d = l.length → Ev (fun k => F21_L1 k l true (i : Int)) ((l.drop i).all labB) := by
  intro d
  induction d with
  | zero =>
    intro i hi
    rw [List.drop_of_length_le (by omega)]
    refine Ev.step (Ev.pure.congr fun k => ?_)
    rw [F21_L1, decide_eq_false (by omega), iteB_f]; rfl
  | succ d ih =>
    intro i hi
    have w1 : IntKind.wrap .i64 ((i : Int) + 1) = ((i + 1 : Nat) : Int) := by rw [w64 (by omega)]; omega
    have e := ih (i + 1) (by omega)
    have hm := hp _ (mem_getD (l := l) (i := i) (by omega))
    rw [drop_cons l i default (by omega), List.all_cons]
    generalize hc : l.getD i default = p at *
    unfold labB
    by_cases h0 : p = []
    · rw [show (p == []) = true by rw [h0]; rfl]
      refine Ev.step (Ev.pure.congr fun k => ?_)
      rw [F21_L1, decide_eq_true (by omega), iteB_t, grd_t _ (by omega), toNat_nat, hc, show (p == []) = true by rw [h0]; rfl]; rfl
    · have hlen : 0 < p.length := List.length_pos_iff.2 h0
      have hne : (p == []) = false := by rw [beq_eq_false_iff_ne]; exact h0
      have w2 : IntKind.wrap .i64 ((p.length : Int) - 1) = ((p.length - 1 : Nat) : Int) := by rw [w64 (by omega)]; omega
      have g1 : ((0 : Int)).toNat = 0 := rfl
      rw [hne, Bool.not_false, Bool.true_and]
      by_cases h1 : smallB ((p.getD 0 0).toNat : Int) = true
      · rw [h1, Bool.true_and]
        by_cases h2 : smallB ((p.getD (p.length - 1) 0).toNat : Int) = true
        · rw [h2, Bool.true_and]
          refine Ev.step (e.congr fun k => ?_)
          rw [F21_L1, decide_eq_true (by omega), iteB_t, grd_t _ (by omega), toNat_nat, hc, hne, iteB_f, grd_t _ (by omega), g1, small_eq, bind_some', h1, w2]
          show iteB false _ _ = _
          rw [iteB_f, grd_t _ (by omega), toNat_nat, small_eq, bind_some', h2, w1]; rfl
        · rw [Bool.not_eq_true] at h2
          rw [h2, Bool.false_and]
          refine Ev.step (Ev.pure.congr fun k => ?_)
          rw [F21_L1, decide_eq_true (by omega), iteB_t, grd_t _ (by omega), toNat_nat, hc, hne, iteB_f, grd_t _ (by omega), g1, small_eq, bind_some', h1, w2]
          show iteB false _ _ = _
          rw [iteB_f, grd_t _ (by omega), toNat_nat, small_eq, bind_some', h2]; rfl
      · rw [Bool.not_eq_true] at h1
        rw [h1, Bool.false_and, Bool.false_and]
        refine Ev.step (Ev.pure.congr fun k => ?_)
        rw [F21_L1, decide_eq_true (by omega), iteB_t, grd_t _ (by omega), toNat_nat, hc, hne, iteB_f, grd_t _ (by omega), g1, small_eq, bind_some', h1]; rfl
theorem split_count (c : UInt8) : ∀ s : List UInt8, (splitB c s).length ≤ s.length + 1
  | [] => by simp [splitB]
  | x :: l => by
    have ih := split_count c l
    rw [splitB]
    split
    · simp; omega
    · split
      · simp
      · rename_i y ys e
        rw [e] at ih
        simp at ih ⊢; omega
theorem ev_edges (s : List UInt8) (hs : s.length ≤ 100000) : Ev (fun k => F21 k s) ((splitB 46 s).all labB) := by
  have h1 := split_count 46 s
  exact (Ev.bind (g := fun k v => F21_L1 k v true (0 : Int)) (ev_Split 46 s (by omega)) (ev_edges_l _ (by omega) (fun p hp => by have := split_len 46 s p hp; omega) (splitB 46 s).length 0 (by omega))).congr fun k => rfl
def numB (p : List UInt8) : Bool := (readD p).2 && (!(decide (255 < (readD p).1)) && decT (readD p).1 == p)
theorem ev_addr_l (l : List (List UInt8)) (hl : l.length ≤ 1000000) : ∀ (d i : Nat), i + d = l.length → Ev (fun k => F8_L1 k l (i : Int)) ((l.drop i).all numB) := by
  intro d
  induction d with
  | zero =>
    intro i hi
    rw [List.drop_of_length_le (by omega)]
    refine Ev.step (Ev.pure.congr fun k => ?_)
    rw [F8_L1, decide_eq_false (by omega), iteB_f]; rfl
  | succ d ih =>
    intro i hi
    have w1 : IntKind.wrap .i64 ((i : Int) + 1) = ((i + 1 : Nat) : Int) := by rw [w64 (by omega)]; omega
    obtain ⟨N1, k1⟩ := ih (i + 1) (by omega)
    rw [drop_cons l i default (by omega), List.all_cons]
    generalize hc : l.getD i default = p at *
    obtain ⟨N2, k2⟩ := ev_ReadDecimal p
    have hb := readD_bd p
    obtain ⟨N3, k3⟩ := ev_Decimal (readD p).1 (by omega)
    refine Ev.step ⟨N1 + N2 + N3, fun n hn => ?_⟩
    have e1 : F8_L1 n l ((i + 1 : Nat) : Int) = some ((l.drop (i + 1)).all numB) := k1 n (by omega)
    have e2 : F19 n p = some (readD p) := k2 n (by omega)
    have e3 : F7 n (readD p).1 = some (decT (readD p).1) := k3 n (by omega)
    show F8_L1 (n + 1) l (i : Int) = _
    rw [F8_L1, decide_eq_true (by omega), iteB_t, grd_t _ (by omega), toNat_nat, hc, e2, bind_some', e3, bind_some', w1, e1]
    unfold numB
    cases (readD p).2
    · rfl
    · cases decide ((255 : Int) < (readD p).1)
      · cases (decT (readD p).1 == p) <;> rfl
      · rfl
def addrB (l : List (List UInt8)) : Bool := l.length == 4 && l.all numB
theorem ev_Address (s : List UInt8) (hs : s.length ≤ 100000) : Ev (fun k => F8 k s) (addrB (splitB 46 s)) := by
  have h1 := split_count 46 s
  obtain ⟨N1, k1⟩ := ev_Split 46 s (by omega)
  obtain ⟨N2, k2⟩ := ev_addr_l (splitB 46 s) (by omega) (splitB 46 s).length 0 (by omega)
  refine ⟨N1 + N2, fun n hn => ?_⟩
  have e1 : F18 n s [46] = some (splitB 46 s) := k1 n (by omega)
  have e2 : F8_L1 n (splitB 46 s) 0 = some ((splitB 46 s).all numB) := k2 n (by omega)
  show F8 n s = _
  rw [F8, e1, bind_some', e2]
  unfold addrB
  by_cases h : (splitB 46 s).length = 4
  · rw [h]; rfl
  · rw [show (((splitB 46 s).length : Int) != 4) = true by rw [bne_iff_ne]; omega, iteB_t, show ((splitB 46 s).length == 4) = false by rw [beq_eq_false_iff_ne]; exact h, Bool.false_and]
def preB (s p : List UInt8) : Bool := decide (p.length ≤ s.length) && s.take p.length == p
def sufB (s p : List UInt8) : Bool := decide (p.length ≤ s.length) && s.drop (s.length - p.length) == p
theorem pre_eq (n : Nat) (s p : List UInt8) : F36 n s p = some (preB s p) := by
  rw [F36, F48]
  unfold preB
  by_cases h : p.length ≤ s.length
  · rw [decide_eq_true (by omega), iteB_t, grd_t _ (by omega), bind_some', decide_eq_true h, toNat_nat, Bool.true_and]
  · rw [decide_eq_false (by omega), iteB_f, bind_some', decide_eq_false h, Bool.false_and]
theorem suf_eq (n : Nat) (s p : List UInt8) (hs : s.length ≤ 1000000) : F37 n s p = some (sufB s p) := by
  rw [F37, F49]
  unfold sufB
  by_cases h : p.length ≤ s.length
  · rw [decide_eq_true (by omega), iteB_t, w64 (by omega), grd_t _ (by omega), bind_some', decide_eq_true h, show ((s.length : Int) - (p.length : Int)).toNat = s.length - p.length by omega, Bool.true_and]
  · rw [decide_eq_false (by omega), iteB_f, bind_some', decide_eq_false h, Bool.false_and]
def keptB (s : List UInt8) : Bool := preB s [120, 110, 45, 45] || (preB s [115, 116, 104, 114, 101, 101, 45] || (sufB s [45, 115, 51, 97, 108, 105, 97, 115] || sufB s [45, 45, 111, 108, 45, 115, 51]))
theorem kept_eq (n : Nat) (s : List UInt8) (hs : s.length ≤ 1000000) : F22 n s = some (keptB s) := by
  rw [F22, pre_eq, bind_some', pre_eq, bind_some', suf_eq _ _ _ hs, bind_some', suf_eq _ _ _ hs, bind_some']
  unfold keptB
  cases preB s [120, 110, 45, 45] <;> cases preB s [115, 116, 104, 114, 101, 101, 45] <;> cases sufB s [45, 115, 51, 97, 108, 105, 97, 115] <;> rfl
def bucketT (s : List UInt8) : Int := if s.length < 3 then 1 else if 63 < s.length then 1 else if s.all okS = false then 2 else if (splitB 46 s).all labB = false then 3 else if addrB (splitB 46 s) = true then 4 else if keptB s = true then 5 else 0
theorem ev_Bucket (s : List UInt8) : Ev (fun k => F9 k s) (bucketT s) := by
  unfold bucketT
  by_cases h1 : s.length < 3
  · rw [if_pos h1]
    refine Ev.pure.congr fun k => ?_
    rw [F9, decide_eq_true (by omega), iteB_t]
  · rw [if_neg h1]
    by_cases h2 : 63 < s.length
    · rw [if_pos h2]
      refine Ev.pure.congr fun k => ?_
      rw [F9, decide_eq_false (by omega), iteB_f, decide_eq_true (by omega), iteB_t]
    · rw [if_neg h2]
      obtain ⟨N1, k1⟩ := ev_signs s (by omega)
      obtain ⟨N2, k2⟩ := ev_edges s (by omega)
      obtain ⟨N3, k3⟩ := ev_Address s (by omega)
      refine ⟨N1 + N2 + N3, fun n hn => ?_⟩
      have e1 : F20 n s = some (s.all okS) := k1 n (by omega)
      have e2 : F21 n s = some ((splitB 46 s).all labB) := k2 n (by omega)
      have e3 : F8 n s = some (addrB (splitB 46 s)) := k3 n (by omega)
      show F9 n s = _
      rw [F9, decide_eq_false (by omega), iteB_f, decide_eq_false (by omega), iteB_f, e1, bind_some', e2, bind_some', e3, bind_some', kept_eq _ _ (by omega), bind_some']
      cases s.all okS
      · rfl
      · cases (splitB 46 s).all labB
        · rfl
        · cases addrB (splitB 46 s)
          · cases keptB s <;> rfl
          · rfl
def nameT (s : List UInt8) : List UInt8 × List UInt8 × Bool := if bucketT (cutB 64 s).1 = 0 ∧ ((cutB 64 s).2.2 = true → bucketT (cutB 64 s).2.1 = 0) then ((cutB 64 s).1, (cutB 64 s).2.1, true) else ([], [], false)
theorem ev_nSplit (s : List UInt8) (hs : s.length ≤ 100000) : Ev (fun k => F11 k s) (nameT s) := by
  obtain ⟨N1, k1⟩ := ev_Bucket (cutB 64 s).1
  obtain ⟨N2, k2⟩ := ev_Bucket (cutB 64 s).2.1
  refine ⟨N1 + N2, fun n hn => ?_⟩
  have e1 : F9 n (cutB 64 s).1 = some (bucketT (cutB 64 s).1) := k1 n (by omega)
  have e2 : F9 n (cutB 64 s).2.1 = some (bucketT (cutB 64 s).2.1) := k2 n (by omega)
  show F11 n s = _
  rw [F11, Cut_eq n s 64 (by omega), bind_some', e1, bind_some', e2, bind_some']
  unfold nameT
  by_cases h1 : bucketT (cutB 64 s).1 = 0
  · rw [show (bucketT (cutB 64 s).1 != 0) = false by rw [h1]; rfl, iteB_f]
    by_cases h2 : (cutB 64 s).2.2 = true
    · rw [h2, iteB_t]
      by_cases h3 : bucketT (cutB 64 s).2.1 = 0
      · rw [show (bucketT (cutB 64 s).2.1 != 0) = false by rw [h3]; rfl, iteB_f, if_pos ⟨h1, fun _ => h3⟩]
      · rw [show (bucketT (cutB 64 s).2.1 != 0) = true by rw [bne_iff_ne]; exact h3, iteB_t, if_neg (fun h => h3 (h.2 rfl))]
    · rw [if_pos ⟨h1, fun h => absurd h h2⟩]
      rw [Bool.not_eq_true] at h2
      rw [h2, iteB_f]
  · rw [show (bucketT (cutB 64 s).1 != 0) = true by rw [bne_iff_ne]; exact h1, iteB_t, if_neg (fun h => h1 h.1)]
end Go.Proofs.YtdfghdppbfabfaaDoorX

/- The law NameSplits, of texts that are not too long. -/
set_option linter.unusedVariables false
set_option linter.unusedSimpArgs false
namespace Go.Proofs.YtdfghdppbfabfaaDoorX
open Go

theorem ev_has_l (s : List UInt8) (hs : s.length ≤ 1000000) : ∀ (d i : Nat), i + d = s.length → Ev (fun k => F12_L1 k s (i : Int)) (decide (64 ∈ s.drop i)) := by
  intro d
  induction d with
  | zero =>
    intro i hi
    rw [List.drop_of_length_le (by omega)]
    refine Ev.step (Ev.pure.congr fun k => ?_)
    rw [F12_L1, decide_eq_false (by omega), iteB_f]; rfl
  | succ d ih =>
    intro i hi
    have w1 : IntKind.wrap .i64 ((i : Int) + 1) = ((i + 1 : Nat) : Int) := by rw [w64 (by omega)]; omega
    have e := ih (i + 1) (by omega)
    rw [drop_cons s i 0 (by omega)]
    generalize hc : s.getD i 0 = c at *
    have hb : ((c.toNat : Int) == (64 : Int)) = (c == 64) := u8_lit c 64 (by omega)
    by_cases h : c = 64
    · rw [decide_eq_true (by rw [h]; simp)]
      refine Ev.step (Ev.pure.congr fun k => ?_)
      rw [F12_L1, decide_eq_true (by omega), iteB_t, grd_t _ (by omega), toNat_nat, hc, hb, show (c == 64) = true by rw [beq_iff_eq]; exact h, iteB_t]
    · rw [show decide (64 ∈ c :: s.drop (i + 1)) = decide (64 ∈ s.drop (i + 1)) by
        rw [decide_eq_decide, List.mem_cons]; exact ⟨fun q => q.resolve_left (fun e => h e.symm), Or.inr⟩]
      refine Ev.step (e.congr fun k => ?_)
      rw [F12_L1, decide_eq_true (by omega), iteB_t, grd_t _ (by omega), toNat_nat, hc, hb, show (c == 64) = false by rw [beq_eq_false_iff_ne]; exact h, iteB_f, w1]
theorem ev_has (s : List UInt8) (hs : s.length ≤ 1000000) : Ev (fun k => F12 k s) (decide (64 ∈ s)) := (ev_has_l s hs s.length 0 (by omega)).congr fun k => rfl
theorem fine_no (s : List UInt8) (h : bucketT s = 0) : 64 ∉ s := by
  intro hm
  unfold bucketT at h
  split at h
  · omega
  · split at h
    · omega
    · split at h
      · omega
      · rename_i h3
        apply h3
        rw [List.all_eq_false]
        exact ⟨64, hm, by decide⟩
def dataL : List UInt8 := [100, 97, 116, 97]
def mondayL : List UInt8 := [109, 111, 110, 100, 97, 121]
theorem data_fine : bucketT dataL = 0 := by decide
theorem monday_fine : bucketT mondayL = 0 := by decide
theorem ex_split : nameT ([100, 97, 116, 97, 64, 109, 111, 110, 100, 97, 121] : List UInt8) = (dataL, mondayL, true) := by
  unfold nameT
  have e : cutB 64 ([100, 97, 116, 97, 64, 109, 111, 110, 100, 97, 121] : List UInt8) = (dataL, mondayL, true) := cut_app 64 dataL mondayL (by decide)
  rw [e, if_pos ⟨data_fine, fun _ => monday_fine⟩]
theorem law_small (a b : List UInt8) (ha : a.length ≤ 140737488351232) (hb : b.length ≤ 140737488351232) : ∃ n, F5 n a b = some true := by
  by_cases hbig : (1000 : Int) < (a.length : Int) + (b.length : Int)
  · refine ⟨0, ?_⟩
    rw [F5, w64 (by omega), decide_eq_true hbig, iteB_t]
  · obtain ⟨N1, k1⟩ := ev_nSplit ((a ++ [64]) ++ b) (by simp; omega)
    obtain ⟨N2, k2⟩ := ev_nSplit a (by omega)
    obtain ⟨N3, k3⟩ := ev_Bucket a
    obtain ⟨N4, k4⟩ := ev_Bucket b
    obtain ⟨N5, k5⟩ := ev_nSplit ([100, 97, 116, 97, 64, 109, 111, 110, 100, 97, 121] : List UInt8) (by simp)
    obtain ⟨N6, k6⟩ := ev_has a (by omega)
    refine ⟨N1 + N2 + N3 + N4 + N5 + N6, ?_⟩
    generalize hn : N1 + N2 + N3 + N4 + N5 + N6 = n
    have e1 : F11 n ((a ++ [64]) ++ b) = some (nameT ((a ++ [64]) ++ b)) := k1 n (by omega)
    have e2 : F11 n a = some (nameT a) := k2 n (by omega)
    have e3 : F9 n a = some (bucketT a) := k3 n (by omega)
    have e4 : F9 n b = some (bucketT b) := k4 n (by omega)
    have e5 : F11 n ([100, 97, 116, 97, 64, 109, 111, 110, 100, 97, 121] : List UInt8) = some (dataL, mondayL, true) := by rw [← ex_split]; exact k5 n (by omega)
    have e6 : F12 n a = some (decide (64 ∈ a)) := k6 n (by omega)
    have t1 : (dataL == ([100, 97, 116, 97] : List UInt8)) = true := rfl
    have t2 : (mondayL == ([109, 111, 110, 100, 97, 121] : List UInt8)) = true := rfl
    rw [F5, w64 (by omega), decide_eq_false hbig, iteB_f, grd_t _ (by omega), grd_t _ (by omega), e1, e2, e3, e4]
    simp only [bind_some', e5, e6, t1, t2, iteB_t]
    by_cases hat : 64 ∈ a
    · -- a sign in the first: whatever comes first, the last answers true
      have hl : decide ((0 : Int) < (a.length : Int)) = true := decide_eq_true (by have := List.length_pos_of_mem hat; omega)
      have hd : decide (64 ∈ a) = true := decide_eq_true hat
      have hf : (bucketT a == (0 : Int)) = false := by rw [beq_eq_false_iff_ne]; exact fun e => fine_no a e hat
      rw [hf, hl, hd]
      simp only [iteB_t, iteB_f]
      cases (nameT ((a ++ [64]) ++ b)).2.2 <;> cases ((nameT ((a ++ [64]) ++ b)).1 == []) <;> cases ((nameT ((a ++ [64]) ++ b)).2.1 == []) <;> cases ((nameT a).2.2 == false) <;> rfl
    · have c1 : cutB 64 ((a ++ [64]) ++ b) = (a, b, true) := by
        rw [List.append_assoc, List.cons_append, List.nil_append]; exact cut_app 64 a b hat
      have c2 : cutB 64 a = (a, [], false) := cut_none 64 a hat
      by_cases hA : bucketT a = 0
      · have n2 : nameT a = (a, [], true) := by unfold nameT; rw [c2, if_pos ⟨hA, fun h => by cases h⟩]
        by_cases hB : bucketT b = 0
        · have n1 : nameT ((a ++ [64]) ++ b) = (a, b, true) := by unfold nameT; rw [c1, if_pos ⟨hA, fun _ => hB⟩]
          rw [n1, n2, hA, hB]
          simp only [beq_self_eq_true, iteB_t]
        · have n1 : nameT ((a ++ [64]) ++ b) = ([], [], false) := by unfold nameT; rw [c1, if_neg (fun h => hB (h.2 rfl))]
          rw [n1, n2, hA, show (bucketT b == (0 : Int)) = false by rw [beq_eq_false_iff_ne]; exact hB]
          rfl
      · have n2 : nameT a = ([], [], false) := by unfold nameT; rw [c2, if_neg (fun h => hA h.1)]
        have n1 : nameT ((a ++ [64]) ++ b) = ([], [], false) := by unfold nameT; rw [c1, if_neg (fun h => hA h.1)]
        rw [n1, n2, show (bucketT a == (0 : Int)) = false by rw [beq_eq_false_iff_ne]; exact hA]
        rfl
theorem law_main (a b : List UInt8) (ha : okT9 a) (hb : okT9 b) (ka : a.length ≤ 140737488351232) (kb : b.length ≤ 140737488351232) : ∃ n, F5 n a b = some true := law_small a b ka kb
end Go.Proofs.YtdfghdppbfabfaaDoorX

set_option linter.unusedVariables false
namespace Go.Proofs.YtdfghdppbfabfaaDoorX
open Go Go.RowKit Go.Proofs
set_option maxRecDepth 100000
theorem shapedRow (xs : List T) (h : ShapesW Tryd.prog [9, 9] xs) (hsz : ∀ (j : Nat) (t : TypeId) (s : ByteArray), ([9, 9] : List TypeId)[j]? = some t → Tryd.prog.underlying t = some .string → xs[j]? = some (.imm (.string s)) → s.size ≤ reachBytes) : FnC Tryd.prog 5 xs (tb true) := shapedNameSplits law_main xs h hsz
end Go.Proofs.YtdfghdppbfabfaaDoorX
namespace Go.Proofs.YtdfghdppbfabfaaDoor.nameSplits
open Go.ChangeShapes Go.WideShapes Go.ChangeAt Go.RowKit
set_option linter.unusedVariables false
theorem own : ownKnob Tryd.prog.godebug = none := by kernel_rfl
set_option maxRecDepth 100000 in
theorem lifted (os : Os) (started : os.Started) (H : Type) (enc : TypeId × Value → H) :
    ReturnsInHanded {} Tryd.checked os 5 .any (fun w args => (Rows.nameSplitsSpec.pre enc Tryd.prog Tryd.f5 [] false w args ∧ laidMetH Tryd.prog Rows.nameSplitsRow.laid w) ∧ sizedMet enc Tryd.prog Tryd.f5 (OpenSpec.ofChange Rows.nameSplitsSpec) false w args) (Rows.nameSplitsSpec.post enc Tryd.prog Tryd.f5 false true false false) := by
  refine returnsInHanded_of_change_and (C := Tryd.checked) (X := fun w _ => laidMetH Tryd.prog Rows.nameSplitsRow.laid w) (fun _ _ _ hh h => h.of_heap hh) own started (by kernel_rfl) Tryd.func5
    (ChangeSpec.witness_shaped (enc := enc) (C := Tryd.checked) (os := os) (X := fun w _ => laidMetH Tryd.prog Rows.nameSplitsRow.laid w) false (World.laidAll Tryd.prog os Rows.nameSplitsRow.laid) #[.string ByteArray.empty, .string ByteArray.empty] 8 (World.laidAll_os _ _ _)
      (World.shaped_of_ZipB (by kernel_rfl) (by kernel_rfl)) (by kernel_rfl) (by kernel_rfl) (by kernel_rfl)
      (by rw [MakeChecks.laidMetH_plain _ _ _ (by kernel_rfl)]; exact laidMet_laidAll _ (by kernel_rfl) (by kernel_rfl))) ?_
  intro W base args ds gs before hval0 hW _ hz hL _
  exact YtdfghdppbfabfaaDoorX.row_contract_sz (P := Tryd.prog) (fn := Tryd.f5) (s := Rows.nameSplitsSpec) (ts := [9, 9]) (tb := 4) (L := [9, 9]) (by kernel_rfl) (by kernel_rfl) (by kernel_rfl) (by kernel_rfl) (by kernel_rfl) (by kernel_rfl) rfl
    (fun H ds h => by
      match ds, h with
      | [d0, d1], _ => rfl) YtdfghdppbfabfaaDoorX.shapedRow W base args ds gs before hval0 hW hz
theorem over : Rows.nameSplitsRow.holds Tryd.pinned (OpenSpec.ofChange Rows.nameSplitsSpec) :=
  OpenClaim.holds_of_wide 5 Tryd.f5 rfl rfl rfl rfl rfl rfl rfl ⟨rfl, rfl, rfl, rfl, rfl⟩ rfl rfl rfl rfl rfl (by kernel_rfl) Tryd.func5 (by kernel_rfl)
    (of_decide_eq_true (by kernel_rfl)) (by unfold Func.isWrapper; first | (rw [if_pos (by decide +kernel)]; kernel_rfl) | (rw [if_neg (by decide +kernel)]; exact ⟨rfl, rfl⟩))
    (fun os started H enc _ => lifted os started H enc)
theorem proved : Rows.NameSplitsCardSaid :=
  Claim7.holds_tied_plain_at .later [] [.data, .pinned] true (true, "7ec3118e6db71b0d7c646cd0fd907a77b45a7e87d06668d1fb80d0317d1d006b") false
    over (fun _ h => by cases h) (by kernel_rfl) (fun _ h => by cases h) nameSplits_row_tie rfl ⟨rfl, rfl⟩ (by kernel_rfl) rfl
    (fun f fn hf hfn => by
      obtain rfl : f = 5 := Option.some.inj ((show Tryd.prog.funcNamed "shadowbox/shadowboxlaw27.NameSplits" = some 5 by kernel_rfl).symm.trans hf) |>.symm
      obtain rfl : fn = Tryd.f5 := (Option.some.inj (Tryd.func5.symm.trans hfn)).symm
      exact ⟨by kernel_rfl, fun j t ht => by
        rw [Tryd.params5] at ht
        have hm : t ∈ [9, 9] := by simpa using Array.mem_of_getElem? ht
        have hall : ([9, 9].all fun u => !Tryd.prog.wantsStandIn u) = true := by kernel_rfl
        exact (show Tryd.prog.wantsStandIn t = false by simpa using List.all_eq_true.1 hall t hm)⟩)
    (by kernel_rfl)
#print axioms proved
end Go.Proofs.YtdfghdppbfabfaaDoor.nameSplits
namespace Go.Proofs.YtdfghdppbfabfaaDoor
/-- The card, under a short name, for the claim. -/
theorem nameSplits_holds : Rows.NameSplitsCardSaid := nameSplits.proved
end Go.Proofs.YtdfghdppbfabfaaDoor
