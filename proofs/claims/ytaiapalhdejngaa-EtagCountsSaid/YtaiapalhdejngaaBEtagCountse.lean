/- Part of the proof of EtagCounts: walks and plain words, merged. -/
import Derived.Test.YtaiapalhdejngaaBEtagCountsc
import Derived.Test.YtaiapalhdejngaaBEtagCountsd
import Derived.Test.YtaiapalhdejngaaRows
import Derived.Test.YtaiapalhdejngaaChecked
import Derived.WalkKit
import Derived.ProofKit
import Derived.OpenShut
set_option linter.unusedVariables false
set_option linter.unusedSimpArgs false

set_option linter.unusedVariables false
set_option linter.unusedSimpArgs false
namespace Go.Proofs.YtaiapalhdejngaaX
open Go Go.RowKit Go.Proofs
set_option maxRecDepth 100000
attribute [local go_sem ↓] stepsK_build stepsK_bs appendS
attribute [local go_sem] String.reduceEq String.reduceNe reduceCtorEq Int.reduceEq Nat.reduceAdd Nat.reduceSub Nat.reduceMul Nat.reduceLT Nat.reduceLeDiff Nat.reduceEqDiff Nat.reduceBEq Int.reduceToNat Int.reduceLT Int.reduceLE Int.reduceGT Int.reduceGE Int.reduceAdd Int.reduceSub Int.reduceMul Int.reduceNeg Int.reduceBEq Int.reduceBNe Int.reducePow Int.reduceDiv Int.reduceMod Int.reduceTDiv Int.reduceTMod Int.reduceNatCast
end Go.Proofs.YtaiapalhdejngaaX

set_option linter.unusedVariables false
set_option linter.unusedSimpArgs false
namespace Go.Proofs.YtaiapalhdejngaaX
open Go Go.RowKit Go.Proofs
set_option maxRecDepth 100000
attribute [local go_sem ↓] stepsK_build stepsK_bs appendS
attribute [local go_sem] String.reduceEq String.reduceNe reduceCtorEq Int.reduceEq Nat.reduceAdd Nat.reduceSub Nat.reduceMul Nat.reduceLT Nat.reduceLeDiff Nat.reduceEqDiff Nat.reduceBEq Int.reduceToNat Int.reduceLT Int.reduceLE Int.reduceGT Int.reduceGE Int.reduceAdd Int.reduceSub Int.reduceMul Int.reduceNeg Int.reduceBEq Int.reduceBNe Int.reducePow Int.reduceDiv Int.reduceMod Int.reduceTDiv Int.reduceTMod Int.reduceNatCast
end Go.Proofs.YtaiapalhdejngaaX

/- MD5: sums and digits, plainly. -/
set_option linter.unusedVariables false
set_option linter.unusedSimpArgs false
namespace Go.Proofs.YtaiapalhdejngaaX
open Go
def s0 : Q4 := (1732584193, 4023233417, 2562383102, 271733878)
theorem R4_s0 : R4 s0 := ⟨⟨by decide, by decide⟩, ⟨by decide, by decide⟩, ⟨by decide, by decide⟩, ⟨by decide, by decide⟩⟩
def sumL : Nat → List Int → Q4 → Int → List Int
  | 0, b, s, m => endS s m b
  | k + 1, b, s, m => if 64 ≤ b.length then sumL k (b.drop 64) (blkS (b.take 64) s) (IntKind.wrap .u64 (m + 64)) else endS s m b
def sumS (b : List Int) : List Int := sumL b.length b s0 0
theorem sumL_len : ∀ (k : Nat) (b : List Int) (s : Q4) (m : Int), (sumL k b s m).length = 16
  | 0, b, s, m => end_len _ _ _
  | k + 1, b, s, m => by
    unfold sumL
    split
    · exact sumL_len k _ _ _
    · exact end_len _ _ _
theorem sumL_bytes : ∀ (k : Nat) (b : List Int) (s : Q4) (m : Int), Bytes (sumL k b s m)
  | 0, b, s, m => end_bytes _ _ _
  | k + 1, b, s, m => by
    unfold sumL
    split
    · exact sumL_bytes k _ _ _
    · exact end_bytes _ _ _
theorem ev_p1 : ∀ (k : Nat) (b : List Int) (s : Q4) (m : Int), Bytes b → R4 s → b.length ≤ k → Ev (fun n => F45_L1 n b s.1 s.2.1 s.2.2.1 s.2.2.2 m) (sumL k b s m) := by
  have fin : ∀ (b : List Int) (s : Q4) (m : Int), Bytes b → R4 s → b.length < 64 → Ev (fun n => F45_L1 n b s.1 s.2.1 s.2.2.1 s.2.2.2 m) (endS s m b) := by
    intro b s m hb hs h
    have he := ev_End hb s hs m
    rw [List.take_of_length_le (by omega)] at he
    refine Ev.step ((he.bind (g := fun n v => grd (v.length = 16) (grd (16 ≤ v.length) (some (v.take 16)))) (Ev.const ?_)).congr fun n => ?_)
    · have hl := end_len s m b
      rw [grd_t _ hl, grd_t _ (by omega), List.take_of_length_le (by omega)]
    · rw [F45_L1, decide_eq_false (by omega), iteB_f]
      rfl
  intro k
  induction k with
  | zero => intro b s m hb hs h; exact fin b s m hb hs (by omega)
  | succ k ih =>
    intro b s m hb hs h
    unfold sumL
    by_cases h64 : 64 ≤ b.length
    · rw [if_pos h64]
      have hbk : (b.take 64).length = 64 := by rw [List.length_take]; omega
      refine Ev.step (((ev_Block (hb.take 64) hbk s hs m).bind (g := fun n v => F45_L1 n (b.drop 64) (v.1.getD 0 0) (v.1.getD 1 0) (v.1.getD 2 0) (v.1.getD 3 0) v.2) (ih (b.drop 64) (blkS (b.take 64) s) (IntKind.wrap .u64 (m + 64)) (hb.drop 64) (R4.blk _ _) (by rw [List.length_drop]; omega))).congr fun n => ?_)
      rw [F45_L1, decide_eq_true (by omega), iteB_t, grd_t _ (by omega), grd_t _ (by omega), List.take_of_length_le (Nat.le_of_eq hbk)]
      show Option.bind (_) _ = Option.bind _ _
      congr 1
      funext v
      rw [grd_t _ (by omega)]
      rfl
    · rw [if_neg h64]; exact fin b s m hb hs (by omega)
theorem ev_Sum {b : List Int} (hb : Bytes b) : Ev (fun n => F45 n b) (sumS b) := by
  refine (ev_p1 b.length b s0 0 hb R4_s0 (Nat.le_refl _)).congr fun n => ?_
  rw [F45]; rfl
/-! Digits. -/
def dgt (k : Nat) : UInt8 := ([48, 49, 50, 51, 52, 53, 54, 55, 56, 57, 97, 98, 99, 100, 101, 102] : List UInt8).getD k 0
def txt2 (c : Int) : List UInt8 := [dgt (c / 16).toNat, dgt (c % 16).toNat]
def txtS (l : List Int) : List UInt8 := l.flatMap txt2
theorem txt_len : ∀ l : List Int, (txtS l).length = 2 * l.length
  | [] => rfl
  | c :: l => by
    have := txt_len l
    unfold txtS at this ⊢
    rw [List.flatMap_cons, List.length_append, this, List.length_cons]
    show 2 + _ = _
    omega
theorem txt_snoc (l : List Int) (c : Int) : txtS (l ++ [c]) = txtS l ++ txt2 c := by unfold txtS; rw [List.flatMap_append, List.flatMap_cons, List.flatMap_nil, List.append_nil]
theorem toB_nat (c : UInt8) : toB (c.toNat : Int) = c := by
  show UInt8.ofNat ((c.toNat : Int)).toNat = c
  rw [toNat_nat]; simp
theorem hi4 {c : Int} (h : 0 ≤ c ∧ c ≤ 255) : bShr .u8 c 4 = c / 16 := bShr_div .u8 c 4 16 (by decide) (by decide)
theorem lo4 {c : Int} (h : 0 ≤ c ∧ c ≤ 255) : IntKind.wrap .u8 (bAnd .u8 c 15) = c % 16 := by
  rw [bAnd_low .u8 4 c h.1 (by show c < 256; omega) (by decide) 15 (by decide), wu8 (by omega)]
  rfl
theorem take_snoc {l : List Int} {i : Nat} (h : i < l.length) : l.take (i + 1) = l.take i ++ [l.getD i 0] := by
  rw [List.take_succ_eq_append_getElem h, List.getD_eq_getElem?_getD, List.getElem?_eq_getElem h]; rfl
theorem ev_t1 {v : List Int} (hv : Bytes v) (hl : v.length = 16) : ∀ (r i : Nat) (x : List Int), i + r = 16 → x.length = 2 * i → x.map toB = txtS (v.take i) → Ev (fun n => F54_L1 n v (i : Int) x) (txtS v)
  | 0, i, x, hi, hx, he => by
    rw [List.take_of_length_le (by omega)] at he
    refine Ev.step ((Ev.const (x := some (txtS v)) rfl).congr fun n => ?_)
    rw [F54_L1, decide_eq_false (by omega), iteB_f, he]
  | r + 1, i, x, hi, hx, he => by
    have hc := hv.getD i
    refine Ev.step ((ev_t1 hv hl r (i + 1) (x ++ [((dgt (v.getD i 0 / 16).toNat).toNat : Int), ((dgt (v.getD i 0 % 16).toNat).toNat : Int)]) (by omega) (by simp [hx]; omega) ?_).congr fun n => ?_)
    · rw [take_snoc (by omega), txt_snoc, List.map_append, he]
      congr 1
      simp only [List.map_cons, List.map_nil, toB_nat]
      rfl
    · rw [F54_L1, decide_eq_true (by omega), iteB_t, toNat_nat, int_default, hi4 hc, lo4 hc, grd_t _ (by omega), grd_t _ (by omega), grd_t _ (by omega), grd_t _ (by omega), g64 i (by omega)]
      rfl
theorem ev_Text {b : List Int} (hb : Bytes b) : Ev (fun n => F54 n b) (txtS (sumS b)) := by
  refine ((ev_Sum hb).bind (g := fun n v => F54_L1 n v ((0 : Nat) : Int) []) (ev_t1 (sumL_bytes _ _ _ _) (sumL_len _ _ _ _) 16 0 [] rfl rfl rfl)).congr fun n => ?_
  rw [F54]; rfl
end Go.Proofs.YtaiapalhdejngaaX

/- hex.ReadDecimal. -/
set_option linter.unusedVariables false
set_option linter.unusedSimpArgs false
namespace Go.Proofs.YtaiapalhdejngaaX
open Go
def decP : List UInt8 → Int → Int × Bool
  | [], n => (n, true)
  | c :: l, n => if kindOf (c.toNat : Int) = 1 then decP l (n * 10 + ((c.toNat : Int) - 48)) else (0, false)
theorem kind_one {c : Int} (h : kindOf c = 1) : 48 ≤ c ∧ c ≤ 57 := by
  unfold kindOf at h
  split at h
  · assumption
  · split at h
    · omega
    · split at h
      · omega
      · split at h <;> omega
theorem pow10 (i : Nat) (h : i ≤ 17) : 1 ≤ (10 : Int) ^ i ∧ (10 : Int) ^ i ≤ 100000000000000000 ∧ (10 : Int) ^ (i + 1) = 10 ^ i * 10 := by
  have h1 : (10 : Nat) ^ i ≤ 10 ^ 17 := Nat.pow_le_pow_right (by omega) h
  have h2 : 1 ≤ (10 : Nat) ^ i := Nat.pos_of_ne_zero (by simp)
  have h3 : ((10 : Nat) ^ i : Nat) = ((10 : Int) ^ i) := by simp
  refine ⟨by omega, by omega, Int.pow_succ _ _⟩
theorem ev_dec_l (l : List UInt8) (hl : l.length ≤ 18) : ∀ (d i : Nat) (x : Int), i + d = l.length → 0 ≤ x ∧ x < (10 : Int) ^ i → Ev (fun k => F78_L1 k l x (i : Int)) (decP (l.drop i) x) := by
  intro d
  induction d with
  | zero =>
    intro i x hi hx
    rw [List.drop_of_length_le (by omega)]
    refine Ev.step (Ev.pure.congr fun k => ?_)
    rw [F78_L1, decide_eq_false (by omega), iteB_f]; rfl
  | succ d ih =>
    intro i x hi hx
    rw [drop_cons l i 0 (by omega), decP]
    obtain ⟨p1, p2, p3⟩ := pow10 i (by omega)
    have hb := u8_lt (l.getD i 0)
    have w1 : IntKind.wrap .i64 ((i : Int) + 1) = ((i + 1 : Nat) : Int) := by rw [w64 (by omega)]; omega
    generalize hc : l.getD i 0 = c at *
    by_cases hk : kindOf (c.toNat : Int) = 1
    · rw [if_pos hk]
      have hk' := kind_one hk
      have e := ih (i + 1) (x * 10 + ((c.toNat : Int) - 48)) (by omega) (by rw [p3]; omega)
      refine Ev.step (e.congr fun k => ?_)
      rw [F78_L1, decide_eq_true (by omega), iteB_t, grd_t _ (by omega), toNat_nat, hc, F70, bind_some', hk]
      show iteB false _ _ = _
      rw [iteB_f, grd_t _ (by omega), wu8 (by omega), w64 (n := (c.toNat : Int) - 48) (by omega), w64 (n := x * 10) (by omega), w64 (n := x * 10 + _) (by omega), w1]
    · rw [if_neg hk]
      refine Ev.step (Ev.pure.congr fun k => ?_)
      rw [F78_L1, decide_eq_true (by omega), iteB_t, grd_t _ (by omega), toNat_nat, hc, F70, bind_some', show (kindOf (c.toNat : Int) != 1) = true by rw [bne_iff_ne]; exact hk, iteB_t]
def readD (l : List UInt8) : Int × Bool := if l = [] ∨ 18 < l.length then (0, false) else decP l 0
theorem ev_ReadDecimal (l : List UInt8) : Ev (fun k => F78 k l) (readD l) := by
  unfold readD
  cases l with
  | nil => rw [if_pos (Or.inl rfl)]; exact Ev.pure.congr fun k => rfl
  | cons a l =>
    by_cases h : 18 < (a :: l).length
    · rw [if_pos (Or.inr h)]
      refine Ev.pure.congr fun k => ?_
      rw [F78, show ((a :: l) == []) = false by rfl, iteB_f, decide_eq_true (by omega), iteB_t]
    · rw [if_neg (by simp only [reduceCtorEq, false_or]; exact h)]
      have e := ev_dec_l (a :: l) (by omega) (a :: l).length 0 0 (by omega) (by decide)
      refine e.congr fun k => ?_
      rw [F78, show ((a :: l) == []) = false by rfl, iteB_f, decide_eq_false (by omega), iteB_f]; rfl
theorem decP_bd : ∀ (l : List UInt8) (x : Int) (m : Nat), 0 ≤ x → x < (10 : Int) ^ m → m + l.length ≤ 18 → 0 ≤ (decP l x).1 ∧ (decP l x).1 ≤ 1000000000000000000
  | [], x, m, h0, h, hl => by
    have h1 : (10 : Nat) ^ m ≤ 10 ^ 18 := Nat.pow_le_pow_right (by omega) (by simpa using hl)
    have h3 : ((10 : Nat) ^ m : Nat) = ((10 : Int) ^ m) := by simp
    rw [decP]; dsimp only; omega
  | c :: l, x, m, h0, h, hl => by
    rw [decP]
    rw [List.length_cons] at hl
    obtain ⟨p1, p2, p3⟩ := pow10 m (by omega)
    by_cases hk : kindOf (c.toNat : Int) = 1
    · have hk' := kind_one hk
      rw [if_pos hk]
      exact decP_bd l _ (m + 1) (by omega) (by rw [p3]; omega) (by omega)
    · rw [if_neg hk]; dsimp only; omega
theorem readD_bd (l : List UInt8) : 0 ≤ (readD l).1 ∧ (readD l).1 ≤ 1000000000000000000 := by
  unfold readD
  split
  · dsimp only; omega
  · exact decP_bd l 0 0 (by omega) (by decide) (by omega)
end Go.Proofs.YtaiapalhdejngaaX

/- hex.Decimal: what it answers. -/
set_option linter.unusedVariables false
set_option linter.unusedSimpArgs false
namespace Go.Proofs.YtaiapalhdejngaaX
open Go
def dgR (n : Nat) : List Int := if n < 10 then [48 + (n : Int)] else (48 + ((n % 10 : Nat) : Int)) :: dgR (n / 10)
theorem dgR_lt {n : Nat} (h : n < 10) : dgR n = [48 + (n : Int)] := by rw [dgR, if_pos h]
theorem dgR_ge {n : Nat} (h : ¬ n < 10) : dgR n = (48 + ((n % 10 : Nat) : Int)) :: dgR (n / 10) := by rw [dgR, if_neg h]
theorem dgR_len : ∀ (k n : Nat), n < 10 ^ (k + 1) → (dgR n).length ≤ k + 1
  | 0, n, h => by rw [dgR_lt (by omega)]; simp
  | k + 1, n, h => by
    by_cases h1 : n < 10
    · rw [dgR_lt h1]; simp
    · rw [dgR_ge h1, List.length_cons]
      have := dgR_len k (n / 10) (by rw [Nat.pow_succ] at h; omega)
      omega
theorem dgR_pos (n : Nat) : 0 < (dgR n).length := by
  by_cases h : n < 10
  · rw [dgR_lt h]; simp
  · rw [dgR_ge h]; simp
def decI (n : Int) : List Int := (if n < 0 then dgR n.natAbs ++ [45] else dgR n.natAbs).reverse
def decT (n : Int) : List UInt8 := (decI n).map toB
def rvI (l0 : List Int) (i : Nat) (l : List Int) : Prop := l.length = l0.length ∧ ∀ k, k < l0.length → l.getD k 0 = if k < i ∨ l0.length - i ≤ k then l0.getD (l0.length - 1 - k) 0 else l0.getD k 0
theorem rv_end {l0 l : List Int} {i : Nat} (h : rvI l0 i l) (hi : l0.length ≤ 2 * i + 1) : l = l0.reverse := by
  obtain ⟨h1, h2⟩ := h
  apply List.ext_getElem
  · rw [h1, List.length_reverse]
  · intro k hk1 hk2
    have hk : k < l0.length := by omega
    have h3 := h2 k hk
    rw [List.getD_eq_getElem?_getD, List.getElem?_eq_getElem hk1] at h3
    rw [List.getElem_reverse]
    rw [show l[k] = (some l[k]).getD 0 from rfl, h3]
    split
    · rw [List.getD_eq_getElem?_getD, List.getElem?_eq_getElem (by omega)]; rfl
    · have e : l0.length - 1 - k = k := by omega
      rw [List.getD_eq_getElem?_getD, List.getElem?_eq_getElem (by omega)]
      simp only [e]; rfl
theorem rv_step {l0 l : List Int} {i j : Nat} (h : rvI l0 i l) (hj : i + j + 1 = l0.length) (hij : i < j) : rvI l0 (i + 1) ((l.set i (l.getD j 0)).set j (l.getD i 0)) := by
  obtain ⟨h1, h2⟩ := h
  refine ⟨by simp [h1], fun k hk => ?_⟩
  have gi := h2 i (by omega)
  have gj := h2 j (by omega)
  rw [if_neg (by omega)] at gi gj
  rw [List.getD_eq_getElem?_getD, List.getElem?_set]
  by_cases hkj : j = k
  · subst hkj
    rw [if_pos rfl, List.length_set, if_pos (by omega), Option.getD_some, gi, if_pos (by omega), show l0.length - 1 - j = i by omega]
  · rw [if_neg hkj, List.getElem?_set]
    by_cases hki : i = k
    · subst hki
      rw [if_pos rfl, if_pos (by omega), Option.getD_some, gj, if_pos (by omega), show l0.length - 1 - i = j by omega]
    · rw [if_neg hki, ← List.getD_eq_getElem?_getD, h2 k hk]
      by_cases hc : k < i ∨ l0.length - i ≤ k
      · rw [if_pos hc, if_pos (by omega)]
      · rw [if_neg hc, if_neg (by omega)]
theorem ev_rev (l0 : List Int) (hl : l0.length ≤ 1000) : ∀ (d i : Nat) (l : List Int), l0.length ≤ 2 * i + d → i ≤ l0.length → rvI l0 i l →
    Ev (fun n => F55_L4 n (i : Int) ((l0.length : Int) - 1 - i) l) (l0.reverse.map toB) := by
  intro d
  induction d with
  | zero =>
    intro i l hd hi h
    refine Ev.step (Ev.pure.congr fun n => ?_)
    have d1 : decide ((i : Int) < (l0.length : Int) - 1 - i) = false := decide_eq_false (by omega)
    simp only [F55_L4, d1, iteB_f]
    rw [rv_end h (by omega)]
  | succ d ih =>
    intro i l hd hi h
    refine Ev.step ?_
    by_cases hlt : (i : Int) < (l0.length : Int) - 1 - i
    · obtain ⟨j, hj⟩ : ∃ j : Nat, (l0.length : Int) - 1 - i = j := ⟨((l0.length : Int) - 1 - i).toNat, by omega⟩
      have d1 : decide ((i : Int) < (j : Int)) = true := decide_eq_true (by omega)
      have hll := h.1
      have w1 : IntKind.wrap .i64 ((i : Int) + 1) = ((i + 1 : Nat) : Int) := by rw [w64 (by omega)]; omega
      have w2 : IntKind.wrap .i64 ((j : Int) - 1) = (l0.length : Int) - 1 - ((i + 1 : Nat) : Int) := by rw [w64 (by omega)]; omega
      have e := ih (i + 1) _ (by omega) (by omega) (rv_step (j := j) h (by omega) (by omega))
      rw [hj]
      refine e.congr fun n => ?_
      simp only [F55_L4, d1, iteB_t, toNat_nat, w1, w2]
      have g1 : (0 ≤ (j : Int) ∧ (j : Int) < (l.length : Int)) := by omega
      have g2 : (0 ≤ (i : Int) ∧ (i : Int) < (l.length : Int)) := by omega
      have g3 : j < l.length := by omega
      have g4 : i < l.length := by omega
      rw [grd_t _ g1, grd_t _ g3, grd_t _ g2, grd_t _ g4, grd_t _ g2, grd_t _ g4, grd_t _ g1, grd_t _ g3]
      rfl
    · refine Ev.pure.congr fun n => ?_
      have d1 : decide ((i : Int) < (l0.length : Int) - 1 - i) = false := decide_eq_false hlt
      simp only [F55_L4, d1, iteB_f]
      rw [rv_end h (by omega)]
theorem ev_J3 (l : List Int) (h0 : 0 < l.length) (hl : l.length ≤ 1000) : Ev (fun n => F55_J3 n l) (l.reverse.map toB) := by
  have w1 : IntKind.wrap .i64 ((l.length : Int) - 1) = (l.length : Int) - 1 - ((0 : Nat) : Int) := by rw [w64 (by omega)]; omega
  refine (ev_rev l hl l.length 0 l (by omega) (by omega) ⟨rfl, fun k hk => by rw [if_neg (by omega)]⟩).congr fun n => ?_
  simp only [F55_J3, w1]; rfl
theorem digitAt (r : Nat) (h : r < 10) : ((([48, 49, 50, 51, 52, 53, 54, 55, 56, 57, 97, 98, 99, 100, 101, 102] : List UInt8).getD r 0).toNat : Int) = 48 + r := by
  have : ∀ r : Fin 10, ((([48, 49, 50, 51, 52, 53, 54, 55, 56, 57, 97, 98, 99, 100, 101, 102] : List UInt8).getD r.val 0).toNat : Int) = 48 + r.val := by decide
  exact this ⟨r, h⟩
theorem ev_digs (a : Int) : ∀ (k m : Nat) (l : List Int), m < 10 ^ (k + 1) → m < 10000000000000000000 → l.length + k ≤ 100 → Ev (fun n => F55_L2 n a (m : Int) l) ((if a < 0 then l ++ dgR m ++ [45] else l ++ dgR m).reverse.map toB) := by
  intro k
  induction k with
  | zero =>
    intro m l hm hb hl
    have hm' : m < 10 := by omega
    refine Ev.step ?_
    have e1 : (m : Int).tmod 10 = m := by rw [Int.tmod_eq_emod_of_nonneg (by omega)]; omega
    have e2 : (m : Int).tdiv 10 = 0 := by rw [Int.tdiv_eq_ediv_of_nonneg (by omega)]; omega
    have e3 : (IntKind.wrap .u64 0 == (0 : Int)) = true := by rw [wu64 (by omega)]; rfl
    rw [dgR_lt hm']
    by_cases ha : a < 0
    · rw [if_pos ha]
      refine (ev_J3 (l ++ [48 + (m : Int)] ++ [45]) (by simp) (by simp; omega)).congr fun n => ?_
      simp only [F55_L2, e1, e2, e3, toNat_nat, digitAt m hm', decide_eq_true ha, iteB_t]
      rw [grd_t _ (by omega), grd_t _ (by omega), grd_t _ (by omega)]
    · rw [if_neg ha]
      refine (ev_J3 (l ++ [48 + (m : Int)]) (by simp) (by simp; omega)).congr fun n => ?_
      simp only [F55_L2, e1, e2, e3, toNat_nat, digitAt m hm', decide_eq_false ha, iteB_t, iteB_f]
      rw [grd_t _ (by omega), grd_t _ (by omega)]
  | succ k ih =>
    intro m l hm hb hl
    by_cases hm' : m < 10
    · have := ih m l (by have : 10 ^ 1 ≤ 10 ^ (k + 1) := Nat.pow_le_pow_right (by omega) (by omega); omega) hb (by omega)
      exact this
    refine Ev.step ?_
    have e1 : (m : Int).tmod 10 = ((m % 10 : Nat) : Int) := by rw [Int.tmod_eq_emod_of_nonneg (by omega)]; omega
    have e2 : (m : Int).tdiv 10 = ((m / 10 : Nat) : Int) := by rw [Int.tdiv_eq_ediv_of_nonneg (by omega)]; omega
    have e4 : IntKind.wrap .u64 ((m / 10 : Nat) : Int) = ((m / 10 : Nat) : Int) := wu64 (by omega)
    have e3 : (((m / 10 : Nat) : Int) == (0 : Int)) = false := by rw [beq_eq_false_iff_ne]; omega
    have := ih (m / 10) (l ++ [48 + ((m % 10 : Nat) : Int)]) (by rw [Nat.pow_succ] at hm; omega) (by omega) (by simp; omega)
    rw [dgR_ge hm']
    rw [show (if a < 0 then l ++ (48 + ((m % 10 : Nat) : Int)) :: dgR (m / 10) ++ [45] else l ++ (48 + ((m % 10 : Nat) : Int)) :: dgR (m / 10)) = (if a < 0 then l ++ [48 + ((m % 10 : Nat) : Int)] ++ dgR (m / 10) ++ [45] else l ++ [48 + ((m % 10 : Nat) : Int)] ++ dgR (m / 10)) by simp]
    refine this.congr fun n => ?_
    simp only [F55_L2, e1, e2, e4, e3, toNat_nat, digitAt (m % 10) (by omega), iteB_f]
    rw [grd_t _ (by omega), grd_t _ (by omega)]
theorem ev_Decimal (a : Int) (h : -9223372036854775808 ≤ a ∧ a ≤ 9223372036854775807) : Ev (fun n => F55 n a) (decT a) := by
  have hd := ev_digs a 19 a.natAbs [] (by omega) (by omega) (by simp)
  simp only [List.nil_append] at hd
  unfold decT decI
  refine hd.congr fun n => ?_
  have hw : ∀ x : Int, IntKind.wrap .u64 x = x % 18446744073709551616 := fun x => rfl
  by_cases ha : a < 0
  · have e : IntKind.wrap .u64 (0 - IntKind.wrap .u64 a) = (a.natAbs : Int) := by rw [hw, hw]; omega
    simp only [F55, F55_J1, decide_eq_true ha, iteB_t, e]
  · have e : IntKind.wrap .u64 a = (a.natAbs : Int) := by rw [hw]; omega
    simp only [F55, F55_J1, decide_eq_false ha, iteB_f, e]
end Go.Proofs.YtaiapalhdejngaaX

set_option linter.unusedVariables false
set_option linter.unusedSimpArgs false
namespace Go.Proofs.YtaiapalhdejngaaX
open Go Go.RowKit Go.Proofs
set_option maxRecDepth 100000
attribute [local go_sem ↓] stepsK_build stepsK_bs appendS
attribute [local go_sem] String.reduceEq String.reduceNe reduceCtorEq Int.reduceEq Nat.reduceAdd Nat.reduceSub Nat.reduceMul Nat.reduceLT Nat.reduceLeDiff Nat.reduceEqDiff Nat.reduceBEq Int.reduceToNat Int.reduceLT Int.reduceLE Int.reduceGT Int.reduceGE Int.reduceAdd Int.reduceSub Int.reduceMul Int.reduceNeg Int.reduceBEq Int.reduceBNe Int.reducePow Int.reduceDiv Int.reduceMod Int.reduceTDiv Int.reduceTMod Int.reduceNatCast
end Go.Proofs.YtaiapalhdejngaaX

set_option linter.unusedVariables false
set_option linter.unusedSimpArgs false
namespace Go.Proofs.YtaiapalhdejngaaX
open Go Go.RowKit Go.Proofs
set_option maxRecDepth 100000
attribute [local go_sem ↓] stepsK_build stepsK_bs appendS
attribute [local go_sem] String.reduceEq String.reduceNe reduceCtorEq Int.reduceEq Nat.reduceAdd Nat.reduceSub Nat.reduceMul Nat.reduceLT Nat.reduceLeDiff Nat.reduceEqDiff Nat.reduceBEq Int.reduceToNat Int.reduceLT Int.reduceLE Int.reduceGT Int.reduceGE Int.reduceAdd Int.reduceSub Int.reduceMul Int.reduceNeg Int.reduceBEq Int.reduceBNe Int.reducePow Int.reduceDiv Int.reduceMod Int.reduceTDiv Int.reduceTMod Int.reduceNatCast
end Go.Proofs.YtaiapalhdejngaaX

set_option linter.unusedVariables false
set_option linter.unusedSimpArgs false
namespace Go.Proofs.YtaiapalhdejngaaX
open Go Go.RowKit Go.Proofs
set_option maxRecDepth 100000
attribute [local go_sem ↓] stepsK_build stepsK_bs appendS
attribute [local go_sem] String.reduceEq String.reduceNe reduceCtorEq Int.reduceEq Nat.reduceAdd Nat.reduceSub Nat.reduceMul Nat.reduceLT Nat.reduceLeDiff Nat.reduceEqDiff Nat.reduceBEq Int.reduceToNat Int.reduceLT Int.reduceLE Int.reduceGT Int.reduceGE Int.reduceAdd Int.reduceSub Int.reduceMul Int.reduceNeg Int.reduceBEq Int.reduceBNe Int.reducePow Int.reduceDiv Int.reduceMod Int.reduceTDiv Int.reduceTMod Int.reduceNatCast
end Go.Proofs.YtaiapalhdejngaaX

/- The reference's digits and numbers. -/
set_option linter.unusedVariables false
set_option linter.unusedSimpArgs false
namespace Go.Proofs.YtaiapalhdejngaaX
open Go
theorem decP_snoc (c : UInt8) : ∀ (l : List UInt8) (x : Int), decP (l ++ [c]) x = if (decP l x).2 = true then decP [c] (decP l x).1 else (0, false)
  | [], x => by rw [List.nil_append]; rfl
  | a :: l, x => by
    rw [List.cons_append, decP, decP]
    by_cases k : kindOf (a.toNat : Int) = 1
    · rw [if_pos k, if_pos k]; exact decP_snoc c l _
    · rw [if_neg k, if_neg k]; rfl
theorem digit_fin : ∀ r : Fin 10, kindOf ((toB (48 + (r.val : Int))).toNat : Int) = 1 ∧ ((toB (48 + (r.val : Int))).toNat : Int) - 48 = r.val ∧ toB (48 + (r.val : Int)) ≠ 45 := by decide +kernel
theorem digit_nat (r : Nat) (h : r < 10) : kindOf ((toB (48 + (r : Int))).toNat : Int) = 1 ∧ ((toB (48 + (r : Int))).toNat : Int) - 48 = r ∧ toB (48 + (r : Int)) ≠ 45 := digit_fin ⟨r, h⟩
theorem decP_dg : ∀ (n m : Nat), m ≤ n → decP ((dgR m).reverse.map toB) 0 = ((m : Int), true)
  | n, m, h => by
    by_cases h1 : m < 10
    · have hd := digit_nat m h1
      rw [dgR_lt h1]
      show decP [toB (48 + (m : Int))] 0 = _
      rw [decP, if_pos hd.1, decP, hd.2.1]
      simp
    · match n, h with
      | 0, h => omega
      | n + 1, h =>
        have ih := decP_dg n (m / 10) (by omega)
        have hd := digit_nat (m % 10) (by omega)
        rw [dgR_ge h1, List.reverse_cons, List.map_append]
        show decP (_ ++ [toB (48 + ((m % 10 : Nat) : Int))]) 0 = _
        rw [decP_snoc, ih, if_pos rfl, decP, if_pos hd.1, decP, hd.2.1]
        congr 1
        omega
theorem decT_nat (m : Nat) : decT (m : Int) = (dgR m).reverse.map toB := by
  unfold decT decI
  rw [if_neg (by omega), show ((m : Int)).natAbs = m by omega]
theorem read_dec (m : Nat) (h : m < 1000000000000000000) : readD (decT (m : Int)) = ((m : Int), true) := by
  have hl := dgR_len 17 m (by omega)
  have hp := dgR_pos m
  rw [decT_nat]
  unfold readD
  rw [if_neg, decP_dg m m (Nat.le_refl _)]
  simp only [not_or]
  constructor
  · intro e; have := congrArg List.length e; simp at this; rw [this] at hp; simp at hp
  · simp; omega
end Go.Proofs.YtaiapalhdejngaaX

set_option linter.unusedVariables false
set_option linter.unusedSimpArgs false
namespace Go.Proofs.YtaiapalhdejngaaX
open Go Go.RowKit Go.Proofs
set_option maxRecDepth 100000
attribute [local go_sem ↓] stepsK_build stepsK_bs appendS
attribute [local go_sem] String.reduceEq String.reduceNe reduceCtorEq Int.reduceEq Nat.reduceAdd Nat.reduceSub Nat.reduceMul Nat.reduceLT Nat.reduceLeDiff Nat.reduceEqDiff Nat.reduceBEq Int.reduceToNat Int.reduceLT Int.reduceLE Int.reduceGT Int.reduceGE Int.reduceAdd Int.reduceSub Int.reduceMul Int.reduceNeg Int.reduceBEq Int.reduceBNe Int.reducePow Int.reduceDiv Int.reduceMod Int.reduceTDiv Int.reduceTMod Int.reduceNatCast
end Go.Proofs.YtaiapalhdejngaaX

set_option linter.unusedVariables false
set_option linter.unusedSimpArgs false
namespace Go.Proofs.YtaiapalhdejngaaX
open Go Go.RowKit Go.Proofs
set_option maxRecDepth 100000
attribute [local go_sem ↓] stepsK_build stepsK_bs appendS
attribute [local go_sem] String.reduceEq String.reduceNe reduceCtorEq Int.reduceEq Nat.reduceAdd Nat.reduceSub Nat.reduceMul Nat.reduceLT Nat.reduceLeDiff Nat.reduceEqDiff Nat.reduceBEq Int.reduceToNat Int.reduceLT Int.reduceLE Int.reduceGT Int.reduceGE Int.reduceAdd Int.reduceSub Int.reduceMul Int.reduceNeg Int.reduceBEq Int.reduceBNe Int.reducePow Int.reduceDiv Int.reduceMod Int.reduceTDiv Int.reduceTMod Int.reduceNatCast
end Go.Proofs.YtaiapalhdejngaaX

/- Tags, plainly: sums, parts. -/
set_option linter.unusedVariables false
set_option linter.unusedSimpArgs false
namespace Go.Proofs.YtaiapalhdejngaaX
open Go
def etS (l : List UInt8) : List Int × Bool := if (hexS l).2 = true ∧ (hexS l).1.length = 16 then ((hexS l).1, true) else ([], false)
theorem et_bytes (l : List UInt8) : Bytes (etS l).1 := by
  unfold etS
  split
  · exact hexS_bytes l
  · exact Bytes.nil
theorem et_len (l : List UInt8) : (etS l).1.length ≤ 16 := by
  unfold etS
  split
  · rename_i h; exact Nat.le_of_eq h.2
  · exact Nat.zero_le _
theorem ev_eSum (l : List UInt8) (hl : l.length ≤ 1000000) : Ev (fun n => F37 n l) (etS l) := by
  refine ((ev_ReadHex l hl).bind (g := fun n v1 => iteB (!v1.2) (some ([], false)) (iteB ((v1.1.length : Int) != (16 : Int)) (some ([], false)) (some (v1.1, true)))) (Ev.const ?_)).congr fun n => by rw [F37]
  unfold etS
  cases h2 : (hexS l).2 with
  | false => rw [if_neg (fun h => by cases h.1)]; rfl
  | true =>
    by_cases h : (hexS l).1.length = 16
    · rw [if_pos ⟨rfl, h⟩, h]; rfl
    · rw [if_neg (fun k => h k.2), show (((hexS l).1.length : Int) != 16) = true by rw [bne_iff_ne]; omega]; rfl
def sumsS : List (List UInt8) → List Int → Option (List Int)
  | [], acc => some acc
  | t :: r, acc => if (etS t).2 = true then sumsS r (acc ++ (etS t).1) else none
def ptxt (l : List (List UInt8)) (all : List Int) : List UInt8 := (txtS (sumS all) ++ [45]) ++ decT (l.length : Int)
def partsS (l : List (List UInt8)) : List UInt8 × Bool := match sumsS l [] with
  | none => ([], false)
  | some all => if l.length = 0 ∨ 10000 < l.length then ([], false) else (ptxt l all, true)
theorem decT_len (n : Nat) (h : n ≤ 10000) : (decT (n : Int)).length ≤ 5 := by
  unfold decT decI
  rw [List.length_map, List.length_reverse, if_neg (by omega)]
  exact dgR_len 4 _ (by omega)
theorem md_len (all : List Int) : (txtS (sumS all)).length = 32 := by rw [txt_len]; unfold sumS; rw [sumL_len]
theorem ev_pl (l : List (List UInt8)) (hn : l.length ≤ 10000) (ht : ∀ t ∈ l, t.length ≤ 1000000) : ∀ (k i : Nat) (acc : List Int), i + k = l.length → acc.length ≤ 16 * i → Bytes acc → Ev (fun n => F19_L1 n l (i : Int) acc) (match sumsS (l.drop i) acc with | none => ([], false) | some all => (ptxt l all, true))
  | 0, i, acc, hi, ha, hb => by
    rw [List.drop_of_length_le (by omega)]
    have hd := decT_len l.length hn
    have hm := md_len acc
    refine Ev.step (((ev_Text hb).bind (g := fun n v9 => grd (v9.length + 1 ≤ 9223372036854775807) ((F55 n (l.length : Int)).bind fun v11 => grd ((v9.length + 1) + v11.length ≤ 9223372036854775807) (some (((v9 ++ ([45] : List UInt8)) ++ v11), true)))) (((ev_Decimal (l.length : Int) (by omega)).bind (g := fun n v11 => grd (((txtS (sumS acc)).length + 1) + v11.length ≤ 9223372036854775807) (some ((((txtS (sumS acc)) ++ ([45] : List UInt8)) ++ v11), true))) (Ev.const (grd_t _ (by omega)))).congr fun n => grd_t _ (by omega))).congr fun n => ?_)
    rw [F19_L1, decide_eq_false (by omega), iteB_f]
  | k + 1, i, acc, hi, ha, hb => by
    have hlen := et_len (l.getD i default)
    have hti : (l.getD i default).length ≤ 1000000 := by
      rw [List.getD_eq_getElem?_getD, List.getElem?_eq_getElem (by omega)]
      exact ht _ (List.getElem_mem _)
    rw [drop_cons l i default (by omega)]
    refine Ev.step (((ev_eSum (l.getD i default) hti).bind (g := fun n v => iteB (!v.2) (some ([], false)) (F19_L1 n l ((i + 1 : Nat) : Int) (acc ++ v.1)) |> fun x => grd (acc.length + v.1.length ≤ 549755813888) x) ?_).congr fun n => ?_)
    · show Ev (fun n => grd _ _) _
      refine Ev.grd (by omega) ?_
      rw [sumsS]
      cases h2 : (etS (l.getD i default)).2 with
      | false => exact Ev.pure.congr fun n => rfl
      | true => exact (ev_pl l hn ht k (i + 1) (acc ++ (etS (l.getD i default)).1) (by omega) (by rw [List.length_append]; omega) (hb.append (et_bytes _))).congr fun n => rfl
    · rw [F19_L1, decide_eq_true (by omega), iteB_t, grd_t _ (by omega), toNat_nat, F53, g64 i (by omega)]
      cases F37 n (l.getD i default) with
      | none => rfl
      | some v =>
        show (grd (acc.length + v.1.length ≤ 549755813888) (some (v.2, acc ++ v.1))).bind _ = grd (acc.length + v.1.length ≤ 549755813888) _
        by_cases hg : acc.length + v.1.length ≤ 549755813888
        · rw [grd_t _ hg, grd_t _ hg]; rfl
        · unfold grd; rw [if_neg hg, if_neg hg]; rfl
theorem ev_Parts (l : List (List UInt8)) (hn : l.length ≤ 10000) (ht : ∀ t ∈ l, t.length ≤ 1000000) : Ev (fun n => F19 n l) (partsS l) := by
  unfold partsS
  by_cases h0 : l.length = 0
  · obtain rfl : l = [] := List.length_eq_zero_iff.1 h0
    exact Ev.pure.congr fun n => rfl
  · have e := ev_pl l hn ht l.length 0 [] (by omega) (by simp) Bytes.nil
    rw [List.drop_zero] at e
    have : (match sumsS l [] with | none => ([], false) | some all => if l.length = 0 ∨ 10000 < l.length then ([], false) else (ptxt l all, true)) = (match sumsS l [] with | none => ([], false) | some all => (ptxt l all, true)) := by
      cases sumsS l [] with
      | none => rfl
      | some all => show (if _ then _ else _) = _; rw [if_neg (by omega)]
    rw [this]
    refine e.congr fun n => ?_
    rw [F19, show ((l.length : Int) == 0) = false from bq (by omega), iteB_f, decide_eq_false (by omega), iteB_f]
    rfl
end Go.Proofs.YtaiapalhdejngaaX

set_option linter.unusedVariables false
set_option linter.unusedSimpArgs false
namespace Go.Proofs.YtaiapalhdejngaaX
open Go Go.RowKit Go.Proofs
set_option maxRecDepth 100000
attribute [local go_sem ↓] stepsK_build stepsK_bs appendS
attribute [local go_sem] String.reduceEq String.reduceNe reduceCtorEq Int.reduceEq Nat.reduceAdd Nat.reduceSub Nat.reduceMul Nat.reduceLT Nat.reduceLeDiff Nat.reduceEqDiff Nat.reduceBEq Int.reduceToNat Int.reduceLT Int.reduceLE Int.reduceGT Int.reduceGE Int.reduceAdd Int.reduceSub Int.reduceMul Int.reduceNeg Int.reduceBEq Int.reduceBNe Int.reducePow Int.reduceDiv Int.reduceMod Int.reduceTDiv Int.reduceTMod Int.reduceNatCast
/-! ### shadowboxref13.Sign -/
def F104 (n : Nat) (a0 : Int) : Option (Int) := iteB (decide (a0 < (0 : Int))) (some (0 : Int)) (iteB (decide ((63 : Int) < a0)) (some (0 : Int)) (grd (0 ≤ a0 ∧ a0 < (64 : Int)) (some (((65 :: 66 :: 67 :: 68 :: 69 :: 70 :: 71 :: 72 :: 73 :: 74 :: 75 :: 76 :: 77 :: 78 :: 79 :: 80 :: 81 :: 82 :: 83 :: 84 :: 85 :: 86 :: 87 :: 88 :: 89 :: 90 :: 97 :: 98 :: 99 :: 100 :: 101 :: 102 :: 103 :: 104 :: 105 :: 106 :: 107 :: 108 :: 109 :: 110 :: 111 :: 112 :: 113 :: 114 :: 115 :: 116 :: 117 :: 118 :: 119 :: 120 :: 121 :: 122 :: 48 :: 49 :: 50 :: 51 :: 52 :: 53 :: 54 :: 55 :: 56 :: 57 :: 43 :: 47 :: ([] : List UInt8)).getD a0.toNat 0).toNat : Int))))
end Go.Proofs.YtaiapalhdejngaaX

set_option linter.unusedVariables false
set_option linter.unusedSimpArgs false
namespace Go.Proofs.YtaiapalhdejngaaX
open Go Go.RowKit Go.Proofs
set_option maxRecDepth 100000
attribute [local go_sem ↓] stepsK_build stepsK_bs appendS
attribute [local go_sem] String.reduceEq String.reduceNe reduceCtorEq Int.reduceEq Nat.reduceAdd Nat.reduceSub Nat.reduceMul Nat.reduceLT Nat.reduceLeDiff Nat.reduceEqDiff Nat.reduceBEq Int.reduceToNat Int.reduceLT Int.reduceLE Int.reduceGT Int.reduceGE Int.reduceAdd Int.reduceSub Int.reduceMul Int.reduceNeg Int.reduceBEq Int.reduceBNe Int.reducePow Int.reduceDiv Int.reduceMod Int.reduceTDiv Int.reduceTMod Int.reduceNatCast
end Go.Proofs.YtaiapalhdejngaaX

/- Base 64: what is read of four signs, and what is told: the program's Decode, the reference's Encode. -/
set_option linter.unusedVariables false
set_option linter.unusedSimpArgs false
namespace Go.Proofs.YtaiapalhdejngaaX
open Go
def sgL : List UInt8 := 65 :: 66 :: 67 :: 68 :: 69 :: 70 :: 71 :: 72 :: 73 :: 74 :: 75 :: 76 :: 77 :: 78 :: 79 :: 80 :: 81 :: 82 :: 83 :: 84 :: 85 :: 86 :: 87 :: 88 :: 89 :: 90 :: 97 :: 98 :: 99 :: 100 :: 101 :: 102 :: 103 :: 104 :: 105 :: 106 :: 107 :: 108 :: 109 :: 110 :: 111 :: 112 :: 113 :: 114 :: 115 :: 116 :: 117 :: 118 :: 119 :: 120 :: 121 :: 122 :: 48 :: 49 :: 50 :: 51 :: 52 :: 53 :: 54 :: 55 :: 56 :: 57 :: 43 :: 47 :: ([] : List UInt8)
def sgB (n : Int) : UInt8 := sgL.getD n.toNat 0
def vI (c : UInt8) : Int := (F118 0 (c.toNat : Int)).getD (-1)
theorem v_fin : ∀ c : Fin 256, F118 0 (c.val : Int) = some ((F118 0 (c.val : Int)).getD (-1)) ∧ -1 ≤ (F118 0 (c.val : Int)).getD (-1) ∧ (F118 0 (c.val : Int)).getD (-1) ≤ 63 ∧ (0 ≤ (F118 0 (c.val : Int)).getD (-1) → (sgB ((F118 0 (c.val : Int)).getD (-1))).toNat = c.val) := by decide +kernel
theorem v_eq (n : Nat) (c : UInt8) : F118 n (c.toNat : Int) = some (vI c) := (v_fin ⟨c.toNat, c.toNat_lt⟩).1
theorem v_bd (c : UInt8) : -1 ≤ vI c ∧ vI c ≤ 63 := ⟨(v_fin ⟨c.toNat, c.toNat_lt⟩).2.1, (v_fin ⟨c.toNat, c.toNat_lt⟩).2.2.1⟩
theorem sg_v (c : UInt8) (h : 0 ≤ vI c) : sgB (vI c) = c := UInt8.toNat_inj.1 ((v_fin ⟨c.toNat, c.toNat_lt⟩).2.2.2 h)
theorem s_fin : ∀ k : Fin 64, (F118 0 ((sgB (k.val : Int)).toNat : Int)).getD (-1) = (k.val : Int) ∧ sgB (k.val : Int) ≠ 61 ∧ F104 0 (k.val : Int) = some ((sgB (k.val : Int)).toNat : Int) := by decide +kernel
theorem v_sg {k : Int} (h : 0 ≤ k ∧ k < 64) : vI (sgB k) = k := by
  obtain ⟨a, rfl⟩ := Int.eq_ofNat_of_zero_le h.1
  exact (s_fin ⟨a, by omega⟩).1
theorem sg_ne {k : Int} (h : 0 ≤ k ∧ k < 64) : sgB k ≠ 61 := by
  obtain ⟨a, rfl⟩ := Int.eq_ofNat_of_zero_le h.1
  exact (s_fin ⟨a, by omega⟩).2.1
theorem acc6 {x v : Int} (hx : 0 ≤ x ∧ x < 1048576) (hv : 0 ≤ v ∧ v < 64) : IntKind.wrap .i64 (bOr .i64 (IntKind.wrap .i64 (bShl .i64 x 6)) v) = x * 64 + v := by
  have hs : bShl .i64 x 6 = x * 64 := by unfold bShl; rw [show (2 : Int) ^ min 6 IntKind.i64.bits = 64 by decide]
  rw [hs, w64 (n := x * 64) (by omega), bOr_add .i64 6 (x * 64) v (by omega) (by show x * 64 < 18446744073709551616; omega) (by show x * 64 % 64 = 0; omega) hv.1 (by show v < 64; omega) (by decide), w64 (by omega)]
def b3 (x : Int) : List Int := [x / 65536 % 256, x / 256 % 256, x % 256]
theorem b3_p {x : Int} (hx : 0 ≤ x) : [(IntKind.wrap .u8 (bShr .i64 x 16)), (IntKind.wrap .u8 (bShr .i64 x 8)), (IntKind.wrap .u8 x)] = b3 x := by
  rw [bShr_div .i64 x 16 65536 (by decide) (by decide), bShr_div .i64 x 8 256 (by decide) (by decide)]
  rfl
def zeroS (l : List Int) : Bool := l.all fun y => y == 0
theorem zeroS_cons (a : Int) (l : List Int) : zeroS (a :: l) = ((a == 0) && zeroS l) := rfl
def fin3 (x : Int) (k : Nat) : List Int × Bool := if zeroS ((b3 x).drop k) = true then ((b3 x).take k, true) else ([], false)
theorem ev_t4L9 {x : Int} (hx : 0 ≤ x) (k : Nat) (hk : k ≤ 3) : ∀ (d i : Nat), k + i + d = 3 → Ev (fun n => F103_L9 n (k : Int) x (i : Int)) (if zeroS (((b3 x).drop k).drop i) = true then ((b3 x).take k, true) else ([], false))
  | 0, i, h => by
    have hl : ((b3 x).drop k).length = 3 - k := by rw [List.length_drop]; rfl
    rw [List.drop_of_length_le (by omega), if_pos (show zeroS [] = true from rfl)]
    refine Ev.step ((Ev.const (x := some ((b3 x).take k, true)) rfl).congr fun n => ?_)
    rw [F103_L9, b3_p hx, toNat_nat, hl, decide_eq_false (by omega), iteB_f, grd_t _ (by omega)]
  | d + 1, i, h => by
    have hl : ((b3 x).drop k).length = 3 - k := by rw [List.length_drop]; rfl
    rw [drop_cons ((b3 x).drop k) i 0 (by omega), zeroS_cons]
    by_cases h0 : ((b3 x).drop k).getD i 0 = 0
    · have e := ev_t4L9 hx k hk d (i + 1) (by omega)
      rw [bqt h0, Bool.true_and]
      refine Ev.step (e.congr fun n => ?_)
      rw [F103_L9, b3_p hx, toNat_nat, hl, decide_eq_true (by omega), iteB_t, grd_t _ (by omega), toNat_nat]
      show iteB (((b3 x).drop k).getD i 0 != 0) _ _ = _
      rw [h0, g64 i (by omega)]
      rfl
    · rw [bq h0, Bool.false_and, if_neg (by decide)]
      refine Ev.step ((Ev.const (x := some ([], false)) rfl).congr fun n => ?_)
      rw [F103_L9, b3_p hx, toNat_nat, hl, decide_eq_true (by omega), iteB_t, grd_t _ (by omega), toNat_nat]
      show iteB (((b3 x).drop k).getD i 0 != 0) _ _ = _
      rw [show (((b3 x).drop k).getD i 0 != 0) = true by rw [bne_iff_ne]; exact h0, iteB_t]
theorem ev_t4J7 {x : Int} (hx : 0 ≤ x) (a0 : List UInt8) (k : Nat) (hk : k ≤ 3) : Ev (fun n => F103_J7 n a0 x (k : Int)) (fin3 x k) := by
  refine (ev_t4L9 hx k hk (3 - k) 0 (by omega)).congr fun n => ?_
  rw [F103_J7, grd_t _ (by omega)]; rfl
def triS (p q r t : UInt8) : List Int × Bool :=
  if vI p < 0 ∨ vI q < 0 then ([], false)
  else if r = 61 ∧ t = 61 then fin3 (((vI p * 64 + vI q) * 64) * 64) 1
  else if vI r < 0 then ([], false)
  else if t = 61 then fin3 (((vI p * 64 + vI q) * 64 + vI r) * 64) 2
  else if vI t < 0 then ([], false)
  else fin3 (((vI p * 64 + vI q) * 64 + vI r) * 64 + vI t) 3
theorem eq61 (c : UInt8) : (((c.toNat : Nat) : Int) == 61) = decide (c = 61) := by
  rw [Bool.eq_iff_iff, beq_iff_eq, decide_eq_true_eq]
  exact ⟨fun h => UInt8.toNat_inj.1 (by show c.toNat = 61; omega), fun h => by rw [h]; rfl⟩
theorem ev_t4J8 (p q r t : UInt8) : ∀ (x : Int) (k : Nat), 0 ≤ x → x < 1048576 → k ≤ 3 → ∀ v, (k < 3 → t = 61) → 0 ≤ v ∧ v < 64 → Ev (fun n => F103_J8 n [p, q, r, t] x (k : Int) v) (fin3 (x * 64 + v) k) := by
  have br := v_bd r
  have bt := v_bd t
  intro x k hx hx1 hk v ht hv
  refine (ev_t4J7 (x := x * 64 + v) (by omega) [p, q, r, t] k hk).congr fun n => ?_
  rw [F103_J8, decide_eq_false (by omega), iteB_f, acc6 ⟨hx, hx1⟩ hv]
  by_cases h3 : k < 3
  · rw [decide_eq_true (by omega), iteB_t]
    show grd (_ < ((4 : Nat) : Int)) (iteB (((t.toNat : Nat) : Int) != 61) _ _) = _
    rw [grd_t _ (by omega), ht h3]; rfl
  · rw [decide_eq_false (by omega), iteB_f]
theorem ev_t4J5 (p q r t : UInt8) : ∀ (x : Int) (k : Nat), 0 ≤ x → x < 1048576 → k = 1 ∨ k = 3 → (k = 1 → t = 61) → Ev (fun n => F103_J5 n [p, q, r, t] x (k : Int)) (if t = 61 then fin3 (x * 64) (min 2 k) else if vI t < 0 then ([], false) else fin3 (x * 64 + vI t) k) := by
  have br := v_bd r
  have bt := v_bd t
  intro x k hx hx1 hk ht
  by_cases h : t = 61
  · rw [if_pos h]
    have hmin : (if (2 : Int) < (k : Int) then (2 : Int) else (k : Int)) = ((min 2 k : Nat) : Int) := by split <;> omega
    have e := ev_t4J8 p q r t x (min 2 k) hx hx1 (by omega) 0 (fun _ => h) (by omega)
    rw [Int.add_zero] at e
    refine e.congr fun n => ?_
    rw [F103_J5, hmin]
    show grd (_ < ((4 : Nat) : Int)) ((F118 n ((t.toNat : Nat) : Int)).bind fun v28 => grd (_ < ((4 : Nat) : Int)) (iteB (((t.toNat : Nat) : Int) == 61) (grd (_ < ((4 : Nat) : Int)) (iteB (((t.toNat : Nat) : Int) == 61) _ _)) _)) = _
    rw [v_eq, bind_some', eq61, decide_eq_true h]
    rfl
  · rw [if_neg h]
    have hk3 : k = 3 := by rcases hk with rfl | rfl; exact absurd (ht rfl) h; rfl
    subst hk3
    have base : ∀ n, F103_J5 n [p, q, r, t] x ((3 : Nat) : Int) = F103_J8 n [p, q, r, t] x ((3 : Nat) : Int) (vI t) := by
      intro n
      rw [F103_J5]
      show grd (_ < ((4 : Nat) : Int)) ((F118 n ((t.toNat : Nat) : Int)).bind fun v28 => grd (_ < ((4 : Nat) : Int)) (iteB (((t.toNat : Nat) : Int) == 61) (grd (_ < ((4 : Nat) : Int)) (iteB (((t.toNat : Nat) : Int) == 61) _ _)) _)) = _
      rw [v_eq, bind_some', eq61, decide_eq_false h]
      rfl
    by_cases hv : vI t < 0
    · rw [if_pos hv]
      refine (Ev.const (x := some ([], false)) rfl).congr fun n => ?_
      rw [base, F103_J8, decide_eq_true hv, iteB_t]
    · rw [if_neg hv]
      exact (ev_t4J8 p q r t x 3 hx hx1 (by omega) (vI t) (fun h => by omega) (by omega)).congr base
theorem ev_J6 (p q r t : UInt8) : ∀ (x : Int) (k : Nat), 0 ≤ x → x < 16384 → k = 1 ∨ k = 3 → (k = 1 → r = 61 ∧ t = 61) → ∀ v, 0 ≤ v ∧ v < 64 → Ev (fun n => F103_J6 n [p, q, r, t] x (k : Int) v) (if t = 61 then fin3 ((x * 64 + v) * 64) (min 2 k) else if vI t < 0 then ([], false) else fin3 ((x * 64 + v) * 64 + vI t) k) := by
  have br := v_bd r
  have bt := v_bd t
  intro x k hx hx1 hk hrt v hv
  refine (ev_t4J5 p q r t (x * 64 + v) k (by omega) (by omega) hk (fun h => (hrt h).2)).congr fun n => ?_
  rw [F103_J6, decide_eq_false (by omega), iteB_f, acc6 ⟨hx, by omega⟩ hv]
  by_cases h3 : k < 3
  · rw [decide_eq_true (by omega), iteB_t]
    show grd (_ < ((4 : Nat) : Int)) (iteB (((r.toNat : Nat) : Int) != 61) _ _) = _
    rw [grd_t _ (by omega), (hrt (by omega)).1]; rfl
  · rw [decide_eq_false (by omega), iteB_f]
theorem ev_t4J3 (p q r t : UInt8) : ∀ (x : Int), 0 ≤ x → x < 4096 → Ev (fun n => F103_J3 n [p, q, r, t] x) (if r = 61 ∧ t = 61 then fin3 ((x * 64) * 64) 1 else if vI r < 0 then ([], false) else if t = 61 then fin3 ((x * 64 + vI r) * 64) 2 else if vI t < 0 then ([], false) else fin3 ((x * 64 + vI r) * 64 + vI t) 3) := by
  have br := v_bd r
  have bt := v_bd t
  intro x hx hx1
  have unf : ∀ n, F103_J3 n [p, q, r, t] x = if r = 61 ∧ t = 61 then F103_J6 n [p, q, r, t] x ((1 : Nat) : Int) 0 else F103_J6 n [p, q, r, t] x ((3 : Nat) : Int) (vI r) := by
    intro n
    rw [F103_J3]
    show grd (_ < ((4 : Nat) : Int)) ((F118 n ((r.toNat : Nat) : Int)).bind fun v14 => grd (_ < ((4 : Nat) : Int)) (iteB (((r.toNat : Nat) : Int) == 61) (grd (_ < ((4 : Nat) : Int)) (iteB (((t.toNat : Nat) : Int) == 61) _ _)) _)) = _
    rw [v_eq, bind_some', eq61, eq61]
    by_cases h1 : r = 61
    · by_cases h2 : t = 61
      · rw [if_pos (show r = 61 ∧ t = 61 from ⟨h1, h2⟩), decide_eq_true h1, decide_eq_true h2, grd_t _ (by omega), grd_t _ (by omega), iteB_t, grd_t _ (by omega), iteB_t, show (if (1 : Int) < (3 : Int) then (1 : Int) else (3 : Int)) = ((1 : Nat) : Int) from rfl]
      · rw [if_neg (show ¬ (r = 61 ∧ t = 61) from fun h => h2 h.2), decide_eq_true h1, decide_eq_false h2, grd_t _ (by omega), grd_t _ (by omega), iteB_t, grd_t _ (by omega), iteB_f]; rfl
    · rw [if_neg (show ¬ (r = 61 ∧ t = 61) from fun h => h1 h.1), decide_eq_false h1, grd_t _ (by omega), grd_t _ (by omega), iteB_f]; rfl
  by_cases h : r = 61 ∧ t = 61
  · rw [if_pos h]
    have e := ev_J6 p q r t x 1 hx (by omega) (.inl rfl) (fun _ => h) 0 (by omega)
    rw [if_pos h.2, Int.add_zero] at e
    exact e.congr fun n => by rw [unf, if_pos h]
  · rw [if_neg h]
    by_cases hr : vI r < 0
    · rw [if_pos hr]
      refine (Ev.const (x := some ([], false)) rfl).congr fun n => ?_
      rw [unf, if_neg h, F103_J6, decide_eq_true hr, iteB_t]
    · rw [if_neg hr]
      exact (ev_J6 p q r t x 3 hx (by omega) (.inr rfl) (fun h => by omega) (vI r) (by omega)).congr fun n => by rw [unf, if_neg h]
theorem ev_trio (p q r t : UInt8) : Ev (fun n => F103 n [p, q, r, t]) (triS p q r t) := by
  have bp := v_bd p
  have bq := v_bd q
  have br := v_bd r
  have bt := v_bd t
  unfold triS
  have u0 : ∀ n, F103 n [p, q, r, t] = F103_J2 n [p, q, r, t] (vI p) := by
    intro n
    rw [F103]
    show grd (_ < ((4 : Nat) : Int)) ((F118 n ((p.toNat : Nat) : Int)).bind fun v => grd (_ < ((4 : Nat) : Int)) (iteB (((p.toNat : Nat) : Int) == 61) (F103_J2 n [p, q, r, t] v) (F103_J2 n [p, q, r, t] v))) = _
    rw [v_eq, bind_some', grd_t _ (by omega), grd_t _ (by omega)]
    cases (((p.toNat : Nat) : Int) == 61) <;> rfl
  have u1 : ∀ n x, F103_J1 n [p, q, r, t] x = F103_J4 n [p, q, r, t] x (vI q) := by
    intro n x
    rw [F103_J1]
    show grd (_ < ((4 : Nat) : Int)) ((F118 n ((q.toNat : Nat) : Int)).bind fun v => grd (_ < ((4 : Nat) : Int)) (iteB (((q.toNat : Nat) : Int) == 61) (F103_J4 n [p, q, r, t] x v) (F103_J4 n [p, q, r, t] x v))) = _
    rw [v_eq, bind_some', grd_t _ (by omega), grd_t _ (by omega)]
    cases (((q.toNat : Nat) : Int) == 61) <;> rfl
  by_cases hp : vI p < 0
  · rw [if_pos (.inl hp)]
    refine (Ev.const (x := some ([], false)) rfl).congr fun n => ?_
    rw [u0, F103_J2, decide_eq_true hp, iteB_t]
  by_cases hq : vI q < 0
  · rw [if_pos (.inr hq)]
    refine (Ev.const (x := some ([], false)) rfl).congr fun n => ?_
    rw [u0, F103_J2, decide_eq_false hp, iteB_f, u1, F103_J4, decide_eq_true hq, iteB_t]
  rw [if_neg (fun h => h.elim hp hq)]
  refine (ev_t4J3 p q r t (vI p * 64 + vI q) (by omega) (by omega)).congr fun n => ?_
  rw [u0, F103_J2, decide_eq_false hp, iteB_f, acc6 (x := 0) (by omega) (by omega), u1, F103_J4, decide_eq_false hq, iteB_f, acc6 (by omega) (by omega)]
  congr 1
  omega
end Go.Proofs.YtaiapalhdejngaaX

/- Base 64: all that is told is read, and only that. -/
set_option linter.unusedVariables false
set_option linter.unusedSimpArgs false
namespace Go.Proofs.YtaiapalhdejngaaX
open Go
def decB : List UInt8 → List Int → List Int × Bool
  | p :: q :: r :: t :: l, acc => if (triS p q r t).2 = true then (if (triS p q r t).1.length < 3 ∧ l ≠ [] then ([], false) else decB l (acc ++ (triS p q r t).1)) else ([], false)
  | _, acc => (acc, true)
def decS (s : List UInt8) : List Int × Bool := if s.length % 4 ≠ 0 then ([], false) else decB s []
theorem fin3_len (x : Int) (k : Nat) (hk : k ≤ 3) : (fin3 x k).1.length ≤ 3 := by
  unfold fin3
  split
  · show ((b3 x).take k).length ≤ 3
    rw [List.length_take]; exact Nat.le_trans (Nat.min_le_left _ _) hk
  · exact Nat.zero_le _
theorem tri_len (p q r t : UInt8) : (triS p q r t).1.length ≤ 3 := by
  unfold triS
  split
  · exact Nat.zero_le _
  split
  · exact fin3_len _ _ (by omega)
  split
  · exact Nat.zero_le _
  split
  · exact fin3_len _ _ (by omega)
  split
  · exact Nat.zero_le _
  · exact fin3_len _ _ (by omega)
theorem ev_decB : ∀ (k : Nat) (s : List UInt8) (acc : List Int), s.length = 4 * k → k ≤ 1000000 → acc.length + 3 * k ≤ 100000000 → Ev (fun n => F79_L1 n s acc) (decB s acc)
  | 0, s, acc, hs, hk, ha => by
    obtain rfl : s = [] := List.length_eq_zero_iff.1 (by omega)
    exact Ev.step (Ev.pure.congr fun n => by rw [F79_L1]; rfl)
  | k + 1, s, acc, hs, hk, ha => by
    match s, hs with
    | p :: q :: r :: t :: l, hs =>
      have hll : l.length = 4 * k := by simp at hs; omega
      have hl4 : ((p :: q :: r :: t :: l).length : Int) = (l.length : Int) + 4 := by simp only [List.length_cons]; omega
      have htl := tri_len p q r t
      rw [decB]
      have u : ∀ n, F79_L1 (n + 1) (p :: q :: r :: t :: l) acc = (F103 n [p, q, r, t]).bind fun v6 => iteB (!v6.2) (some ([], false)) (iteB (decide ((v6.1.length : Int) < (3 : Int))) (iteB (decide ((4 : Int) < (l.length : Int) + 4)) (some ([], false)) (grd ((acc.length + v6.1.length) ≤ 549755813888) (F79_L1 n l (acc ++ v6.1)))) (grd ((acc.length + v6.1.length) ≤ 549755813888) (F79_L1 n l (acc ++ v6.1)))) := by
        intro n
        rw [F79_L1, show ((p :: q :: r :: t :: l) == []) = false from rfl, hl4, Bool.not_false, iteB_t, grd_t _ (by omega)]
        show (F103 n [p, q, r, t]).bind _ = _
        congr 1
        funext v6
        rw [grd_t (p := (4 : Int) ≤ _) _ (by omega)]
        rfl
      refine Ev.step (((ev_trio p q r t).bind (g := fun n v6 => iteB (!v6.2) (some ([], false)) (iteB (decide ((v6.1.length : Int) < (3 : Int))) (iteB (decide ((4 : Int) < (l.length : Int) + 4)) (some ([], false)) (grd ((acc.length + v6.1.length) ≤ 549755813888) (F79_L1 n l (acc ++ v6.1)))) (grd ((acc.length + v6.1.length) ≤ 549755813888) (F79_L1 n l (acc ++ v6.1))))) ?_).congr u)
      cases h2 : (triS p q r t).2 with
      | false => rw [if_neg (by decide)]; exact Ev.pure
      | true =>
        rw [if_pos rfl]
        have ih := ev_decB k l (acc ++ (triS p q r t).1) hll (by omega) (by rw [List.length_append]; omega)
        by_cases h3 : (triS p q r t).1.length < 3
        · by_cases hl : l = []
          · subst hl
            rw [if_neg (fun h => h.2 rfl)]
            refine ih.congr fun n => ?_
            rw [Bool.not_true, iteB_f, decide_eq_true (by omega), iteB_t, grd_t _ (by omega)]; rfl
          · rw [if_pos ⟨h3, hl⟩]
            have : 0 < l.length := List.length_pos_iff.2 hl
            refine Ev.pure.congr fun n => ?_
            rw [Bool.not_true, iteB_f, decide_eq_true (by omega), iteB_t, decide_eq_true (by omega), iteB_t]
        · rw [if_neg (fun h => h3 h.1)]
          refine ih.congr fun n => ?_
          rw [Bool.not_true, iteB_f, decide_eq_false (by omega), iteB_f, grd_t _ (by omega)]
theorem ev_Decode (s : List UInt8) (hs : s.length ≤ 1000000) : Ev (fun n => F79 n s) (decS s) := by
  unfold decS
  have hm : (s.length : Int).tmod 4 = ((s.length % 4 : Nat) : Int) := (Int.ofNat_tmod s.length 4).symm
  by_cases h : s.length % 4 ≠ 0
  · rw [if_pos h]
    refine Ev.pure.congr fun n => ?_
    rw [F79, hm, show (((s.length % 4 : Nat) : Int) != 0) = true by rw [bne_iff_ne]; omega, iteB_t]
  · rw [if_neg h]
    refine (ev_decB (s.length / 4) s [] (by omega) (by omega) (by simp; omega)).congr fun n => ?_
    rw [F79, hm, show s.length % 4 = 0 by omega]; rfl
def encS : List Int → List UInt8
  | [] => []
  | [a] => [sgB (a / 4), sgB (a % 4 * 16), 61, 61]
  | [a, b] => [sgB (a / 4), sgB (a % 4 * 16 + b / 16), sgB (b % 16 * 4), 61]
  | a :: b :: c :: r => sgB (a / 4) :: sgB (a % 4 * 16 + b / 16) :: sgB (b % 16 * 4 + c / 64) :: sgB (c % 64) :: encS r
theorem fin3_out {x : Int} {k : Nat} {b : List Int} (h : fin3 x k = (b, true)) : b = (b3 x).take k ∧ zeroS ((b3 x).drop k) = true := by
  unfold fin3 at h
  split at h
  · rename_i hz
    exact ⟨(Prod.mk.inj h).1.symm, hz⟩
  · have := (Prod.mk.inj h).2; cases this
theorem zero1 {a : Int} (h : zeroS [a] = true) : a = 0 := by
  have : ((a == 0) && true) = true := h
  rw [Bool.and_true] at this
  exact eq_of_beq this
theorem zero2 {a b : Int} (h : zeroS [a, b] = true) : a = 0 ∧ b = 0 := by
  have : ((a == 0) && ((b == 0) && true)) = true := h
  rw [Bool.and_true, Bool.and_eq_true] at this
  exact ⟨eq_of_beq this.1, eq_of_beq this.2⟩
theorem tri_enc {p q r t : UInt8} {b : List Int} (h : triS p q r t = (b, true)) : (∃ x y z, b = [x, y, z] ∧ [p, q, r, t] = [sgB (x / 4), sgB (x % 4 * 16 + y / 16), sgB (y % 16 * 4 + z / 64), sgB (z % 64)]) ∨ (b.length < 3 ∧ encS b = [p, q, r, t]) := by
  have bp := v_bd p
  have bq := v_bd q
  have br := v_bd r
  have bt := v_bd t
  unfold triS at h
  split at h
  · cases (Prod.mk.inj h).2
  rename_i hpq
  have hp : 0 ≤ vI p := by rcases Int.lt_or_le (vI p) 0 with h | h; exact absurd (.inl h) hpq; exact h
  have hq : 0 ≤ vI q := by rcases Int.lt_or_le (vI q) 0 with h | h; exact absurd (.inr h) hpq; exact h
  have sp := sg_v p hp
  have sq := sg_v q hq
  split at h
  · rename_i hrt
    obtain ⟨hb, hz⟩ := fin3_out h
    have hz : zeroS [((vI p * 64 + vI q) * 64 * 64) / 256 % 256, ((vI p * 64 + vI q) * 64 * 64) % 256] = true := hz
    obtain ⟨z1, z2⟩ := zero2 hz
    have hb : b = [((vI p * 64 + vI q) * 64 * 64) / 65536 % 256] := hb
    right
    subst hb
    refine ⟨by simp, ?_⟩
    rw [encS, hrt.1, hrt.2, show ((vI p * 64 + vI q) * 64 * 64) / 65536 % 256 / 4 = vI p by omega, show ((vI p * 64 + vI q) * 64 * 64) / 65536 % 256 % 4 * 16 = vI q by omega, sp, sq]
  split at h
  · cases (Prod.mk.inj h).2
  rename_i hrt hr
  have hr : 0 ≤ vI r := by omega
  have sr := sg_v r hr
  split at h
  · rename_i ht
    obtain ⟨hb, hz⟩ := fin3_out h
    have hz : zeroS [(((vI p * 64 + vI q) * 64 + vI r) * 64) % 256] = true := hz
    have z1 := zero1 hz
    have hb : b = [(((vI p * 64 + vI q) * 64 + vI r) * 64) / 65536 % 256, (((vI p * 64 + vI q) * 64 + vI r) * 64) / 256 % 256] := hb
    right
    subst hb
    refine ⟨by simp, ?_⟩
    rw [encS, ht, show (((vI p * 64 + vI q) * 64 + vI r) * 64) / 65536 % 256 / 4 = vI p by omega, show (((vI p * 64 + vI q) * 64 + vI r) * 64) / 65536 % 256 % 4 * 16 + (((vI p * 64 + vI q) * 64 + vI r) * 64) / 256 % 256 / 16 = vI q by omega, show (((vI p * 64 + vI q) * 64 + vI r) * 64) / 256 % 256 % 16 * 4 = vI r by omega, sp, sq, sr]
  split at h
  · cases (Prod.mk.inj h).2
  · rename_i ht ht'
    have ht' : 0 ≤ vI t := by omega
    have st := sg_v t ht'
    obtain ⟨hb, hz⟩ := fin3_out h
    left
    refine ⟨_, _, _, hb, ?_⟩
    generalize hX : ((vI p * 64 + vI q) * 64 + vI r) * 64 + vI t = X
    rw [show X / 65536 % 256 / 4 = vI p by omega, show X / 65536 % 256 % 4 * 16 + X / 256 % 256 / 16 = vI q by omega, show X / 256 % 256 % 16 * 4 + X % 256 / 64 = vI r by omega, show X % 256 % 64 = vI t by omega, sp, sq, sr, st]
theorem dec_enc : ∀ (n : Nat) (s : List UInt8) (acc out : List Int), s.length ≤ n → s.length % 4 = 0 → decB s acc = (out, true) → ∃ b, out = acc ++ b ∧ encS b = s
  | n, [], acc, out, hn, hm, h => by
    rw [decB] at h
    · exact ⟨[], by rw [List.append_nil]; exact (Prod.mk.inj h).1.symm, rfl⟩
    · intro p q r t l e; cases e
  | n, [_], acc, out, hn, hm, h => by simp at hm
  | n, [_, _], acc, out, hn, hm, h => by simp at hm
  | n, [_, _, _], acc, out, hn, hm, h => by simp at hm
  | 0, _ :: _ :: _ :: _ :: _, acc, out, hn, hm, h => by simp at hn
  | n + 1, p :: q :: r :: t :: l, acc, out, hn, hm, h => by
    rw [decB] at h
    cases ht : triS p q r t with
    | mk b ok =>
      rw [ht] at h
      cases ok with
      | false => rw [if_neg (by simp)] at h; cases (Prod.mk.inj h).2
      | true =>
        rw [if_pos rfl] at h
        have hlm : l.length % 4 = 0 := by simp only [List.length_cons] at hm; omega
        rcases tri_enc ht with ⟨x, y, z, rfl, he⟩ | ⟨hlt, he⟩
        · rw [if_neg (fun h => by have := h.1; simp at this)] at h
          obtain ⟨b', rfl, hb'⟩ := dec_enc n l _ out (by simp at hn; omega) hlm h
          refine ⟨x :: y :: z :: b', by rw [List.append_assoc]; rfl, ?_⟩
          rw [encS, hb']
          have : [p, q, r, t] ++ l = [sgB (x / 4), sgB (x % 4 * 16 + y / 16), sgB (y % 16 * 4 + z / 64), sgB (z % 64)] ++ l := by rw [he]
          exact this.symm
        · by_cases hl : l = []
          · subst hl
            rw [if_neg (fun h => h.2 rfl)] at h
            rw [decB] at h
            · exact ⟨b, (Prod.mk.inj h).1.symm, he⟩
            · intro p q r t l e; cases e
          · rw [if_pos ⟨hlt, hl⟩] at h; cases (Prod.mk.inj h).2
theorem zeroS_1 (a : Int) (h : a = 0) : zeroS [a] = true := by subst h; rfl
theorem zeroS_2 (a b : Int) (h : a = 0) (h' : b = 0) : zeroS [a, b] = true := by subst h; subst h'; rfl
theorem tri3 {a b c : Int} (ha : 0 ≤ a ∧ a ≤ 255) (hb : 0 ≤ b ∧ b ≤ 255) (hc : 0 ≤ c ∧ c ≤ 255) : triS (sgB (a / 4)) (sgB (a % 4 * 16 + b / 16)) (sgB (b % 16 * 4 + c / 64)) (sgB (c % 64)) = ([a, b, c], true) := by
  unfold triS
  rw [v_sg (k := a / 4) (by omega), v_sg (k := a % 4 * 16 + b / 16) (by omega), v_sg (k := b % 16 * 4 + c / 64) (by omega), v_sg (k := c % 64) (by omega), if_neg (by omega), if_neg (fun h => sg_ne (k := c % 64) (by omega) h.2), if_neg (by omega), if_neg (fun h => sg_ne (k := c % 64) (by omega) h), if_neg (by omega)]
  generalize hX : ((a / 4 * 64 + (a % 4 * 16 + b / 16)) * 64 + (b % 16 * 4 + c / 64)) * 64 + c % 64 = X
  unfold fin3
  rw [if_pos (show zeroS (List.drop 3 (b3 X)) = true from rfl)]
  show ([X / 65536 % 256, X / 256 % 256, X % 256], true) = _
  rw [show X / 65536 % 256 = a by omega, show X / 256 % 256 = b by omega, show X % 256 = c by omega]
theorem tri2 {a b : Int} (ha : 0 ≤ a ∧ a ≤ 255) (hb : 0 ≤ b ∧ b ≤ 255) : triS (sgB (a / 4)) (sgB (a % 4 * 16 + b / 16)) (sgB (b % 16 * 4)) 61 = ([a, b], true) := by
  unfold triS
  rw [v_sg (k := a / 4) (by omega), v_sg (k := a % 4 * 16 + b / 16) (by omega), v_sg (k := b % 16 * 4) (by omega), if_neg (by omega), if_neg (fun h => sg_ne (k := b % 16 * 4) (by omega) h.1), if_neg (by omega), if_pos rfl]
  generalize hX : ((a / 4 * 64 + (a % 4 * 16 + b / 16)) * 64 + b % 16 * 4) * 64 = X
  unfold fin3
  rw [if_pos (show zeroS (List.drop 2 (b3 X)) = true from zeroS_1 (X % 256) (by omega))]
  show ([X / 65536 % 256, X / 256 % 256], true) = _
  rw [show X / 65536 % 256 = a by omega, show X / 256 % 256 = b by omega]
theorem tri1 {a : Int} (ha : 0 ≤ a ∧ a ≤ 255) : triS (sgB (a / 4)) (sgB (a % 4 * 16)) 61 61 = ([a], true) := by
  unfold triS
  rw [v_sg (k := a / 4) (by omega), v_sg (k := a % 4 * 16) (by omega), if_neg (by omega), if_pos ⟨rfl, rfl⟩]
  generalize hX : (a / 4 * 64 + a % 4 * 16) * 64 * 64 = X
  unfold fin3
  rw [if_pos (show zeroS (List.drop 1 (b3 X)) = true from zeroS_2 (X / 256 % 256) (X % 256) (by omega) (by omega))]
  show ([X / 65536 % 256], true) = _
  rw [show X / 65536 % 256 = a by omega]
theorem enc_len : ∀ (n : Nat) (b : List Int), b.length ≤ n → (encS b).length % 4 = 0
  | n, [], hn => by rw [encS]; rfl
  | n, [_], hn => by rw [encS]; simp
  | n, [_, _], hn => by rw [encS]; simp
  | 0, _ :: _ :: _ :: _, hn => by simp at hn
  | n + 1, a :: b :: c :: r, hn => by
    have := enc_len n r (by simp at hn; omega)
    rw [encS]
    simp only [List.length_cons]
    omega
theorem enc_dec : ∀ (n : Nat) (b acc : List Int), b.length ≤ n → Bytes b → decB (encS b) acc = (acc ++ b, true)
  | n, [], acc, hn, hb => by
    rw [encS, decB, List.append_nil]
    intro p q r t l e; cases e
  | n, [a], acc, hn, hb => by
    rw [encS, decB, tri1 hb.head, if_pos rfl, if_neg (fun h => h.2 rfl), decB]
    intro p q r t l e; cases e
  | n, [a, b], acc, hn, hb => by
    rw [encS, decB, tri2 hb.head hb.tail.head, if_pos rfl, if_neg (fun h => h.2 rfl), decB]
    intro p q r t l e; cases e
  | 0, _ :: _ :: _ :: _, acc, hn, hb => by simp at hn
  | n + 1, a :: b :: c :: r, acc, hn, hb => by
    rw [encS, decB, tri3 hb.head hb.tail.head hb.tail.tail.head, if_pos rfl, if_neg (fun h => by have := h.1; simp at this), enc_dec n r _ (by simp at hn; omega) hb.tail.tail.tail, List.append_assoc]
    rfl
theorem decS_enc {b : List Int} (hb : Bytes b) : decS (encS b) = (b, true) := by
  unfold decS
  rw [if_neg (fun h => h (enc_len b.length b (Nat.le_refl _))), enc_dec b.length b [] (Nat.le_refl _) hb]
  rfl
theorem decS_only {s : List UInt8} {b : List Int} (h : decS s = (b, true)) : encS b = s := by
  unfold decS at h
  split at h
  · cases (Prod.mk.inj h).2
  · rename_i hm
    obtain ⟨b', rfl, he⟩ := dec_enc s.length s [] b (Nat.le_refl _) (by omega) h
    exact he
theorem toB_u8 (c : UInt8) : toB (c.toNat : Int) = c := by
  show UInt8.ofNat ((c.toNat : Int)).toNat = c
  rw [toNat_nat]; simp
end Go.Proofs.YtaiapalhdejngaaX

/- Texts cut at a byte. -/
set_option linter.unusedVariables false
set_option linter.unusedSimpArgs false
namespace Go.Proofs.YtaiapalhdejngaaX
open Go
def splitB (c : UInt8) : List UInt8 → List (List UInt8)
  | [] => [[]]
  | x :: l => if x = c then [] :: splitB c l else match splitB c l with
    | [] => [[x]]
    | y :: ys => (x :: y) :: ys
theorem split_ne (c : UInt8) : ∀ l, splitB c l ≠ []
  | [] => by simp [splitB]
  | x :: l => by
    rw [splitB]
    split
    · simp
    · split <;> simp
theorem idx_cases (c : UInt8) : ∀ s : List UInt8, (Lib.indexByte s c = -1 ∧ c ∉ s ∧ s.count c = 0 ∧ splitB c s = [s]) ∨
    ∃ m : Nat, m < s.length ∧ Lib.indexByte s c = (m : Int) ∧ c ∉ s.take m ∧ s = s.take m ++ c :: s.drop (m + 1) ∧ s.count c = 1 + (s.drop (m + 1)).count c ∧ splitB c s = s.take m :: splitB c (s.drop (m + 1))
  | [] => .inl ⟨rfl, by simp, rfl, rfl⟩
  | x :: l => by
    by_cases h : x = c
    · subst h
      refine .inr ⟨0, by simp, ?_, by simp, by simp, by simp; omega, by simp [splitB]⟩
      rw [Lib.indexByte, beq_self_eq_true, if_pos rfl]; rfl
    · have hb : (x == c) = false := by rw [beq_eq_false_iff_ne]; exact h
      rcases idx_cases c l with ⟨h1, h2, h3, h4⟩ | ⟨m, h1, h2, h3, h4, h5, h6⟩
      · refine .inl ⟨?_, ?_, ?_, ?_⟩
        · rw [Lib.indexByte, hb, h1]; rfl
        · simp only [List.mem_cons, not_or]; exact ⟨fun e => h e.symm, h2⟩
        · rw [List.count_cons_of_ne h, h3]
        · rw [splitB, if_neg h, h4]
      · refine .inr ⟨m + 1, by simp; omega, ?_, ?_, ?_, ?_, ?_⟩
        · rw [Lib.indexByte, hb, h2]
          simp only [Bool.false_eq_true, if_false]
          rw [if_neg (by rw [beq_iff_eq]; omega)]; omega
        · rw [List.take_succ_cons]; simp only [List.mem_cons, not_or]; exact ⟨fun e => h e.symm, h3⟩
        · rw [List.take_succ_cons, List.drop_succ_cons, List.cons_append, ← h4]
        · rw [List.count_cons_of_ne h, List.drop_succ_cons, h5]
        · rw [splitB, if_neg h, h6, List.take_succ_cons, List.drop_succ_cons]
theorem Index_eq (n : Nat) (s : List UInt8) (c : UInt8) : F114 n s [c] = some (Lib.indexByte s c) := by
  rw [F114]
  show iteB false _ _ = _
  rw [iteB_f]
  by_cases h : ([c] : List UInt8) = s
  · rw [show (([c] : List UInt8) == s) = true by rw [beq_iff_eq]; exact h, iteB_t, ← h, Lib.indexByte, beq_self_eq_true]; rfl
  · rw [show (([c] : List UInt8) == s) = false by rw [beq_eq_false_iff_ne]; exact h, iteB_f]
    show iteB true _ _ = _
    rw [iteB_t, grd_t _ (by simp), F113, bind_some']
    show some (Lib.indexByte s (((c.toNat : Nat) : Int).toNat.toUInt8)) = _
    rw [toNat_nat, show c.toNat.toUInt8 = c by simp]
def cutB (c : UInt8) (s : List UInt8) : List UInt8 × List UInt8 × Bool := if c ∈ s then (s.take (Lib.indexByte s c).toNat, s.drop ((Lib.indexByte s c).toNat + 1), true) else (s, [], false)
theorem Cut_eq (n : Nat) (s : List UInt8) (c : UInt8) (hs : s.length ≤ 1000000) : F73 n s [c] = some (cutB c s) := by
  unfold cutB
  rw [F73, F98, Index_eq, bind_some', show (([c] : List UInt8).length : Int) = 1 from rfl]
  rcases idx_cases c s with ⟨h1, h2, h3, h4⟩ | ⟨m, h1, h2, h3, h4, h5, h6⟩
  · rw [if_neg h2, h1]; rfl
  · have hm : c ∈ s := by rw [h4]; simp
    rw [if_pos hm, h2, decide_eq_true (by omega), iteB_t, w64 (by omega), grd_t _ (by omega), grd_t _ (by omega), bind_some', show ((m : Int) + 1).toNat = m + 1 by omega, toNat_nat]
theorem idx_app (c : UInt8) (b : List UInt8) : ∀ a : List UInt8, c ∉ a → Lib.indexByte (a ++ c :: b) c = (a.length : Int)
  | [], _ => by rw [List.nil_append, Lib.indexByte, beq_self_eq_true, if_pos rfl]; rfl
  | x :: a, h => by
    simp only [List.mem_cons, not_or] at h
    rw [List.cons_append, Lib.indexByte, show (x == c) = false by (rw [beq_eq_false_iff_ne]; exact fun e => h.1 e.symm), idx_app c b a h.2]
    simp only [Bool.false_eq_true, if_false]
    rw [if_neg (by rw [beq_iff_eq]; omega), List.length_cons]; omega
theorem cut_app (c : UInt8) (a b : List UInt8) (h : c ∉ a) : cutB c (a ++ c :: b) = (a, b, true) := by
  unfold cutB
  rw [if_pos (by simp), idx_app c b a h, toNat_nat, List.take_left']
  · rw [show a.length + 1 = (a ++ [c]).length by simp, show a ++ c :: b = (a ++ [c]) ++ b by simp, List.drop_left']; rfl
  · rfl
theorem cut_none (c : UInt8) (a : List UInt8) (h : c ∉ a) : cutB c a = (a, [], false) := by unfold cutB; rw [if_neg h]
end Go.Proofs.YtaiapalhdejngaaX

set_option linter.unusedVariables false
set_option linter.unusedSimpArgs false
namespace Go.Proofs.YtaiapalhdejngaaX
open Go Go.RowKit Go.Proofs
set_option maxRecDepth 100000
attribute [local go_sem ↓] stepsK_build stepsK_bs appendS
attribute [local go_sem] String.reduceEq String.reduceNe reduceCtorEq Int.reduceEq Nat.reduceAdd Nat.reduceSub Nat.reduceMul Nat.reduceLT Nat.reduceLeDiff Nat.reduceEqDiff Nat.reduceBEq Int.reduceToNat Int.reduceLT Int.reduceLE Int.reduceGT Int.reduceGE Int.reduceAdd Int.reduceSub Int.reduceMul Int.reduceNeg Int.reduceBEq Int.reduceBNe Int.reducePow Int.reduceDiv Int.reduceMod Int.reduceTDiv Int.reduceTMod Int.reduceNatCast
end Go.Proofs.YtaiapalhdejngaaX

set_option linter.unusedVariables false
set_option linter.unusedSimpArgs false
namespace Go.Proofs.YtaiapalhdejngaaX
open Go Go.RowKit Go.Proofs
set_option maxRecDepth 100000
attribute [local go_sem ↓] stepsK_build stepsK_bs appendS
attribute [local go_sem] String.reduceEq String.reduceNe reduceCtorEq Int.reduceEq Nat.reduceAdd Nat.reduceSub Nat.reduceMul Nat.reduceLT Nat.reduceLeDiff Nat.reduceEqDiff Nat.reduceBEq Int.reduceToNat Int.reduceLT Int.reduceLE Int.reduceGT Int.reduceGE Int.reduceAdd Int.reduceSub Int.reduceMul Int.reduceNeg Int.reduceBEq Int.reduceBNe Int.reducePow Int.reduceDiv Int.reduceMod Int.reduceTDiv Int.reduceTMod Int.reduceNatCast
end Go.Proofs.YtaiapalhdejngaaX

/- Tags told and counted, plainly. -/
set_option linter.unusedVariables false
set_option linter.unusedSimpArgs false
namespace Go.Proofs.YtaiapalhdejngaaX
open Go
theorem hexP_ok : ∀ (n : Nat) (l : List UInt8) (acc : List Int), l.length ≤ n → l.length % 2 = 0 → (hexP l acc).2 = true → (hexP l acc).1.length = acc.length + l.length / 2 ∧ ∀ c ∈ l, 0 ≤ hvS (c.toNat : Int)
  | n, [], acc, hn, hm, h => ⟨rfl, fun c hc => by cases hc⟩
  | n, [_], acc, hn, hm, h => by simp at hm
  | 0, _ :: _ :: _, acc, hn, hm, h => by simp at hn
  | n + 1, a :: b :: r, acc, hn, hm, h => by
    rw [hexP] at h ⊢
    split at h
    · cases h
    · rename_i hne
      rw [if_neg hne]
      have h1 : 0 ≤ hvS (a.toNat : Int) := by rcases Int.lt_or_le (hvS (a.toNat : Int)) 0 with h | h; exact absurd (.inl h) hne; exact h
      have h2 : 0 ≤ hvS (b.toNat : Int) := by rcases Int.lt_or_le (hvS (b.toNat : Int)) 0 with h | h; exact absurd (.inr h) hne; exact h
      obtain ⟨k1, k2⟩ := hexP_ok n r _ (by simp at hn; omega) (by simp only [List.length_cons] at hm; omega) h
      refine ⟨by rw [k1, List.length_append]; simp only [List.length_cons, List.length_nil]; omega, fun c hc => ?_⟩
      rcases List.mem_cons.1 hc with rfl | hc
      · exact h1
      rcases List.mem_cons.1 hc with rfl | hc
      · exact h2
      · exact k2 c hc
theorem et_ok {l : List UInt8} (h : (etS l).2 = true) : l.length = 32 ∧ ∀ c ∈ l, c ≠ 45 := by
  unfold etS at h
  split at h
  · rename_i h2
    unfold hexS at h2
    split at h2
    · cases h2.1
    · rename_i hm
      obtain ⟨k1, k2⟩ := hexP_ok l.length l [] (Nat.le_refl _) (by omega) h2.1
      refine ⟨by rw [h2.2] at k1; simp at k1; omega, fun c hc e => ?_⟩
      have := k2 c hc
      subst e
      exact absurd this (by decide)
  · cases h
def cntS (number : List UInt8) : Int := if (readD number).2 = false then 0 else if (readD number).1 < 1 then 0 else if 10000 < (readD number).1 then 0 else if decT (readD number).1 = number then (readD number).1 else 0
def countS (l : List UInt8) : Int := if (etS (cutB 45 l).1).2 = false then 0 else if (cutB 45 l).2.2 = false then 1 else cntS (cutB 45 l).2.1
theorem ev_cnt (number : List UInt8) : Ev (fun n => (F78 n number).bind fun v5 => iteB (!v5.2) (some (0 : Int)) (iteB (decide (v5.1 < (1 : Int))) (some (0 : Int)) (iteB (decide ((10000 : Int) < v5.1)) (some (0 : Int)) ((F55 n v5.1).bind fun v9 => iteB (!(v9 == number)) (some (0 : Int)) (some v5.1))))) (cntS number) := by
  refine (ev_ReadDecimal number).bind (g := fun n v5 => iteB (!v5.2) (some (0 : Int)) (iteB (decide (v5.1 < (1 : Int))) (some (0 : Int)) (iteB (decide ((10000 : Int) < v5.1)) (some (0 : Int)) ((F55 n v5.1).bind fun v9 => iteB (!(v9 == number)) (some (0 : Int)) (some v5.1))))) ?_
  have hb := readD_bd number
  unfold cntS
  cases h2 : (readD number).2 with
  | false => rw [if_pos rfl]; exact Ev.pure
  | true =>
    rw [if_neg (by decide)]
    by_cases h1 : (readD number).1 < 1
    · rw [if_pos h1]; exact Ev.pure.congr fun n => by rw [Bool.not_true, iteB_f, decide_eq_true h1, iteB_t]
    rw [if_neg h1]
    by_cases h3 : 10000 < (readD number).1
    · rw [if_pos h3]; exact Ev.pure.congr fun n => by rw [Bool.not_true, iteB_f, decide_eq_false h1, iteB_f, decide_eq_true h3, iteB_t]
    rw [if_neg h3]
    refine ((ev_Decimal (readD number).1 (by omega)).bind (g := fun n v9 => iteB (!(v9 == number)) (some (0 : Int)) (some (readD number).1)) ?_).congr fun n => by rw [Bool.not_true, iteB_f, decide_eq_false h1, iteB_f, decide_eq_false h3, iteB_f]
    by_cases hd : decT (readD number).1 = number
    · rw [if_pos hd, beq_iff_eq.2 hd]; exact Ev.pure
    · rw [if_neg hd, beq_eq_false_iff_ne.2 hd]; exact Ev.pure
theorem cut_len (c : UInt8) (s : List UInt8) : (cutB c s).1.length ≤ s.length := by
  unfold cutB
  split
  · show (s.take _).length ≤ _; rw [List.length_take]; omega
  · exact Nat.le_refl _
theorem ev_Count (l : List UInt8) (hl : l.length ≤ 1000000) : Ev (fun n => F41 n l) (countS l) := by
  have hc := cut_len 45 l
  have u : ∀ n, F41 n l = (F37 n (cutB 45 l).1).bind fun v2 => iteB (!v2.2) (some (0 : Int)) (iteB (!(cutB 45 l).2.2) (some (1 : Int)) ((F78 n (cutB 45 l).2.1).bind fun v5 => iteB (!v5.2) (some (0 : Int)) (iteB (decide (v5.1 < (1 : Int))) (some (0 : Int)) (iteB (decide ((10000 : Int) < v5.1)) (some (0 : Int)) ((F55 n v5.1).bind fun v9 => iteB (!(v9 == (cutB 45 l).2.1)) (some (0 : Int)) (some v5.1)))))) := by
    intro n
    rw [F41, Cut_eq n l 45 hl, bind_some']
  refine ((ev_eSum (cutB 45 l).1 (by omega)).bind (g := fun n v2 => iteB (!v2.2) (some (0 : Int)) (iteB (!(cutB 45 l).2.2) (some (1 : Int)) ((F78 n (cutB 45 l).2.1).bind fun v5 => iteB (!v5.2) (some (0 : Int)) (iteB (decide (v5.1 < (1 : Int))) (some (0 : Int)) (iteB (decide ((10000 : Int) < v5.1)) (some (0 : Int)) ((F55 n v5.1).bind fun v9 => iteB (!(v9 == (cutB 45 l).2.1)) (some (0 : Int)) (some v5.1))))))) ?_).congr u
  unfold countS
  cases h2 : (etS (cutB 45 l).1).2 with
  | false => rw [if_pos rfl]; exact Ev.pure
  | true =>
    rw [if_neg (by decide)]
    cases h3 : (cutB 45 l).2.2 with
    | false => rw [if_pos rfl]; exact Ev.pure
    | true =>
      rw [if_neg (by decide)]
      exact (ev_cnt (cutB 45 l).2.1).congr fun n => rfl
theorem sum_bytes (d : List Int) : Bytes (sumS d) := sumL_bytes _ _ _ _
theorem sum_len (d : List Int) : (sumS d).length = 16 := sumL_len _ _ _ _
theorem decB_bytes : ∀ (n : Nat) (s : List UInt8) (acc : List Int), s.length ≤ n → Bytes acc → Bytes (decB s acc).1 := by
  have hf : ∀ (x : Int) (k : Nat), Bytes (fin3 x k).1 := by
    intro x k
    unfold fin3
    split
    · refine Bytes.take ?_ k
      intro y hy
      simp only [b3, List.mem_cons, List.not_mem_nil, or_false] at hy
      omega
    · exact Bytes.nil
  have ht : ∀ p q r t, Bytes (triS p q r t).1 := by
    intro p q r t
    unfold triS
    split
    · exact Bytes.nil
    split
    · exact hf _ _
    split
    · exact Bytes.nil
    split
    · exact hf _ _
    split
    · exact Bytes.nil
    · exact hf _ _
  intro n
  induction n with
  | zero =>
    intro s acc hn ha
    obtain rfl : s = [] := List.length_eq_zero_iff.1 (by omega)
    rw [decB]
    · exact ha
    · intro p q r t l e; cases e
  | succ n ih =>
    intro s acc hn ha
    match s, hn with
    | [], _ => rw [decB]; exact ha; intro p q r t l e; cases e
    | [_], _ => rw [decB]; exact ha; intro p q r t l e; cases e
    | [_, _], _ => rw [decB]; exact ha; intro p q r t l e; cases e
    | [_, _, _], _ => rw [decB]; exact ha; intro p q r t l e; cases e
    | p :: q :: r :: t :: l, hn =>
      rw [decB]
      split
      · split
        · exact Bytes.nil
        · exact ih l _ (by simp at hn; omega) (ha.append (ht p q r t))
      · exact Bytes.nil
theorem decS_bytes (s : List UInt8) : Bytes (decS s).1 := by
  unfold decS
  split
  · exact Bytes.nil
  · exact decB_bytes s.length s [] (Nat.le_refl _) Bytes.nil
def givenS (v : List UInt8) (d : List Int) : Bool := decide (v = encS (sumS d))
theorem given_eq (v : List UInt8) (d : List Int) : iteB (decS v).2 (some ((decS v).1.map toB == (sumS d).map toB)) (some false) = some (givenS v d) := by
  unfold givenS
  have hb := sum_bytes d
  cases h : decS v with
  | mk b ok =>
    have hbb : Bytes b := by have := decS_bytes v; rw [h] at this; exact this
    cases ok with
    | false =>
      have : ¬ v = encS (sumS d) := by
        intro e
        rw [e, decS_enc hb] at h
        cases (Prod.mk.inj h).2
      rw [decide_eq_false this]; rfl
    | true =>
      have he := decS_only h
      show some (b.map toB == (sumS d).map toB) = _
      congr 1
      rw [Bool.eq_iff_iff, beq_iff_eq, decide_eq_true_eq]
      constructor
      · intro e
        rw [← he, toB_inj hbb hb e]
      · intro e
        rw [e, decS_enc hb] at h
        rw [(Prod.mk.inj h).1]
theorem ev_Given (v : List UInt8) (d : List Int) (hv : v.length ≤ 1000000) (hd : Bytes d) : Ev (fun n => F43 n v d) (givenS v d) := by
  refine ((ev_Decode v hv).bind (g := fun n v1 => (F45 n d).bind fun v2 => grd (v2.length = 16) (iteB v1.2 (grd (v2.length = 16) (some ((v1.1.map toB) == (v2.map toB)))) (some false))) (((ev_Sum hd).bind (g := fun n v2 => grd (v2.length = 16) (iteB (decS v).2 (grd (v2.length = 16) (some (((decS v).1.map toB) == (v2.map toB)))) (some false))) (Ev.const ?_)).congr fun n => rfl)).congr fun n => by rw [F43]
  rw [grd_t _ (sum_len d), grd_t _ (sum_len d)]
  exact given_eq v d
end Go.Proofs.YtaiapalhdejngaaX

/- Base 64: the program's Encode. -/
set_option linter.unusedVariables false
set_option linter.unusedSimpArgs false
namespace Go.Proofs.YtaiapalhdejngaaX
open Go
theorem sp_fin : ∀ k : Fin 64, F110 0 (k.val : Int) = some ((sgB (k.val : Int)).toNat : Int) := by decide +kernel
theorem sign_p (n : Nat) {k : Int} (h : 0 ≤ k ∧ k < 64) : F110 n k = some ((sgB k).toNat : Int) := by
  obtain ⟨a, rfl⟩ := Int.eq_ofNat_of_zero_le h.1
  exact sp_fin ⟨a, by omega⟩
theorem orC (k : IntKind) (x y : Int) : bOr k x y = bOr k y x := by unfold bOr; rw [BitVec.or_comm]
theorem orHi (k : Nat) (m : Int) (hk : k ≤ 16) (hm : (2 : Int) ^ min k IntKind.i64.bits = m) (hm2 : (2 : Int) ^ k = m) (hm0 : 0 < m ∧ m ≤ 65536) {x c : Int} (hx : 0 ≤ x ∧ x < m) (hc : 0 ≤ c ∧ c ≤ 255) (hcm : 0 ≤ c * m ∧ c * m ≤ 16711680) : IntKind.wrap .i64 (bOr .i64 x (IntKind.wrap .i64 (bShl .i64 (IntKind.wrap .i64 c) k))) = x + c * m := by
  have hs : bShl .i64 c k = c * m := by unfold bShl; rw [hm]
  rw [w64 (n := c) (by omega), hs, w64 (n := c * m) (by omega), orC, bOr_add .i64 k (c * m) x hcm.1 (by show c * m < 18446744073709551616; omega) (by rw [hm2]; exact Int.mul_emod_left c m) hx.1 (by rw [hm2]; exact hx.2) (by show k ≤ 64; omega), w64 (by omega)]
  omega
theorem or0 {c : Int} (hc : 0 ≤ c ∧ c ≤ 255) : IntKind.wrap .i64 (bOr .i64 0 (IntKind.wrap .i64 c)) = c := by
  rw [w64 (n := c) (by omega), orC, bOr_add .i64 0 c 0 hc.1 (by show c < 18446744073709551616; omega) (by show c % 1 = 0; omega) (by omega) (by show (0 : Int) < 1; omega) (by decide), Int.add_zero, w64 (by omega)]
theorem mask (k : Nat) (m : Int) (hm : (2 : Int) ^ min k IntKind.i64.bits = m) (hm0 : 0 < m) {X : Int} (h0 : 0 ≤ X / m) (h1 : X / m < 16777216) : IntKind.wrap .i64 (bAnd .i64 (bShr .i64 X k) 63) = X / m % 64 := by
  rw [bShr_div .i64 X k m hm (by omega), bAnd_low .i64 6 (X / m) h0 (by show X / m < 18446744073709551616; omega) (by decide) 63 (by decide)]
  exact w64 (by show -9223372036854775808 ≤ X / m % 64 ∧ X / m % 64 ≤ 9223372036854775807; omega)
theorem J1_q (n : Nat) (l : List Int) (hl : 0 < l.length) (x : Int) (hx : 0 ≤ x ∧ x < 65536) (hb : Bytes l) : F84_J1 n l x = some [((sgB ((x + l.getD 0 0 * 65536) / 262144)).toNat : Int), if 1 ≤ l.length then ((sgB ((x + l.getD 0 0 * 65536) / 4096 % 64)).toNat : Int) else 61, if 2 ≤ l.length then ((sgB ((x + l.getD 0 0 * 65536) / 64 % 64)).toNat : Int) else 61, if 3 ≤ l.length then ((sgB ((x + l.getD 0 0 * 65536) % 64)).toNat : Int) else 61] := by
  have hc := hb.getD 0
  have e : IntKind.wrap .i64 (bOr .i64 x (IntKind.wrap .i64 (bShl .i64 (IntKind.wrap .i64 (l.getD 0 0)) 16))) = x + l.getD 0 0 * 65536 := orHi 16 65536 (by omega) (by decide) (by decide) (by omega) hx hc (by omega)
  generalize hX : x + l.getD 0 0 * 65536 = X at *
  have m18 : IntKind.wrap .i64 (bAnd .i64 (bShr .i64 X 18) 63) = X / 262144 := by
    rw [mask 18 262144 (by decide) (by omega) (by omega) (by omega)]; omega
  have m12 : IntKind.wrap .i64 (bAnd .i64 (bShr .i64 X 12) 63) = X / 4096 % 64 := mask 12 4096 (by decide) (by omega) (by omega) (by omega)
  have m6 : IntKind.wrap .i64 (bAnd .i64 (bShr .i64 X 6) 63) = X / 64 % 64 := mask 6 64 (by decide) (by omega) (by omega) (by omega)
  have m0 : IntKind.wrap .i64 (bAnd .i64 (bShr .i64 X 0) 63) = X % 64 := by
    rw [mask 0 1 (by decide) (by omega) (by omega) (by omega), Int.ediv_one]
  have j5 : ∀ a b c : Int, F84_J5 n l x a b c = some [a, b, c, if 3 ≤ l.length then ((sgB (X % 64)).toNat : Int) else 61] := by
    intro a b c
    rw [F84_J5]
    show iteB _ ((F110 n (IntKind.wrap .i64 (bAnd .i64 (bShr .i64 (IntKind.wrap .i64 (bOr .i64 x (IntKind.wrap .i64 (bShl .i64 (IntKind.wrap .i64 (l.getD 0 0)) 16)))) 0) 63))).bind _) _ = _
    rw [e, m0, sign_p n (by omega), bind_some', F84_J6, F84_J6]
    by_cases h : 3 ≤ l.length
    · rw [decide_eq_true (by omega), iteB_t, if_pos h]
    · rw [decide_eq_false (by omega), iteB_f, if_neg h]
  have j4 : ∀ a b : Int, F84_J4 n l x a b = some [a, b, if 2 ≤ l.length then ((sgB (X / 64 % 64)).toNat : Int) else 61, if 3 ≤ l.length then ((sgB (X % 64)).toNat : Int) else 61] := by
    intro a b
    rw [F84_J4]
    show iteB _ ((F110 n (IntKind.wrap .i64 (bAnd .i64 (bShr .i64 (IntKind.wrap .i64 (bOr .i64 x (IntKind.wrap .i64 (bShl .i64 (IntKind.wrap .i64 (l.getD 0 0)) 16)))) 6) 63))).bind _) _ = _
    rw [e, m6, sign_p n (by omega), bind_some', j5, j5]
    by_cases h : 2 ≤ l.length
    · rw [decide_eq_true (by omega), iteB_t, if_pos h]
    · rw [decide_eq_false (by omega), iteB_f, if_neg h]
  have j3 : ∀ a : Int, F84_J3 n l x a = some [a, if 1 ≤ l.length then ((sgB (X / 4096 % 64)).toNat : Int) else 61, if 2 ≤ l.length then ((sgB (X / 64 % 64)).toNat : Int) else 61, if 3 ≤ l.length then ((sgB (X % 64)).toNat : Int) else 61] := by
    intro a
    rw [F84_J3]
    show iteB _ ((F110 n (IntKind.wrap .i64 (bAnd .i64 (bShr .i64 (IntKind.wrap .i64 (bOr .i64 x (IntKind.wrap .i64 (bShl .i64 (IntKind.wrap .i64 (l.getD 0 0)) 16)))) 12) 63))).bind _) _ = _
    rw [e, m12, sign_p n (by omega), bind_some', j4, j4]
    by_cases h : 1 ≤ l.length
    · rw [decide_eq_true (by omega), iteB_t, if_pos h]
    · rw [decide_eq_false (by omega), iteB_f, if_neg h]
  rw [F84_J1]
  show grd _ (iteB _ ((F110 n (IntKind.wrap .i64 (bAnd .i64 (bShr .i64 (IntKind.wrap .i64 (bOr .i64 x (IntKind.wrap .i64 (bShl .i64 (IntKind.wrap .i64 (l.getD 0 0)) 16)))) 18) 63))).bind _) _) = _
  rw [grd_t _ (by omega), decide_eq_true (by omega), iteB_t, e, m18, sign_p n (by omega), bind_some', j3]
theorem quad3 (n : Nat) {a b c : Int} (ha : 0 ≤ a ∧ a ≤ 255) (hb : 0 ≤ b ∧ b ≤ 255) (hc : 0 ≤ c ∧ c ≤ 255) : F84 n [a, b, c] = some [((sgB (a / 4)).toNat : Int), ((sgB (a % 4 * 16 + b / 16)).toNat : Int), ((sgB (b % 16 * 4 + c / 64)).toNat : Int), ((sgB (c % 64)).toNat : Int)] := by
  have hB : Bytes [a, b, c] := Bytes.cons ha (Bytes.cons hb (Bytes.cons hc Bytes.nil))
  have e8 : IntKind.wrap .i64 (bOr .i64 c (IntKind.wrap .i64 (bShl .i64 (IntKind.wrap .i64 b) 8))) = c + b * 256 := orHi 8 256 (by omega) (by decide) (by decide) (by omega) (by omega) hb (by omega)
  rw [F84]
  show iteB true (grd _ (F84_J2 n [a, b, c] (IntKind.wrap .i64 (bOr .i64 0 (IntKind.wrap .i64 c))))) _ = _
  rw [iteB_t, grd_t _ (by simp), or0 hc, F84_J2]
  show grd _ (F84_J1 n [a, b, c] (IntKind.wrap .i64 (bOr .i64 c (IntKind.wrap .i64 (bShl .i64 (IntKind.wrap .i64 b) 8))))) = _
  rw [grd_t _ (by simp), e8, J1_q n _ (by simp) _ (by omega) hB]
  show some [((sgB ((c + b * 256 + a * 65536) / 262144)).toNat : Int), ((sgB ((c + b * 256 + a * 65536) / 4096 % 64)).toNat : Int), ((sgB ((c + b * 256 + a * 65536) / 64 % 64)).toNat : Int), ((sgB ((c + b * 256 + a * 65536) % 64)).toNat : Int)] = _
  rw [show (c + b * 256 + a * 65536) / 262144 = a / 4 by omega, show (c + b * 256 + a * 65536) / 4096 % 64 = a % 4 * 16 + b / 16 by omega, show (c + b * 256 + a * 65536) / 64 % 64 = b % 16 * 4 + c / 64 by omega, show (c + b * 256 + a * 65536) % 64 = c % 64 by omega]
theorem quad2 (n : Nat) {a b : Int} (ha : 0 ≤ a ∧ a ≤ 255) (hb : 0 ≤ b ∧ b ≤ 255) : F84 n [a, b] = some [((sgB (a / 4)).toNat : Int), ((sgB (a % 4 * 16 + b / 16)).toNat : Int), ((sgB (b % 16 * 4)).toNat : Int), 61] := by
  have hB : Bytes [a, b] := Bytes.cons ha (Bytes.cons hb Bytes.nil)
  have e8 : IntKind.wrap .i64 (bOr .i64 0 (IntKind.wrap .i64 (bShl .i64 (IntKind.wrap .i64 b) 8))) = 0 + b * 256 := orHi 8 256 (by omega) (by decide) (by decide) (by omega) (by omega) hb (by omega)
  rw [F84]
  show iteB false _ (iteB true (F84_J2 n [a, b] 0) _) = _
  rw [iteB_f, iteB_t, F84_J2]
  show grd _ (F84_J1 n [a, b] (IntKind.wrap .i64 (bOr .i64 0 (IntKind.wrap .i64 (bShl .i64 (IntKind.wrap .i64 b) 8))))) = _
  rw [grd_t _ (by simp), e8, J1_q n _ (by simp) _ (by omega) hB]
  show some [((sgB ((0 + b * 256 + a * 65536) / 262144)).toNat : Int), ((sgB ((0 + b * 256 + a * 65536) / 4096 % 64)).toNat : Int), ((sgB ((0 + b * 256 + a * 65536) / 64 % 64)).toNat : Int), 61] = _
  rw [show (0 + b * 256 + a * 65536) / 262144 = a / 4 by omega, show (0 + b * 256 + a * 65536) / 4096 % 64 = a % 4 * 16 + b / 16 by omega, show (0 + b * 256 + a * 65536) / 64 % 64 = b % 16 * 4 by omega]
theorem quad1 (n : Nat) {a : Int} (ha : 0 ≤ a ∧ a ≤ 255) : F84 n [a] = some [((sgB (a / 4)).toNat : Int), ((sgB (a % 4 * 16)).toNat : Int), 61, 61] := by
  have hB : Bytes [a] := Bytes.cons ha Bytes.nil
  rw [F84]
  show iteB false _ (iteB false _ (F84_J1 n [a] 0)) = _
  rw [iteB_f, iteB_f, J1_q n _ (by simp) _ (by omega) hB]
  show some [((sgB ((0 + a * 65536) / 262144)).toNat : Int), ((sgB ((0 + a * 65536) / 4096 % 64)).toNat : Int), 61, 61] = _
  rw [show (0 + a * 65536) / 262144 = a / 4 by omega, show (0 + a * 65536) / 4096 % 64 = a % 4 * 16 by omega]
theorem ev_EncL : ∀ (k : Nat) (l x : List Int), l.length ≤ k → k ≤ 1000000 → x.length + 4 * k ≤ 100000000 → Bytes l → Ev (fun n => F46_L1 n l x) (x.map toB ++ encS l) := by
  have nil : ∀ x : List Int, Ev (fun n => F46_L1 n [] x) (x.map toB ++ encS []) := by
    intro x
    rw [encS, List.append_nil]
    exact Ev.step (Ev.pure.congr fun n => by rw [F46_L1]; rfl)
  intro k
  induction k with
  | zero =>
    intro l x hl _ _ _
    obtain rfl : l = [] := List.length_eq_zero_iff.1 (by omega)
    exact nil x
  | succ k ih =>
    intro l x hl hk hx hb
    match l, hl, hb with
    | [], _, _ => exact nil x
    | [a], _, hb =>
      have e := nil (x ++ [((sgB (a / 4)).toNat : Int), ((sgB (a % 4 * 16)).toNat : Int), 61, 61])
      rw [encS, List.append_nil, List.map_append] at e
      simp only [List.map_cons, List.map_nil, toB_u8, show toB 61 = 61 from rfl] at e
      rw [encS]
      refine Ev.step (e.congr fun n => ?_)
      rw [F46_L1]
      show iteB true (grd (0 ≤ (1 : Int) ∧ (1 : Int) ≤ ((1 : Nat) : Int)) ((F84 n [a]).bind fun v5 => grd (v5.length = 4) (grd (v5.length = 4) (grd ((x.length + v5.length) ≤ 549755813888) (grd (0 ≤ (1 : Int) ∧ (1 : Int) ≤ ((1 : Nat) : Int)) (F46_L1 n [] (x ++ v5))))))) _ = _
      rw [iteB_t, grd_t _ (by omega), quad1 n hb.head, bind_some', grd_t _ (by simp), grd_t _ (by simp), grd_t _ (by show x.length + 4 ≤ _; omega), grd_t _ (by omega)]
    | [a, b], _, hb =>
      have e := nil (x ++ [((sgB (a / 4)).toNat : Int), ((sgB (a % 4 * 16 + b / 16)).toNat : Int), ((sgB (b % 16 * 4)).toNat : Int), 61])
      rw [encS, List.append_nil, List.map_append] at e
      simp only [List.map_cons, List.map_nil, toB_u8, show toB 61 = 61 from rfl] at e
      rw [encS]
      refine Ev.step (e.congr fun n => ?_)
      rw [F46_L1]
      show iteB true (grd (0 ≤ (2 : Int) ∧ (2 : Int) ≤ ((2 : Nat) : Int)) ((F84 n [a, b]).bind fun v5 => grd (v5.length = 4) (grd (v5.length = 4) (grd ((x.length + v5.length) ≤ 549755813888) (grd (0 ≤ (2 : Int) ∧ (2 : Int) ≤ ((2 : Nat) : Int)) (F46_L1 n [] (x ++ v5))))))) _ = _
      rw [iteB_t, grd_t _ (by omega), quad2 n hb.head hb.tail.head, bind_some', grd_t _ (by simp), grd_t _ (by simp), grd_t _ (by show x.length + 4 ≤ _; omega), grd_t _ (by omega)]
    | a :: b :: c :: r, hl, hb =>
      have e := ih r (x ++ [((sgB (a / 4)).toNat : Int), ((sgB (a % 4 * 16 + b / 16)).toNat : Int), ((sgB (b % 16 * 4 + c / 64)).toNat : Int), ((sgB (c % 64)).toNat : Int)]) (by simp at hl; omega) (by omega) (by simp; omega) hb.tail.tail.tail
      rw [List.map_append, List.append_assoc] at e
      simp only [List.map_cons, List.map_nil, toB_u8] at e
      rw [encS]
      refine Ev.step (e.congr fun n => ?_)
      have hlen : ((a :: b :: c :: r).length : Int) = (r.length : Int) + 3 := by simp only [List.length_cons]; omega
      rw [F46_L1, hlen, decide_eq_true (by omega), iteB_t, if_neg (by omega), grd_t _ (by omega)]
      show Option.bind (F84 n [a, b, c]) _ = _
      rw [quad3 n hb.head hb.tail.head hb.tail.tail.head, bind_some', grd_t _ (by simp), grd_t _ (by simp), grd_t _ (by show x.length + 4 ≤ _; omega), grd_t _ (by omega)]
      rfl
theorem ev_Encode {l : List Int} (hb : Bytes l) (hl : l.length ≤ 1000000) : Ev (fun n => F46 n l) (encS l) :=
  (ev_EncL l.length l [] (Nat.le_refl _) hl (by simp; omega) hb).congr fun n => by rw [F46]
end Go.Proofs.YtaiapalhdejngaaX

/- EtagCounts, plainly. -/
set_option linter.unusedVariables false
set_option linter.unusedSimpArgs false
namespace Go.Proofs.YtaiapalhdejngaaX
open Go
theorem dgt_fin : ∀ k : Fin 16, dgt k.val ≠ 45 ∧ hvS ((dgt k.val).toNat : Int) = (k.val : Int) := by decide +kernel
theorem dgt_no (k : Nat) : dgt k ≠ 45 := by
  by_cases h : k < 16
  · exact (dgt_fin ⟨k, h⟩).1
  · unfold dgt
    rw [List.getD_eq_getElem?_getD, List.getElem?_eq_none (by simp; omega)]; decide
theorem dgt_hv {k : Nat} (h : k < 16) : hvS ((dgt k).toNat : Int) = (k : Int) := (dgt_fin ⟨k, h⟩).2
theorem txt_no : ∀ (l : List Int), (45 : UInt8) ∉ txtS l
  | [] => by intro h; cases h
  | c :: l => by
    intro h
    have h : 45 ∈ dgt (c / 16).toNat :: dgt (c % 16).toNat :: txtS l := h
    rcases List.mem_cons.1 h with h | h
    · exact dgt_no _ h.symm
    rcases List.mem_cons.1 h with h | h
    · exact dgt_no _ h.symm
    · exact txt_no l h
theorem hex_txt : ∀ (l acc : List Int), Bytes l → hexP (txtS l) acc = (acc ++ l, true)
  | [], acc, hb => by
    rw [List.append_nil]
    show hexP [] acc = _
    rw [hexP]
    intro a b r e; cases e
  | c :: l, acc, hb => by
    have hc := hb.head
    show hexP (dgt (c / 16).toNat :: dgt (c % 16).toNat :: txtS l) acc = _
    rw [hexP, dgt_hv (by omega), dgt_hv (by omega), if_neg (by omega), hex_txt l _ hb.tail, List.append_assoc]
    congr 2
    show (16 * (((c / 16).toNat : Nat) : Int) + (((c % 16).toNat : Nat) : Int)) :: l = c :: l
    congr 1
    omega
theorem et_txt {l : List Int} (hb : Bytes l) (h : l.length = 16) : etS (txtS l) = (l, true) := by
  have e : hexS (txtS l) = (l, true) := by
    unfold hexS
    rw [if_neg (by rw [txt_len]; omega), hex_txt l [] hb]; rfl
  unfold etS
  rw [e, if_pos ⟨rfl, h⟩]
def tagOf (d : List Int) : List UInt8 := txtS (sumS d)
theorem tag_len (d : List Int) : (tagOf d).length = 32 := md_len d
theorem et_tag (d : List Int) : etS (tagOf d) = (sumS d, true) := et_txt (sum_bytes d) (sum_len d)
theorem count_tag (d : List Int) : countS (tagOf d) = 1 := by
  unfold countS
  rw [cut_none 45 (tagOf d) (txt_no (sumS d))]
  dsimp only
  rw [et_tag]
  rfl
theorem sums_app (x : List UInt8) : ∀ (l : List (List UInt8)) (acc : List Int), sumsS (l ++ [x]) acc = match sumsS l acc with | none => none | some a => if (etS x).2 = true then some (a ++ (etS x).1) else none
  | [], acc => by
    show sumsS [x] acc = _
    rw [sumsS, sumsS, sumsS]
  | t :: l, acc => by
    rw [List.cons_append, sumsS, sumsS]
    split
    · exact sums_app x l _
    · rfl
theorem sums_tags : ∀ (ds : List (List Int)) (acc : List Int), ∃ a, sumsS (ds.map tagOf) acc = some a
  | [], acc => ⟨acc, by rw [List.map_nil, sumsS]⟩
  | d :: ds, acc => by
    rw [List.map_cons, sumsS, et_tag]
    exact sums_tags ds _
theorem ptxt_eq (l : List (List UInt8)) (all : List Int) : ptxt l all = tagOf all ++ 45 :: decT (l.length : Int) := by
  unfold ptxt tagOf
  rw [List.append_assoc]; rfl
theorem count_ptxt (l : List (List UInt8)) (all : List Int) (h0 : 0 < l.length) (h1 : l.length ≤ 10000) : countS (ptxt l all) = (l.length : Int) := by
  unfold countS
  rw [ptxt_eq, cut_app 45 (tagOf all) _ (txt_no (sumS all))]
  dsimp only
  rw [et_tag]
  show (if true = false then (0 : Int) else if true = false then 1 else cntS (decT (l.length : Int))) = _
  rw [if_neg (by decide), if_neg (by decide)]
  unfold cntS
  rw [read_dec l.length (by omega)]
  dsimp only
  rw [if_neg (by decide), if_neg (by omega), if_neg (by omega), if_pos rfl]
theorem et_ptxt (l : List (List UInt8)) (all : List Int) : (etS (ptxt l all)).2 = false := by
  cases h : (etS (ptxt l all)).2 with
  | false => rfl
  | true =>
    have := (et_ok h).1
    rw [ptxt_eq, List.length_append, tag_len, List.length_cons] at this
    omega
theorem count_nil : countS [] = 0 := by decide +kernel
theorem counts_l (ds : List (List Int)) (hn : ds.length ≤ 20) (hb : ∀ d ∈ ds, Bytes d) : ∀ (k i : Nat), i + k = ds.length → Ev (fun n => F12_L2 n ds (i : Int) ((ds.take i).map tagOf)) true
  | 0, i, hi => by
    rw [List.take_of_length_le (by omega)]
    have htl : ∀ t ∈ ds.map tagOf, t.length ≤ 1000000 := by
      intro t h
      obtain ⟨d, _, rfl⟩ := List.mem_map.1 h
      rw [tag_len]; omega
    have hml : (ds.map tagOf).length = ds.length := List.length_map ..
    obtain ⟨N1, e1⟩ := ev_Parts (ds.map tagOf) (by omega) htl
    by_cases h0 : ds.length = 0
    · obtain rfl : ds = [] := List.length_eq_zero_iff.1 h0
      obtain ⟨N2, e2⟩ := ev_Count [] (by decide)
      obtain ⟨N3, e3⟩ := ev_Text Bytes.nil
      rw [count_nil] at e2
      refine Ev.step ⟨N1 + N2 + N3, fun n hn => ?_⟩
      have q1 := e1 n (by omega)
      have q2 := e2 n (by omega)
      have q3 := e3 n (by omega)
      dsimp only at q1 q2 q3
      have q1 : F19 n [] = some ([], false) := q1
      show F12_L2 (n + 1) [] (i : Int) [] = _
      rw [F12_L2, decide_eq_false (by simp), iteB_f, q1, bind_some']
      show iteB true (iteB true (iteB true ((F41 n []).bind _) _) _) _ = _
      rw [iteB_t, iteB_t, iteB_t, q2, bind_some', beq_self_eq_true, iteB_t, F39, q3, bind_some', bind_some', txt_len, show (sumS []).length = 16 from sum_len []]
      rfl
    · obtain ⟨all, hall⟩ := sums_tags ds []
      have hp : partsS (ds.map tagOf) = (ptxt (ds.map tagOf) all, true) := by
        unfold partsS
        rw [hall]
        show (if _ then _ else _) = _
        rw [if_neg (by omega)]
      have hd := decT_len (ds.map tagOf).length (by omega)
      have hpl : (ptxt (ds.map tagOf) all).length ≤ 1000000 := by
        rw [ptxt_eq, List.length_append, tag_len, List.length_cons]; omega
      have hp2 : partsS (ds.map tagOf ++ [ptxt (ds.map tagOf) all]) = ([], false) := by
        have hs : sumsS (ds.map tagOf ++ [ptxt (ds.map tagOf) all]) [] = none := by
          rw [sums_app, hall]
          show (if (etS (ptxt (ds.map tagOf) all)).2 = true then _ else none) = none
          rw [if_neg (by rw [et_ptxt]; decide)]
        unfold partsS
        rw [hs]
      obtain ⟨N2, e2⟩ := ev_eSum (ptxt (ds.map tagOf) all) hpl
      obtain ⟨N3, e3⟩ := ev_Parts (ds.map tagOf ++ [ptxt (ds.map tagOf) all]) (by simp; omega) (fun t h => by
        rcases List.mem_append.1 h with h | h
        · exact htl t h
        · rw [List.mem_singleton.1 h]; exact hpl)
      obtain ⟨N4, e4⟩ := ev_Count (ptxt (ds.map tagOf) all) hpl
      rw [hp] at e1
      rw [hp2] at e3
      rw [count_ptxt _ _ (by omega) (by omega)] at e4
      refine Ev.step ⟨N1 + N2 + N3 + N4, fun n hn => ?_⟩
      have q1 := e1 n (by omega)
      have q2 := e2 n (by omega)
      have q3 := e3 n (by omega)
      have q4 := e4 n (by omega)
      dsimp only at q1 q2 q3 q4
      show F12_L2 (n + 1) ds (i : Int) (ds.map tagOf) = _
      rw [F12_L2, decide_eq_false (by omega), iteB_f, q1, bind_some', bq (show ¬ (ds.length : Int) = 0 by omega), iteB_f]
      dsimp only
      rw [q2, bind_some', grd_t _ (by omega), q3, bind_some', iteB_t, q4, bind_some', bqt (show ((ds.map tagOf).length : Int) = (ds.length : Int) by omega), iteB_t, et_ptxt]
      rfl
  | k + 1, i, hi => by
    generalize hD : ds.getD i default = d
    have hbd : Bytes d := by
      rw [← hD, List.getD_eq_getElem?_getD, List.getElem?_eq_getElem (by omega)]
      exact hb _ (List.getElem_mem _)
    by_cases h200 : (200 : Int) < (d.length : Int)
    · refine Ev.step (Ev.pure.congr fun n => ?_)
      rw [F12_L2, decide_eq_true (by omega), iteB_t, grd_t _ (by omega), toNat_nat, hD, decide_eq_true h200, iteB_t]
    · obtain ⟨N1, e1⟩ := ev_Text hbd
      obtain ⟨N2, e2⟩ := ev_eSum (tagOf d) (by rw [tag_len]; decide)
      obtain ⟨N3, e3⟩ := ev_Sum hbd
      obtain ⟨N4, e4⟩ := ev_Count (tagOf d) (by rw [tag_len]; decide)
      obtain ⟨N5, e5⟩ := ev_Encode (sum_bytes d) (by rw [sum_len]; decide)
      have hel : (encS (sumS d)).length ≤ 1000000 := by
        have : ∀ l : List Int, l.length ≤ 16 → (encS l).length ≤ 100 := by
          have h : ∀ (n : Nat) (l : List Int), l.length ≤ n → (encS l).length ≤ 4 * n := by
            intro n
            induction n with
            | zero => intro l h; obtain rfl : l = [] := List.length_eq_zero_iff.1 (by omega); rw [encS]; exact Nat.zero_le _
            | succ n ih =>
              intro l h
              match l, h with
              | [], _ => rw [encS]; exact Nat.zero_le _
              | [_], _ => rw [encS]; simp; omega
              | [_, _], _ => rw [encS]; simp; omega
              | a :: b :: c :: r, h =>
                have := ih r (by simp at h; omega)
                rw [encS]; simp only [List.length_cons]; omega
          intro l hl
          have := h 16 l hl
          omega
        have := this (sumS d) (by rw [sum_len]; decide)
        omega
      obtain ⟨N6, e6⟩ := ev_Given (encS (sumS d)) d hel hbd
      obtain ⟨N7, e7⟩ := counts_l ds hn hb k (i + 1) (by omega)
      have hg : givenS (encS (sumS d)) d = true := decide_eq_true rfl
      rw [hg] at e6
      rw [et_tag] at e2
      rw [count_tag] at e4
      refine Ev.step ⟨N1 + N2 + N3 + N4 + N5 + N6 + N7, fun n hn => ?_⟩
      have q1 := e1 n (by omega)
      have q2 := e2 n (by omega)
      have q3 := e3 n (by omega)
      have q4 := e4 n (by omega)
      have q5 := e5 n (by omega)
      have q6 := e6 n (by omega)
      have q7 := e7 n (by omega)
      dsimp only at q1 q2 q3 q4 q5 q6 q7
      have hl16 := sum_len d
      have htk : (ds.take (i + 1)).map tagOf = (ds.take i).map tagOf ++ [tagOf d] := by
        rw [List.take_succ_eq_append_getElem (by omega), List.map_append]
        congr 1
        rw [← hD, List.getD_eq_getElem?_getD, List.getElem?_eq_getElem (by omega)]; rfl
      rw [htk] at q7
      show F12_L2 (n + 1) ds (i : Int) ((ds.take i).map tagOf) = _
      rw [F12_L2, decide_eq_true (by omega), iteB_t, grd_t _ (by omega), toNat_nat, hD, decide_eq_false h200, iteB_f, grd_t _ (by omega), F39, q1, bind_some', bind_some']
      show (F37 n (tagOf d)).bind _ = _
      rw [q2, bind_some', grd_t _ (by omega), q3, bind_some', grd_t _ hl16]
      dsimp only
      rw [Bool.not_true, iteB_f, grd_t _ hl16, beq_self_eq_true, Bool.not_true, iteB_f]
      show (F41 n (tagOf d)).bind _ = _
      rw [q4, bind_some', show ((1 : Int) != 1) = false from rfl, iteB_f, grd_t _ hl16, q5, bind_some', grd_t _ (by omega), q6, bind_some', Bool.not_true, iteB_f, grd_t _ (by rw [List.length_map, List.length_take]; omega), g64 i (by omega)]
      exact q7
theorem law_main (v0 : List (List Int)) (h0 : okT69 v0) : ∃ n, F12 n v0 = some true := by
  have hb : ∀ d ∈ v0, Bytes d := fun d hd x hx => (h0.2 d hd).2 x hx
  have go : ∀ ds : List (List Int), ds.length ≤ 20 → (∀ d ∈ ds, Bytes d) → Ev (fun n => F12_J1 n ds) true := fun ds hn hb =>
    (counts_l ds hn hb ds.length 0 (by omega)).congr fun n => by rw [F12_J1]; rfl
  have key : Ev (fun n => F12 n v0) true := by
    by_cases h : (20 : Int) < (v0.length : Int)
    · refine (go (v0.take 20) (by rw [List.length_take]; omega) (fun d hd => hb d (List.mem_of_mem_take hd))).congr fun n => ?_
      rw [F12, decide_eq_true h, iteB_t, grd_t _ (by omega)]
    · refine (go v0 (by omega) hb).congr fun n => ?_
      rw [F12, decide_eq_false h, iteB_f]
  obtain ⟨N, h⟩ := key
  exact ⟨N, h N (Nat.le_refl _)⟩
end Go.Proofs.YtaiapalhdejngaaX

set_option linter.unusedVariables false
namespace Go.Proofs.YtaiapalhdejngaaX
open Go Go.RowKit Go.Proofs
set_option maxRecDepth 100000
theorem shapedRow (xs : List T) (h : ShapesW Try.prog [69] xs) : FnC Try.prog 12 xs (tb true) := shapedEtagCounts law_main xs h
end Go.Proofs.YtaiapalhdejngaaX
namespace Go.Proofs.Ytaiapalhdejngaa.etagCounts
open Go.ChangeShapes Go.WideShapes Go.ChangeAt Go.RowKit
set_option linter.unusedVariables false
theorem own : ownKnob Try.prog.godebug = none := by kernel_rfl
set_option maxRecDepth 100000 in
theorem lifted (os : Os) (started : os.Started) (H : Type) (enc : TypeId × Value → H) :
    ReturnsInHanded {} Try.checked os 12 .any (Rows.etagCountsSpec.pre6 enc Try.prog Try.f12 Rows.etagCountsRow.domain false) (Rows.etagCountsSpec.post enc Try.prog Try.f12 false true false false) := by
  refine returnsInHanded_of_change_sized (C := Try.checked) own started (by kernel_rfl) Try.func12
    (ChangeSpec.witness6 (enc := enc) (C := Try.checked) false ⟨#[], #[.slice none 0 0], []⟩ 8 (by kernel_rfl) (by kernel_rfl) (by kernel_rfl) (by kernel_rfl)) ?_
  intro W base args ds gs before hval0 hW hcnd hsz0 _
  exact YtaiapalhdejngaaX.row_contract (P := Try.prog) (fn := Try.f12) (s := Rows.etagCountsSpec) (ts := [69]) (tb := 4) (L := [69, 52, 5]) (by kernel_rfl) (by kernel_rfl) (by kernel_rfl) (by kernel_rfl) (by kernel_rfl) (by kernel_rfl) rfl
    (fun H ds h => by
      match ds, h with
      | [d0], _ => rfl) YtaiapalhdejngaaX.shapedRow W base args ds gs before hval0 hW
theorem over : Rows.etagCountsRow.holds Try.pinned (OpenSpec.ofChange Rows.etagCountsSpec) :=
  OpenClaim.holds_of_wide 12 Try.f12 rfl rfl rfl rfl rfl rfl rfl ⟨rfl, rfl, rfl, rfl, rfl⟩ rfl rfl rfl rfl rfl (by kernel_rfl) Try.func12 (by kernel_rfl)
    (of_decide_eq_true (by kernel_rfl)) (by unfold Func.isWrapper; first | (rw [if_pos (by decide +kernel)]; kernel_rfl) | (rw [if_neg (by decide +kernel)]; exact ⟨rfl, rfl⟩))
    (fun os started H enc _ => lifted os started H enc)
theorem proved : Rows.EtagCountsSaid := over
#print axioms proved
end Go.Proofs.Ytaiapalhdejngaa.etagCounts
namespace Go.Proofs.Ytaiapalhdejngaa
theorem etagCounts_holds : Rows.EtagCountsSaid := etagCounts.proved
end Go.Proofs.Ytaiapalhdejngaa
