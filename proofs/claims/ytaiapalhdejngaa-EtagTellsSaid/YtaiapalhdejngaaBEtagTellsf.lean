/- Part of the proof of EtagTells: walks and plain words, merged. -/
import Derived.Test.YtaiapalhdejngaaBEtagTellsb
import Derived.Test.YtaiapalhdejngaaBEtagTellsd
import Derived.Test.YtaiapalhdejngaaBEtagTellsc
import Derived.Test.YtaiapalhdejngaaBEtagTellse
import Derived.Test.YtaiapalhdejngaaRows
import Derived.Test.YtaiapalhdejngaaChecked
import Derived.WalkKit
import Derived.ProofKit
import Derived.OpenShut
set_option linter.unusedVariables false
set_option linter.unusedSimpArgs false

set_option linter.unusedVariables false
set_option linter.unusedSimpArgs false
namespace Go.Proofs.YtaiapalhdejngaaX
open Go Go.RowKit Go.Proofs
set_option maxRecDepth 100000
attribute [local go_sem ↓] stepsK_build stepsK_bs appendS
attribute [local go_sem] String.reduceEq String.reduceNe reduceCtorEq Int.reduceEq Nat.reduceAdd Nat.reduceSub Nat.reduceMul Nat.reduceLT Nat.reduceLeDiff Nat.reduceEqDiff Nat.reduceBEq Int.reduceToNat Int.reduceLT Int.reduceLE Int.reduceGT Int.reduceGE Int.reduceAdd Int.reduceSub Int.reduceMul Int.reduceNeg Int.reduceBEq Int.reduceBNe Int.reducePow Int.reduceDiv Int.reduceMod Int.reduceTDiv Int.reduceTMod Int.reduceNatCast
end Go.Proofs.YtaiapalhdejngaaX

/- Tags, plainly: sums, parts. -/
set_option linter.unusedVariables false
set_option linter.unusedSimpArgs false
namespace Go.Proofs.YtaiapalhdejngaaX
open Go
def etS (l : List UInt8) : List Int × Bool := if (hexS l).2 = true ∧ (hexS l).1.length = 16 then ((hexS l).1, true) else ([], false)
theorem ev_eSum (l : List UInt8) (hl : l.length ≤ 1000000) : Ev (fun n => F37 n l) (etS l) := by
  refine ((ev_ReadHex l hl).bind (g := fun n v1 => iteB (!v1.2) (some ([], false)) (iteB ((v1.1.length : Int) != (16 : Int)) (some ([], false)) (some (v1.1, true)))) (Ev.const ?_)).congr fun n => by rw [F37]
  unfold etS
  cases h2 : (hexS l).2 with
  | false => rw [if_neg (fun h => by cases h.1)]; rfl
  | true =>
    by_cases h : (hexS l).1.length = 16
    · rw [if_pos ⟨rfl, h⟩, h]; rfl
    · rw [if_neg (fun k => h k.2), show (((hexS l).1.length : Int) != 16) = true by rw [bne_iff_ne]; omega]; rfl
theorem ev_erSum (l : List UInt8) (hl : l.length ≤ 1000000) : Ev (fun n => F38 n l) (etS l) := by
  refine ((ev_rReadHex l hl).bind (g := fun n v1 => iteB (!v1.2) (some ([], false)) (iteB ((v1.1.length : Int) != (16 : Int)) (some ([], false)) (some (v1.1, true)))) (Ev.const ?_)).congr fun n => by rw [F38]
  unfold etS
  cases h2 : (hexS l).2 with
  | false => rw [if_neg (fun h => by cases h.1)]; rfl
  | true =>
    by_cases h : (hexS l).1.length = 16
    · rw [if_pos ⟨rfl, h⟩, h]; rfl
    · rw [if_neg (fun k => h k.2), show (((hexS l).1.length : Int) != 16) = true by rw [bne_iff_ne]; omega]; rfl
end Go.Proofs.YtaiapalhdejngaaX

/- Base 64: what is read of four signs, and what is told: the program's Decode, the reference's Encode. -/
set_option linter.unusedVariables false
set_option linter.unusedSimpArgs false
namespace Go.Proofs.YtaiapalhdejngaaX
open Go
def sgL : List UInt8 := 65 :: 66 :: 67 :: 68 :: 69 :: 70 :: 71 :: 72 :: 73 :: 74 :: 75 :: 76 :: 77 :: 78 :: 79 :: 80 :: 81 :: 82 :: 83 :: 84 :: 85 :: 86 :: 87 :: 88 :: 89 :: 90 :: 97 :: 98 :: 99 :: 100 :: 101 :: 102 :: 103 :: 104 :: 105 :: 106 :: 107 :: 108 :: 109 :: 110 :: 111 :: 112 :: 113 :: 114 :: 115 :: 116 :: 117 :: 118 :: 119 :: 120 :: 121 :: 122 :: 48 :: 49 :: 50 :: 51 :: 52 :: 53 :: 54 :: 55 :: 56 :: 57 :: 43 :: 47 :: ([] : List UInt8)
def sgB (n : Int) : UInt8 := sgL.getD n.toNat 0
def vI (c : UInt8) : Int := (F118 0 (c.toNat : Int)).getD (-1)
theorem v_fin : ∀ c : Fin 256, F118 0 (c.val : Int) = some ((F118 0 (c.val : Int)).getD (-1)) ∧ -1 ≤ (F118 0 (c.val : Int)).getD (-1) ∧ (F118 0 (c.val : Int)).getD (-1) ≤ 63 ∧ (0 ≤ (F118 0 (c.val : Int)).getD (-1) → (sgB ((F118 0 (c.val : Int)).getD (-1))).toNat = c.val) := by decide +kernel
theorem v_eq (n : Nat) (c : UInt8) : F118 n (c.toNat : Int) = some (vI c) := (v_fin ⟨c.toNat, c.toNat_lt⟩).1
theorem v_bd (c : UInt8) : -1 ≤ vI c ∧ vI c ≤ 63 := ⟨(v_fin ⟨c.toNat, c.toNat_lt⟩).2.1, (v_fin ⟨c.toNat, c.toNat_lt⟩).2.2.1⟩
theorem sg_v (c : UInt8) (h : 0 ≤ vI c) : sgB (vI c) = c := UInt8.toNat_inj.1 ((v_fin ⟨c.toNat, c.toNat_lt⟩).2.2.2 h)
theorem s_fin : ∀ k : Fin 64, (F118 0 ((sgB (k.val : Int)).toNat : Int)).getD (-1) = (k.val : Int) ∧ sgB (k.val : Int) ≠ 61 ∧ F104 0 (k.val : Int) = some ((sgB (k.val : Int)).toNat : Int) := by decide +kernel
theorem v_sg {k : Int} (h : 0 ≤ k ∧ k < 64) : vI (sgB k) = k := by
  obtain ⟨a, rfl⟩ := Int.eq_ofNat_of_zero_le h.1
  exact (s_fin ⟨a, by omega⟩).1
theorem sg_ne {k : Int} (h : 0 ≤ k ∧ k < 64) : sgB k ≠ 61 := by
  obtain ⟨a, rfl⟩ := Int.eq_ofNat_of_zero_le h.1
  exact (s_fin ⟨a, by omega⟩).2.1
theorem sign_r (n : Nat) {k : Int} (h : 0 ≤ k ∧ k < 64) : F104 n k = some ((sgB k).toNat : Int) := by
  obtain ⟨a, rfl⟩ := Int.eq_ofNat_of_zero_le h.1
  exact (s_fin ⟨a, by omega⟩).2.2
theorem acc6 {x v : Int} (hx : 0 ≤ x ∧ x < 1048576) (hv : 0 ≤ v ∧ v < 64) : IntKind.wrap .i64 (bOr .i64 (IntKind.wrap .i64 (bShl .i64 x 6)) v) = x * 64 + v := by
  have hs : bShl .i64 x 6 = x * 64 := by unfold bShl; rw [show (2 : Int) ^ min 6 IntKind.i64.bits = 64 by decide]
  rw [hs, w64 (n := x * 64) (by omega), bOr_add .i64 6 (x * 64) v (by omega) (by show x * 64 < 18446744073709551616; omega) (by show x * 64 % 64 = 0; omega) hv.1 (by show v < 64; omega) (by decide), w64 (by omega)]
def b3 (x : Int) : List Int := [x / 65536 % 256, x / 256 % 256, x % 256]
theorem b3_p {x : Int} (hx : 0 ≤ x) : [(IntKind.wrap .u8 (bShr .i64 x 16)), (IntKind.wrap .u8 (bShr .i64 x 8)), (IntKind.wrap .u8 x)] = b3 x := by
  rw [bShr_div .i64 x 16 65536 (by decide) (by decide), bShr_div .i64 x 8 256 (by decide) (by decide)]
  rfl
def zeroS (l : List Int) : Bool := l.all fun y => y == 0
theorem zeroS_cons (a : Int) (l : List Int) : zeroS (a :: l) = ((a == 0) && zeroS l) := rfl
def fin3 (x : Int) (k : Nat) : List Int × Bool := if zeroS ((b3 x).drop k) = true then ((b3 x).take k, true) else ([], false)
theorem ev_t4L9 {x : Int} (hx : 0 ≤ x) (k : Nat) (hk : k ≤ 3) : ∀ (d i : Nat), k + i + d = 3 → Ev (fun n => F103_L9 n (k : Int) x (i : Int)) (if zeroS (((b3 x).drop k).drop i) = true then ((b3 x).take k, true) else ([], false))
  | 0, i, h => by
    have hl : ((b3 x).drop k).length = 3 - k := by rw [List.length_drop]; rfl
    rw [List.drop_of_length_le (by omega), if_pos (show zeroS [] = true from rfl)]
    refine Ev.step ((Ev.const (x := some ((b3 x).take k, true)) rfl).congr fun n => ?_)
    rw [F103_L9, b3_p hx, toNat_nat, hl, decide_eq_false (by omega), iteB_f, grd_t _ (by omega)]
  | d + 1, i, h => by
    have hl : ((b3 x).drop k).length = 3 - k := by rw [List.length_drop]; rfl
    rw [drop_cons ((b3 x).drop k) i 0 (by omega), zeroS_cons]
    by_cases h0 : ((b3 x).drop k).getD i 0 = 0
    · have e := ev_t4L9 hx k hk d (i + 1) (by omega)
      rw [bqt h0, Bool.true_and]
      refine Ev.step (e.congr fun n => ?_)
      rw [F103_L9, b3_p hx, toNat_nat, hl, decide_eq_true (by omega), iteB_t, grd_t _ (by omega), toNat_nat]
      show iteB (((b3 x).drop k).getD i 0 != 0) _ _ = _
      rw [h0, g64 i (by omega)]
      rfl
    · rw [bq h0, Bool.false_and, if_neg (by decide)]
      refine Ev.step ((Ev.const (x := some ([], false)) rfl).congr fun n => ?_)
      rw [F103_L9, b3_p hx, toNat_nat, hl, decide_eq_true (by omega), iteB_t, grd_t _ (by omega), toNat_nat]
      show iteB (((b3 x).drop k).getD i 0 != 0) _ _ = _
      rw [show (((b3 x).drop k).getD i 0 != 0) = true by rw [bne_iff_ne]; exact h0, iteB_t]
theorem ev_t4J7 {x : Int} (hx : 0 ≤ x) (a0 : List UInt8) (k : Nat) (hk : k ≤ 3) : Ev (fun n => F103_J7 n a0 x (k : Int)) (fin3 x k) := by
  refine (ev_t4L9 hx k hk (3 - k) 0 (by omega)).congr fun n => ?_
  rw [F103_J7, grd_t _ (by omega)]; rfl
def triS (p q r t : UInt8) : List Int × Bool :=
  if vI p < 0 ∨ vI q < 0 then ([], false)
  else if r = 61 ∧ t = 61 then fin3 (((vI p * 64 + vI q) * 64) * 64) 1
  else if vI r < 0 then ([], false)
  else if t = 61 then fin3 (((vI p * 64 + vI q) * 64 + vI r) * 64) 2
  else if vI t < 0 then ([], false)
  else fin3 (((vI p * 64 + vI q) * 64 + vI r) * 64 + vI t) 3
theorem eq61 (c : UInt8) : (((c.toNat : Nat) : Int) == 61) = decide (c = 61) := by
  rw [Bool.eq_iff_iff, beq_iff_eq, decide_eq_true_eq]
  exact ⟨fun h => UInt8.toNat_inj.1 (by show c.toNat = 61; omega), fun h => by rw [h]; rfl⟩
theorem ev_t4J8 (p q r t : UInt8) : ∀ (x : Int) (k : Nat), 0 ≤ x → x < 1048576 → k ≤ 3 → ∀ v, (k < 3 → t = 61) → 0 ≤ v ∧ v < 64 → Ev (fun n => F103_J8 n [p, q, r, t] x (k : Int) v) (fin3 (x * 64 + v) k) := by
  have br := v_bd r
  have bt := v_bd t
  intro x k hx hx1 hk v ht hv
  refine (ev_t4J7 (x := x * 64 + v) (by omega) [p, q, r, t] k hk).congr fun n => ?_
  rw [F103_J8, decide_eq_false (by omega), iteB_f, acc6 ⟨hx, hx1⟩ hv]
  by_cases h3 : k < 3
  · rw [decide_eq_true (by omega), iteB_t]
    show grd (_ < ((4 : Nat) : Int)) (iteB (((t.toNat : Nat) : Int) != 61) _ _) = _
    rw [grd_t _ (by omega), ht h3]; rfl
  · rw [decide_eq_false (by omega), iteB_f]
theorem ev_t4J5 (p q r t : UInt8) : ∀ (x : Int) (k : Nat), 0 ≤ x → x < 1048576 → k = 1 ∨ k = 3 → (k = 1 → t = 61) → Ev (fun n => F103_J5 n [p, q, r, t] x (k : Int)) (if t = 61 then fin3 (x * 64) (min 2 k) else if vI t < 0 then ([], false) else fin3 (x * 64 + vI t) k) := by
  have br := v_bd r
  have bt := v_bd t
  intro x k hx hx1 hk ht
  by_cases h : t = 61
  · rw [if_pos h]
    have hmin : (if (2 : Int) < (k : Int) then (2 : Int) else (k : Int)) = ((min 2 k : Nat) : Int) := by split <;> omega
    have e := ev_t4J8 p q r t x (min 2 k) hx hx1 (by omega) 0 (fun _ => h) (by omega)
    rw [Int.add_zero] at e
    refine e.congr fun n => ?_
    rw [F103_J5, hmin]
    show grd (_ < ((4 : Nat) : Int)) ((F118 n ((t.toNat : Nat) : Int)).bind fun v28 => grd (_ < ((4 : Nat) : Int)) (iteB (((t.toNat : Nat) : Int) == 61) (grd (_ < ((4 : Nat) : Int)) (iteB (((t.toNat : Nat) : Int) == 61) _ _)) _)) = _
    rw [v_eq, bind_some', eq61, decide_eq_true h]
    rfl
  · rw [if_neg h]
    have hk3 : k = 3 := by rcases hk with rfl | rfl; exact absurd (ht rfl) h; rfl
    subst hk3
    have base : ∀ n, F103_J5 n [p, q, r, t] x ((3 : Nat) : Int) = F103_J8 n [p, q, r, t] x ((3 : Nat) : Int) (vI t) := by
      intro n
      rw [F103_J5]
      show grd (_ < ((4 : Nat) : Int)) ((F118 n ((t.toNat : Nat) : Int)).bind fun v28 => grd (_ < ((4 : Nat) : Int)) (iteB (((t.toNat : Nat) : Int) == 61) (grd (_ < ((4 : Nat) : Int)) (iteB (((t.toNat : Nat) : Int) == 61) _ _)) _)) = _
      rw [v_eq, bind_some', eq61, decide_eq_false h]
      rfl
    by_cases hv : vI t < 0
    · rw [if_pos hv]
      refine (Ev.const (x := some ([], false)) rfl).congr fun n => ?_
      rw [base, F103_J8, decide_eq_true hv, iteB_t]
    · rw [if_neg hv]
      exact (ev_t4J8 p q r t x 3 hx hx1 (by omega) (vI t) (fun h => by omega) (by omega)).congr base
theorem ev_J6 (p q r t : UInt8) : ∀ (x : Int) (k : Nat), 0 ≤ x → x < 16384 → k = 1 ∨ k = 3 → (k = 1 → r = 61 ∧ t = 61) → ∀ v, 0 ≤ v ∧ v < 64 → Ev (fun n => F103_J6 n [p, q, r, t] x (k : Int) v) (if t = 61 then fin3 ((x * 64 + v) * 64) (min 2 k) else if vI t < 0 then ([], false) else fin3 ((x * 64 + v) * 64 + vI t) k) := by
  have br := v_bd r
  have bt := v_bd t
  intro x k hx hx1 hk hrt v hv
  refine (ev_t4J5 p q r t (x * 64 + v) k (by omega) (by omega) hk (fun h => (hrt h).2)).congr fun n => ?_
  rw [F103_J6, decide_eq_false (by omega), iteB_f, acc6 ⟨hx, by omega⟩ hv]
  by_cases h3 : k < 3
  · rw [decide_eq_true (by omega), iteB_t]
    show grd (_ < ((4 : Nat) : Int)) (iteB (((r.toNat : Nat) : Int) != 61) _ _) = _
    rw [grd_t _ (by omega), (hrt (by omega)).1]; rfl
  · rw [decide_eq_false (by omega), iteB_f]
theorem ev_t4J3 (p q r t : UInt8) : ∀ (x : Int), 0 ≤ x → x < 4096 → Ev (fun n => F103_J3 n [p, q, r, t] x) (if r = 61 ∧ t = 61 then fin3 ((x * 64) * 64) 1 else if vI r < 0 then ([], false) else if t = 61 then fin3 ((x * 64 + vI r) * 64) 2 else if vI t < 0 then ([], false) else fin3 ((x * 64 + vI r) * 64 + vI t) 3) := by
  have br := v_bd r
  have bt := v_bd t
  intro x hx hx1
  have unf : ∀ n, F103_J3 n [p, q, r, t] x = if r = 61 ∧ t = 61 then F103_J6 n [p, q, r, t] x ((1 : Nat) : Int) 0 else F103_J6 n [p, q, r, t] x ((3 : Nat) : Int) (vI r) := by
    intro n
    rw [F103_J3]
    show grd (_ < ((4 : Nat) : Int)) ((F118 n ((r.toNat : Nat) : Int)).bind fun v14 => grd (_ < ((4 : Nat) : Int)) (iteB (((r.toNat : Nat) : Int) == 61) (grd (_ < ((4 : Nat) : Int)) (iteB (((t.toNat : Nat) : Int) == 61) _ _)) _)) = _
    rw [v_eq, bind_some', eq61, eq61]
    by_cases h1 : r = 61
    · by_cases h2 : t = 61
      · rw [if_pos (show r = 61 ∧ t = 61 from ⟨h1, h2⟩), decide_eq_true h1, decide_eq_true h2, grd_t _ (by omega), grd_t _ (by omega), iteB_t, grd_t _ (by omega), iteB_t, show (if (1 : Int) < (3 : Int) then (1 : Int) else (3 : Int)) = ((1 : Nat) : Int) from rfl]
      · rw [if_neg (show ¬ (r = 61 ∧ t = 61) from fun h => h2 h.2), decide_eq_true h1, decide_eq_false h2, grd_t _ (by omega), grd_t _ (by omega), iteB_t, grd_t _ (by omega), iteB_f]; rfl
    · rw [if_neg (show ¬ (r = 61 ∧ t = 61) from fun h => h1 h.1), decide_eq_false h1, grd_t _ (by omega), grd_t _ (by omega), iteB_f]; rfl
  by_cases h : r = 61 ∧ t = 61
  · rw [if_pos h]
    have e := ev_J6 p q r t x 1 hx (by omega) (.inl rfl) (fun _ => h) 0 (by omega)
    rw [if_pos h.2, Int.add_zero] at e
    exact e.congr fun n => by rw [unf, if_pos h]
  · rw [if_neg h]
    by_cases hr : vI r < 0
    · rw [if_pos hr]
      refine (Ev.const (x := some ([], false)) rfl).congr fun n => ?_
      rw [unf, if_neg h, F103_J6, decide_eq_true hr, iteB_t]
    · rw [if_neg hr]
      exact (ev_J6 p q r t x 3 hx (by omega) (.inr rfl) (fun h => by omega) (vI r) (by omega)).congr fun n => by rw [unf, if_neg h]
theorem ev_trio (p q r t : UInt8) : Ev (fun n => F103 n [p, q, r, t]) (triS p q r t) := by
  have bp := v_bd p
  have bq := v_bd q
  have br := v_bd r
  have bt := v_bd t
  unfold triS
  have u0 : ∀ n, F103 n [p, q, r, t] = F103_J2 n [p, q, r, t] (vI p) := by
    intro n
    rw [F103]
    show grd (_ < ((4 : Nat) : Int)) ((F118 n ((p.toNat : Nat) : Int)).bind fun v => grd (_ < ((4 : Nat) : Int)) (iteB (((p.toNat : Nat) : Int) == 61) (F103_J2 n [p, q, r, t] v) (F103_J2 n [p, q, r, t] v))) = _
    rw [v_eq, bind_some', grd_t _ (by omega), grd_t _ (by omega)]
    cases (((p.toNat : Nat) : Int) == 61) <;> rfl
  have u1 : ∀ n x, F103_J1 n [p, q, r, t] x = F103_J4 n [p, q, r, t] x (vI q) := by
    intro n x
    rw [F103_J1]
    show grd (_ < ((4 : Nat) : Int)) ((F118 n ((q.toNat : Nat) : Int)).bind fun v => grd (_ < ((4 : Nat) : Int)) (iteB (((q.toNat : Nat) : Int) == 61) (F103_J4 n [p, q, r, t] x v) (F103_J4 n [p, q, r, t] x v))) = _
    rw [v_eq, bind_some', grd_t _ (by omega), grd_t _ (by omega)]
    cases (((q.toNat : Nat) : Int) == 61) <;> rfl
  by_cases hp : vI p < 0
  · rw [if_pos (.inl hp)]
    refine (Ev.const (x := some ([], false)) rfl).congr fun n => ?_
    rw [u0, F103_J2, decide_eq_true hp, iteB_t]
  by_cases hq : vI q < 0
  · rw [if_pos (.inr hq)]
    refine (Ev.const (x := some ([], false)) rfl).congr fun n => ?_
    rw [u0, F103_J2, decide_eq_false hp, iteB_f, u1, F103_J4, decide_eq_true hq, iteB_t]
  rw [if_neg (fun h => h.elim hp hq)]
  refine (ev_t4J3 p q r t (vI p * 64 + vI q) (by omega) (by omega)).congr fun n => ?_
  rw [u0, F103_J2, decide_eq_false hp, iteB_f, acc6 (x := 0) (by omega) (by omega), u1, F103_J4, decide_eq_false hq, iteB_f, acc6 (by omega) (by omega)]
  congr 1
  omega
end Go.Proofs.YtaiapalhdejngaaX

/- Base 64: all that is told is read, and only that. -/
set_option linter.unusedVariables false
set_option linter.unusedSimpArgs false
namespace Go.Proofs.YtaiapalhdejngaaX
open Go
def decB : List UInt8 → List Int → List Int × Bool
  | p :: q :: r :: t :: l, acc => if (triS p q r t).2 = true then (if (triS p q r t).1.length < 3 ∧ l ≠ [] then ([], false) else decB l (acc ++ (triS p q r t).1)) else ([], false)
  | _, acc => (acc, true)
def decS (s : List UInt8) : List Int × Bool := if s.length % 4 ≠ 0 then ([], false) else decB s []
theorem fin3_len (x : Int) (k : Nat) (hk : k ≤ 3) : (fin3 x k).1.length ≤ 3 := by
  unfold fin3
  split
  · show ((b3 x).take k).length ≤ 3
    rw [List.length_take]; exact Nat.le_trans (Nat.min_le_left _ _) hk
  · exact Nat.zero_le _
theorem tri_len (p q r t : UInt8) : (triS p q r t).1.length ≤ 3 := by
  unfold triS
  split
  · exact Nat.zero_le _
  split
  · exact fin3_len _ _ (by omega)
  split
  · exact Nat.zero_le _
  split
  · exact fin3_len _ _ (by omega)
  split
  · exact Nat.zero_le _
  · exact fin3_len _ _ (by omega)
theorem ev_decB : ∀ (k : Nat) (s : List UInt8) (acc : List Int), s.length = 4 * k → k ≤ 1000000 → acc.length + 3 * k ≤ 100000000 → Ev (fun n => F79_L1 n s acc) (decB s acc)
  | 0, s, acc, hs, hk, ha => by
    obtain rfl : s = [] := List.length_eq_zero_iff.1 (by omega)
    exact Ev.step (Ev.pure.congr fun n => by rw [F79_L1]; rfl)
  | k + 1, s, acc, hs, hk, ha => by
    match s, hs with
    | p :: q :: r :: t :: l, hs =>
      have hll : l.length = 4 * k := by simp at hs; omega
      have hl4 : ((p :: q :: r :: t :: l).length : Int) = (l.length : Int) + 4 := by simp only [List.length_cons]; omega
      have htl := tri_len p q r t
      rw [decB]
      have u : ∀ n, F79_L1 (n + 1) (p :: q :: r :: t :: l) acc = (F103 n [p, q, r, t]).bind fun v6 => iteB (!v6.2) (some ([], false)) (iteB (decide ((v6.1.length : Int) < (3 : Int))) (iteB (decide ((4 : Int) < (l.length : Int) + 4)) (some ([], false)) (grd ((acc.length + v6.1.length) ≤ 549755813888) (F79_L1 n l (acc ++ v6.1)))) (grd ((acc.length + v6.1.length) ≤ 549755813888) (F79_L1 n l (acc ++ v6.1)))) := by
        intro n
        rw [F79_L1, show ((p :: q :: r :: t :: l) == []) = false from rfl, hl4, Bool.not_false, iteB_t, grd_t _ (by omega)]
        show (F103 n [p, q, r, t]).bind _ = _
        congr 1
        funext v6
        rw [grd_t (p := (4 : Int) ≤ _) _ (by omega)]
        rfl
      refine Ev.step (((ev_trio p q r t).bind (g := fun n v6 => iteB (!v6.2) (some ([], false)) (iteB (decide ((v6.1.length : Int) < (3 : Int))) (iteB (decide ((4 : Int) < (l.length : Int) + 4)) (some ([], false)) (grd ((acc.length + v6.1.length) ≤ 549755813888) (F79_L1 n l (acc ++ v6.1)))) (grd ((acc.length + v6.1.length) ≤ 549755813888) (F79_L1 n l (acc ++ v6.1))))) ?_).congr u)
      cases h2 : (triS p q r t).2 with
      | false => rw [if_neg (by decide)]; exact Ev.pure
      | true =>
        rw [if_pos rfl]
        have ih := ev_decB k l (acc ++ (triS p q r t).1) hll (by omega) (by rw [List.length_append]; omega)
        by_cases h3 : (triS p q r t).1.length < 3
        · by_cases hl : l = []
          · subst hl
            rw [if_neg (fun h => h.2 rfl)]
            refine ih.congr fun n => ?_
            rw [Bool.not_true, iteB_f, decide_eq_true (by omega), iteB_t, grd_t _ (by omega)]; rfl
          · rw [if_pos ⟨h3, hl⟩]
            have : 0 < l.length := List.length_pos_iff.2 hl
            refine Ev.pure.congr fun n => ?_
            rw [Bool.not_true, iteB_f, decide_eq_true (by omega), iteB_t, decide_eq_true (by omega), iteB_t]
        · rw [if_neg (fun h => h3 h.1)]
          refine ih.congr fun n => ?_
          rw [Bool.not_true, iteB_f, decide_eq_false (by omega), iteB_f, grd_t _ (by omega)]
theorem ev_Decode (s : List UInt8) (hs : s.length ≤ 1000000) : Ev (fun n => F79 n s) (decS s) := by
  unfold decS
  have hm : (s.length : Int).tmod 4 = ((s.length % 4 : Nat) : Int) := (Int.ofNat_tmod s.length 4).symm
  by_cases h : s.length % 4 ≠ 0
  · rw [if_pos h]
    refine Ev.pure.congr fun n => ?_
    rw [F79, hm, show (((s.length % 4 : Nat) : Int) != 0) = true by rw [bne_iff_ne]; omega, iteB_t]
  · rw [if_neg h]
    refine (ev_decB (s.length / 4) s [] (by omega) (by omega) (by simp; omega)).congr fun n => ?_
    rw [F79, hm, show s.length % 4 = 0 by omega]; rfl
def encS : List Int → List UInt8
  | [] => []
  | [a] => [sgB (a / 4), sgB (a % 4 * 16), 61, 61]
  | [a, b] => [sgB (a / 4), sgB (a % 4 * 16 + b / 16), sgB (b % 16 * 4), 61]
  | a :: b :: c :: r => sgB (a / 4) :: sgB (a % 4 * 16 + b / 16) :: sgB (b % 16 * 4 + c / 64) :: sgB (c % 64) :: encS r
theorem fin3_out {x : Int} {k : Nat} {b : List Int} (h : fin3 x k = (b, true)) : b = (b3 x).take k ∧ zeroS ((b3 x).drop k) = true := by
  unfold fin3 at h
  split at h
  · rename_i hz
    exact ⟨(Prod.mk.inj h).1.symm, hz⟩
  · have := (Prod.mk.inj h).2; cases this
theorem zero1 {a : Int} (h : zeroS [a] = true) : a = 0 := by
  have : ((a == 0) && true) = true := h
  rw [Bool.and_true] at this
  exact eq_of_beq this
theorem zero2 {a b : Int} (h : zeroS [a, b] = true) : a = 0 ∧ b = 0 := by
  have : ((a == 0) && ((b == 0) && true)) = true := h
  rw [Bool.and_true, Bool.and_eq_true] at this
  exact ⟨eq_of_beq this.1, eq_of_beq this.2⟩
theorem tri_enc {p q r t : UInt8} {b : List Int} (h : triS p q r t = (b, true)) : (∃ x y z, b = [x, y, z] ∧ [p, q, r, t] = [sgB (x / 4), sgB (x % 4 * 16 + y / 16), sgB (y % 16 * 4 + z / 64), sgB (z % 64)]) ∨ (b.length < 3 ∧ encS b = [p, q, r, t]) := by
  have bp := v_bd p
  have bq := v_bd q
  have br := v_bd r
  have bt := v_bd t
  unfold triS at h
  split at h
  · cases (Prod.mk.inj h).2
  rename_i hpq
  have hp : 0 ≤ vI p := by rcases Int.lt_or_le (vI p) 0 with h | h; exact absurd (.inl h) hpq; exact h
  have hq : 0 ≤ vI q := by rcases Int.lt_or_le (vI q) 0 with h | h; exact absurd (.inr h) hpq; exact h
  have sp := sg_v p hp
  have sq := sg_v q hq
  split at h
  · rename_i hrt
    obtain ⟨hb, hz⟩ := fin3_out h
    have hz : zeroS [((vI p * 64 + vI q) * 64 * 64) / 256 % 256, ((vI p * 64 + vI q) * 64 * 64) % 256] = true := hz
    obtain ⟨z1, z2⟩ := zero2 hz
    have hb : b = [((vI p * 64 + vI q) * 64 * 64) / 65536 % 256] := hb
    right
    subst hb
    refine ⟨by simp, ?_⟩
    rw [encS, hrt.1, hrt.2, show ((vI p * 64 + vI q) * 64 * 64) / 65536 % 256 / 4 = vI p by omega, show ((vI p * 64 + vI q) * 64 * 64) / 65536 % 256 % 4 * 16 = vI q by omega, sp, sq]
  split at h
  · cases (Prod.mk.inj h).2
  rename_i hrt hr
  have hr : 0 ≤ vI r := by omega
  have sr := sg_v r hr
  split at h
  · rename_i ht
    obtain ⟨hb, hz⟩ := fin3_out h
    have hz : zeroS [(((vI p * 64 + vI q) * 64 + vI r) * 64) % 256] = true := hz
    have z1 := zero1 hz
    have hb : b = [(((vI p * 64 + vI q) * 64 + vI r) * 64) / 65536 % 256, (((vI p * 64 + vI q) * 64 + vI r) * 64) / 256 % 256] := hb
    right
    subst hb
    refine ⟨by simp, ?_⟩
    rw [encS, ht, show (((vI p * 64 + vI q) * 64 + vI r) * 64) / 65536 % 256 / 4 = vI p by omega, show (((vI p * 64 + vI q) * 64 + vI r) * 64) / 65536 % 256 % 4 * 16 + (((vI p * 64 + vI q) * 64 + vI r) * 64) / 256 % 256 / 16 = vI q by omega, show (((vI p * 64 + vI q) * 64 + vI r) * 64) / 256 % 256 % 16 * 4 = vI r by omega, sp, sq, sr]
  split at h
  · cases (Prod.mk.inj h).2
  · rename_i ht ht'
    have ht' : 0 ≤ vI t := by omega
    have st := sg_v t ht'
    obtain ⟨hb, hz⟩ := fin3_out h
    left
    refine ⟨_, _, _, hb, ?_⟩
    generalize hX : ((vI p * 64 + vI q) * 64 + vI r) * 64 + vI t = X
    rw [show X / 65536 % 256 / 4 = vI p by omega, show X / 65536 % 256 % 4 * 16 + X / 256 % 256 / 16 = vI q by omega, show X / 256 % 256 % 16 * 4 + X % 256 / 64 = vI r by omega, show X % 256 % 64 = vI t by omega, sp, sq, sr, st]
theorem dec_enc : ∀ (n : Nat) (s : List UInt8) (acc out : List Int), s.length ≤ n → s.length % 4 = 0 → decB s acc = (out, true) → ∃ b, out = acc ++ b ∧ encS b = s
  | n, [], acc, out, hn, hm, h => by
    rw [decB] at h
    · exact ⟨[], by rw [List.append_nil]; exact (Prod.mk.inj h).1.symm, rfl⟩
    · intro p q r t l e; cases e
  | n, [_], acc, out, hn, hm, h => by simp at hm
  | n, [_, _], acc, out, hn, hm, h => by simp at hm
  | n, [_, _, _], acc, out, hn, hm, h => by simp at hm
  | 0, _ :: _ :: _ :: _ :: _, acc, out, hn, hm, h => by simp at hn
  | n + 1, p :: q :: r :: t :: l, acc, out, hn, hm, h => by
    rw [decB] at h
    cases ht : triS p q r t with
    | mk b ok =>
      rw [ht] at h
      cases ok with
      | false => rw [if_neg (by simp)] at h; cases (Prod.mk.inj h).2
      | true =>
        rw [if_pos rfl] at h
        have hlm : l.length % 4 = 0 := by simp only [List.length_cons] at hm; omega
        rcases tri_enc ht with ⟨x, y, z, rfl, he⟩ | ⟨hlt, he⟩
        · rw [if_neg (fun h => by have := h.1; simp at this)] at h
          obtain ⟨b', rfl, hb'⟩ := dec_enc n l _ out (by simp at hn; omega) hlm h
          refine ⟨x :: y :: z :: b', by rw [List.append_assoc]; rfl, ?_⟩
          rw [encS, hb']
          have : [p, q, r, t] ++ l = [sgB (x / 4), sgB (x % 4 * 16 + y / 16), sgB (y % 16 * 4 + z / 64), sgB (z % 64)] ++ l := by rw [he]
          exact this.symm
        · by_cases hl : l = []
          · subst hl
            rw [if_neg (fun h => h.2 rfl)] at h
            rw [decB] at h
            · exact ⟨b, (Prod.mk.inj h).1.symm, he⟩
            · intro p q r t l e; cases e
          · rw [if_pos ⟨hlt, hl⟩] at h; cases (Prod.mk.inj h).2
theorem zeroS_1 (a : Int) (h : a = 0) : zeroS [a] = true := by subst h; rfl
theorem zeroS_2 (a b : Int) (h : a = 0) (h' : b = 0) : zeroS [a, b] = true := by subst h; subst h'; rfl
theorem tri3 {a b c : Int} (ha : 0 ≤ a ∧ a ≤ 255) (hb : 0 ≤ b ∧ b ≤ 255) (hc : 0 ≤ c ∧ c ≤ 255) : triS (sgB (a / 4)) (sgB (a % 4 * 16 + b / 16)) (sgB (b % 16 * 4 + c / 64)) (sgB (c % 64)) = ([a, b, c], true) := by
  unfold triS
  rw [v_sg (k := a / 4) (by omega), v_sg (k := a % 4 * 16 + b / 16) (by omega), v_sg (k := b % 16 * 4 + c / 64) (by omega), v_sg (k := c % 64) (by omega), if_neg (by omega), if_neg (fun h => sg_ne (k := c % 64) (by omega) h.2), if_neg (by omega), if_neg (fun h => sg_ne (k := c % 64) (by omega) h), if_neg (by omega)]
  generalize hX : ((a / 4 * 64 + (a % 4 * 16 + b / 16)) * 64 + (b % 16 * 4 + c / 64)) * 64 + c % 64 = X
  unfold fin3
  rw [if_pos (show zeroS (List.drop 3 (b3 X)) = true from rfl)]
  show ([X / 65536 % 256, X / 256 % 256, X % 256], true) = _
  rw [show X / 65536 % 256 = a by omega, show X / 256 % 256 = b by omega, show X % 256 = c by omega]
theorem tri2 {a b : Int} (ha : 0 ≤ a ∧ a ≤ 255) (hb : 0 ≤ b ∧ b ≤ 255) : triS (sgB (a / 4)) (sgB (a % 4 * 16 + b / 16)) (sgB (b % 16 * 4)) 61 = ([a, b], true) := by
  unfold triS
  rw [v_sg (k := a / 4) (by omega), v_sg (k := a % 4 * 16 + b / 16) (by omega), v_sg (k := b % 16 * 4) (by omega), if_neg (by omega), if_neg (fun h => sg_ne (k := b % 16 * 4) (by omega) h.1), if_neg (by omega), if_pos rfl]
  generalize hX : ((a / 4 * 64 + (a % 4 * 16 + b / 16)) * 64 + b % 16 * 4) * 64 = X
  unfold fin3
  rw [if_pos (show zeroS (List.drop 2 (b3 X)) = true from zeroS_1 (X % 256) (by omega))]
  show ([X / 65536 % 256, X / 256 % 256], true) = _
  rw [show X / 65536 % 256 = a by omega, show X / 256 % 256 = b by omega]
theorem tri1 {a : Int} (ha : 0 ≤ a ∧ a ≤ 255) : triS (sgB (a / 4)) (sgB (a % 4 * 16)) 61 61 = ([a], true) := by
  unfold triS
  rw [v_sg (k := a / 4) (by omega), v_sg (k := a % 4 * 16) (by omega), if_neg (by omega), if_pos ⟨rfl, rfl⟩]
  generalize hX : (a / 4 * 64 + a % 4 * 16) * 64 * 64 = X
  unfold fin3
  rw [if_pos (show zeroS (List.drop 1 (b3 X)) = true from zeroS_2 (X / 256 % 256) (X % 256) (by omega) (by omega))]
  show ([X / 65536 % 256], true) = _
  rw [show X / 65536 % 256 = a by omega]
theorem enc_len : ∀ (n : Nat) (b : List Int), b.length ≤ n → (encS b).length % 4 = 0
  | n, [], hn => by rw [encS]; rfl
  | n, [_], hn => by rw [encS]; simp
  | n, [_, _], hn => by rw [encS]; simp
  | 0, _ :: _ :: _ :: _, hn => by simp at hn
  | n + 1, a :: b :: c :: r, hn => by
    have := enc_len n r (by simp at hn; omega)
    rw [encS]
    simp only [List.length_cons]
    omega
theorem enc_dec : ∀ (n : Nat) (b acc : List Int), b.length ≤ n → Bytes b → decB (encS b) acc = (acc ++ b, true)
  | n, [], acc, hn, hb => by
    rw [encS, decB, List.append_nil]
    intro p q r t l e; cases e
  | n, [a], acc, hn, hb => by
    rw [encS, decB, tri1 hb.head, if_pos rfl, if_neg (fun h => h.2 rfl), decB]
    intro p q r t l e; cases e
  | n, [a, b], acc, hn, hb => by
    rw [encS, decB, tri2 hb.head hb.tail.head, if_pos rfl, if_neg (fun h => h.2 rfl), decB]
    intro p q r t l e; cases e
  | 0, _ :: _ :: _ :: _, acc, hn, hb => by simp at hn
  | n + 1, a :: b :: c :: r, acc, hn, hb => by
    rw [encS, decB, tri3 hb.head hb.tail.head hb.tail.tail.head, if_pos rfl, if_neg (fun h => by have := h.1; simp at this), enc_dec n r _ (by simp at hn; omega) hb.tail.tail.tail, List.append_assoc]
    rfl
theorem decS_enc {b : List Int} (hb : Bytes b) : decS (encS b) = (b, true) := by
  unfold decS
  rw [if_neg (fun h => h (enc_len b.length b (Nat.le_refl _))), enc_dec b.length b [] (Nat.le_refl _) hb]
  rfl
theorem decS_only {s : List UInt8} {b : List Int} (h : decS s = (b, true)) : encS b = s := by
  unfold decS at h
  split at h
  · cases (Prod.mk.inj h).2
  · rename_i hm
    obtain ⟨b', rfl, he⟩ := dec_enc s.length s [] b (Nat.le_refl _) (by omega) h
    exact he
/-! The reference's Encode. -/
theorem sgs {x : Int} (h0 : 0 ≤ x) (h1 : x < 16777216) (n : Nat) : F104 n (IntKind.wrap .i64 (x.tdiv 262144)) = some ((sgB (x / 262144)).toNat : Int) ∧ F104 n ((IntKind.wrap .i64 (x.tdiv 4096)).tmod 64) = some ((sgB (x / 4096 % 64)).toNat : Int) ∧ F104 n ((IntKind.wrap .i64 (x.tdiv 64)).tmod 64) = some ((sgB (x / 64 % 64)).toNat : Int) ∧ F104 n (x.tmod 64) = some ((sgB (x % 64)).toNat : Int) := by
  rw [Int.tdiv_eq_ediv_of_nonneg h0, Int.tdiv_eq_ediv_of_nonneg h0, Int.tdiv_eq_ediv_of_nonneg h0, w64 (n := x / 262144) (by omega), w64 (n := x / 4096) (by omega), w64 (n := x / 64) (by omega), Int.tmod_eq_emod_of_nonneg (show 0 ≤ x / 4096 by omega), Int.tmod_eq_emod_of_nonneg (show 0 ≤ x / 64 by omega), Int.tmod_eq_emod_of_nonneg h0]
  exact ⟨sign_r n (by omega), sign_r n (by omega), sign_r n (by omega), sign_r n (by omega)⟩
theorem toB_u8 (c : UInt8) : toB (c.toNat : Int) = c := by
  show UInt8.ofNat ((c.toNat : Int)).toNat = c
  rw [toNat_nat]; simp
theorem ev_encL {l : List Int} (hb : Bytes l) (hl : l.length ≤ 1000000) : ∀ (k i : Nat) (x : List Int), l.length ≤ i + 3 * k → i ≤ l.length + 2 → x.length ≤ 2 * i → (i ≤ l.length ∨ l.drop i = []) → Ev (fun n => F80_L1 n l (i : Int) x) (x.map toB ++ encS (l.drop i))
  | 0, i, x, h1, h2, hx, h3 => by
    rw [List.drop_of_length_le (by omega), encS, List.append_nil]
    refine Ev.step (Ev.pure.congr fun n => ?_)
    rw [F80_L1, decide_eq_false (by omega), iteB_f]
  | k + 1, i, x, h1, h2, hx, h3 => by
    by_cases hi : i < l.length
    · have w1 : IntKind.wrap .i64 ((i : Int) + 1) = ((i + 1 : Nat) : Int) := by rw [w64 (by omega)]; omega
      have w2 : IntKind.wrap .i64 ((i : Int) + 2) = ((i + 2 : Nat) : Int) := by rw [w64 (by omega)]; omega
      have w3 : IntKind.wrap .i64 ((i : Int) + 3) = ((i + 3 : Nat) : Int) := by rw [w64 (by omega)]; omega
      have ba := hb.getD i
      have bb := hb.getD (i + 1)
      have bc := hb.getD (i + 2)
      have goJ3 : ∀ (n : Nat) (X : Int), 0 ≤ X → X < 16777216 → F80_J3 n l x (i : Int) X = F80_L1 n l ((i + 3 : Nat) : Int) (x ++ [((sgB (X / 262144)).toNat : Int), ((sgB (X / 4096 % 64)).toNat : Int), if l.length ≤ i + 1 then 61 else ((sgB (X / 64 % 64)).toNat : Int), if l.length ≤ i + 2 then 61 else ((sgB (X % 64)).toNat : Int)]) := by
        intro n X h0 h1
        obtain ⟨s1, s2, s3, s4⟩ := sgs h0 h1 n
        rw [F80_J3, s1, bind_some', s2, bind_some', s3, bind_some', s4, bind_some', w1]
        have j4 : ∀ (a b c d : Int), F80_J4 n l x (i : Int) [a, b, c, d] = F80_L1 n l ((i + 3 : Nat) : Int) (x ++ [a, b, c, if l.length ≤ i + 2 then 61 else d]) := by
          intro a b c d
          rw [F80_J4, w2, w3]
          by_cases h : l.length ≤ i + 2
          · rw [if_pos h, decide_eq_true (by omega), iteB_t, grd_t _ (by show (3 : Int) < ((4 : Nat) : Int); omega), grd_t _ (by show 3 < 4; omega), grd_t _ (by show x.length + 4 ≤ _; omega)]
            rfl
          · rw [if_neg h, decide_eq_false (by omega), iteB_f, grd_t _ (by show x.length + 4 ≤ _; omega)]
        by_cases h : l.length ≤ i + 1
        · rw [if_pos h, decide_eq_true (by omega), iteB_t, grd_t _ (by omega), grd_t _ (by show 2 < 4; omega)]
          exact j4 _ _ 61 _
        · rw [if_neg h, decide_eq_false (by omega), iteB_f]
          exact j4 _ _ _ _
      have key : ∀ (X : Int) (n : Nat), 0 ≤ X → X < 16777216 → X = l.getD i 0 * 65536 + (if l.length ≤ i + 1 then 0 else l.getD (i + 1) 0 * 256) + (if l.length ≤ i + 2 then 0 else l.getD (i + 2) 0) → F80_L1 (n + 1) l (i : Int) x = F80_J3 n l x (i : Int) X := by
        intro X n h0 h1 hX
        have hj2 : ∀ Y : Int, 0 ≤ Y → Y ≤ 16777215 - 255 → F80_J2 n l x (i : Int) Y = F80_J3 n l x (i : Int) (Y + (if l.length ≤ i + 2 then 0 else l.getD (i + 2) 0)) := by
          intro Y hY hY1
          rw [F80_J2, w2]
          by_cases h : l.length ≤ i + 2
          · rw [if_pos h, decide_eq_false (by omega), iteB_f, Int.add_zero]
          · rw [if_neg h, decide_eq_true (by omega), iteB_t, grd_t _ (by omega), toNat_nat]
            show F80_J3 n l x (i : Int) (IntKind.wrap .i64 (Y + IntKind.wrap .i64 (l.getD (i + 2) 0))) = _
            rw [w64 (n := l.getD (i + 2) 0) (by omega), w64 (by omega)]
        rw [F80_L1, decide_eq_true (by omega), iteB_t, grd_t _ (by omega), w1, toNat_nat, toNat_nat]
        by_cases h : l.length ≤ i + 1
        · rw [if_pos h] at hX
          rw [decide_eq_false (by omega), iteB_f]
          show F80_J2 n l x (i : Int) (IntKind.wrap .i64 (IntKind.wrap .i64 (l.getD i 0) * 65536)) = _
          rw [w64 (n := l.getD i 0) (by omega), w64 (by omega), hj2 _ (by omega) (by omega), hX, Int.add_zero]
        · rw [if_neg h] at hX
          rw [decide_eq_true (by omega), iteB_t, grd_t _ (by omega)]
          show F80_J2 n l x (i : Int) (IntKind.wrap .i64 (IntKind.wrap .i64 (IntKind.wrap .i64 (l.getD i 0) * 65536) + IntKind.wrap .i64 (IntKind.wrap .i64 (l.getD (i + 1) 0) * 256))) = _
          rw [w64 (n := l.getD i 0) (by omega), w64 (n := l.getD i 0 * 65536) (by omega), w64 (n := l.getD (i + 1) 0) (by omega), w64 (n := l.getD (i + 1) 0 * 256) (by omega), w64 (by omega), hj2 _ (by omega) (by omega), hX]
      rw [drop_cons l i 0 hi]
      by_cases hi1 : l.length ≤ i + 1
      · rw [List.drop_of_length_le (by omega), encS]
        have ih := ev_encL hb hl k (i + 3) (x ++ [((sgB (l.getD i 0 / 4)).toNat : Int), ((sgB (l.getD i 0 % 4 * 16)).toNat : Int), 61, 61]) (by omega) (by omega) (by simp; omega) (.inr (List.drop_of_length_le (by omega)))
        rw [List.drop_of_length_le (by omega), encS, List.append_nil, List.map_append] at ih
        simp only [List.map_cons, List.map_nil, toB_u8] at ih
        refine Ev.step (ih.congr fun n => ?_)
        rw [key (l.getD i 0 * 65536) n (by omega) (by omega) (by rw [if_pos hi1, if_pos (by omega)]; omega), goJ3 n _ (by omega) (by omega), if_pos hi1, if_pos (by omega), show l.getD i 0 * 65536 / 262144 = l.getD i 0 / 4 by omega, show l.getD i 0 * 65536 / 4096 % 64 = l.getD i 0 % 4 * 16 by omega]
      rw [drop_cons l (i + 1) 0 (by omega)]
      by_cases hi2 : l.length ≤ i + 2
      · rw [List.drop_of_length_le (by omega), encS]
        generalize hA : l.getD i 0 = A at *
        generalize hB : l.getD (i + 1) 0 = B at *
        have ih := ev_encL hb hl k (i + 3) (x ++ [((sgB (A / 4)).toNat : Int), ((sgB (A % 4 * 16 + B / 16)).toNat : Int), ((sgB (B % 16 * 4)).toNat : Int), 61]) (by omega) (by omega) (by simp; omega) (.inr (List.drop_of_length_le (by omega)))
        rw [List.drop_of_length_le (by omega), encS, List.append_nil, List.map_append] at ih
        simp only [List.map_cons, List.map_nil, toB_u8] at ih
        refine Ev.step (ih.congr fun n => ?_)
        rw [key (A * 65536 + B * 256) n (by omega) (by omega) (by rw [if_neg hi1, if_pos (by omega)]; omega), goJ3 n _ (by omega) (by omega), if_neg hi1, if_pos (by omega), show (A * 65536 + B * 256) / 262144 = A / 4 by omega, show (A * 65536 + B * 256) / 4096 % 64 = A % 4 * 16 + B / 16 by omega, show (A * 65536 + B * 256) / 64 % 64 = B % 16 * 4 by omega]
      · rw [drop_cons l (i + 2) 0 (by omega), encS]
        generalize hA : l.getD i 0 = A at *
        generalize hB : l.getD (i + 1) 0 = B at *
        generalize hC : l.getD (i + 2) 0 = C at *
        have ih := ev_encL hb hl k (i + 3) (x ++ [((sgB (A / 4)).toNat : Int), ((sgB (A % 4 * 16 + B / 16)).toNat : Int), ((sgB (B % 16 * 4 + C / 64)).toNat : Int), ((sgB (C % 64)).toNat : Int)]) (by omega) (by omega) (by simp; omega) (.inl (by omega))
        rw [List.map_append, List.append_assoc] at ih
        simp only [List.map_cons, List.map_nil, toB_u8] at ih
        refine Ev.step (ih.congr fun n => ?_)
        rw [key (A * 65536 + B * 256 + C) n (by omega) (by omega) (by rw [if_neg hi1, if_neg hi2]), goJ3 n _ (by omega) (by omega), if_neg hi1, if_neg hi2, show (A * 65536 + B * 256 + C) / 262144 = A / 4 by omega, show (A * 65536 + B * 256 + C) / 4096 % 64 = A % 4 * 16 + B / 16 by omega, show (A * 65536 + B * 256 + C) / 64 % 64 = B % 16 * 4 + C / 64 by omega, show (A * 65536 + B * 256 + C) % 64 = C % 64 by omega]
    · rw [List.drop_of_length_le (by omega), encS, List.append_nil]
      refine Ev.step (Ev.pure.congr fun n => ?_)
      rw [F80_L1, decide_eq_false (by omega), iteB_f]
theorem ev_rEncode {l : List Int} (hb : Bytes l) (hl : l.length ≤ 1000000) : Ev (fun n => F80 n l) (encS l) := by
  have e := ev_encL hb hl l.length 0 [] (by omega) (by omega) (by simp) (.inl (by omega))
  rw [List.drop_zero] at e
  refine e.congr fun n => ?_
  rw [F80]; rfl
end Go.Proofs.YtaiapalhdejngaaX

/- Texts cut at a byte. -/
set_option linter.unusedVariables false
set_option linter.unusedSimpArgs false
namespace Go.Proofs.YtaiapalhdejngaaX
open Go
def splitB (c : UInt8) : List UInt8 → List (List UInt8)
  | [] => [[]]
  | x :: l => if x = c then [] :: splitB c l else match splitB c l with
    | [] => [[x]]
    | y :: ys => (x :: y) :: ys
theorem split_ne (c : UInt8) : ∀ l, splitB c l ≠ []
  | [] => by simp [splitB]
  | x :: l => by
    rw [splitB]
    split
    · simp
    · split <;> simp
theorem idx_cases (c : UInt8) : ∀ s : List UInt8, (Lib.indexByte s c = -1 ∧ c ∉ s ∧ s.count c = 0 ∧ splitB c s = [s]) ∨
    ∃ m : Nat, m < s.length ∧ Lib.indexByte s c = (m : Int) ∧ c ∉ s.take m ∧ s = s.take m ++ c :: s.drop (m + 1) ∧ s.count c = 1 + (s.drop (m + 1)).count c ∧ splitB c s = s.take m :: splitB c (s.drop (m + 1))
  | [] => .inl ⟨rfl, by simp, rfl, rfl⟩
  | x :: l => by
    by_cases h : x = c
    · subst h
      refine .inr ⟨0, by simp, ?_, by simp, by simp, by simp; omega, by simp [splitB]⟩
      rw [Lib.indexByte, beq_self_eq_true, if_pos rfl]; rfl
    · have hb : (x == c) = false := by rw [beq_eq_false_iff_ne]; exact h
      rcases idx_cases c l with ⟨h1, h2, h3, h4⟩ | ⟨m, h1, h2, h3, h4, h5, h6⟩
      · refine .inl ⟨?_, ?_, ?_, ?_⟩
        · rw [Lib.indexByte, hb, h1]; rfl
        · simp only [List.mem_cons, not_or]; exact ⟨fun e => h e.symm, h2⟩
        · rw [List.count_cons_of_ne h, h3]
        · rw [splitB, if_neg h, h4]
      · refine .inr ⟨m + 1, by simp; omega, ?_, ?_, ?_, ?_, ?_⟩
        · rw [Lib.indexByte, hb, h2]
          simp only [Bool.false_eq_true, if_false]
          rw [if_neg (by rw [beq_iff_eq]; omega)]; omega
        · rw [List.take_succ_cons]; simp only [List.mem_cons, not_or]; exact ⟨fun e => h e.symm, h3⟩
        · rw [List.take_succ_cons, List.drop_succ_cons, List.cons_append, ← h4]
        · rw [List.count_cons_of_ne h, List.drop_succ_cons, h5]
        · rw [splitB, if_neg h, h6, List.take_succ_cons, List.drop_succ_cons]
theorem Index_eq (n : Nat) (s : List UInt8) (c : UInt8) : F114 n s [c] = some (Lib.indexByte s c) := by
  rw [F114]
  show iteB false _ _ = _
  rw [iteB_f]
  by_cases h : ([c] : List UInt8) = s
  · rw [show (([c] : List UInt8) == s) = true by rw [beq_iff_eq]; exact h, iteB_t, ← h, Lib.indexByte, beq_self_eq_true]; rfl
  · rw [show (([c] : List UInt8) == s) = false by rw [beq_eq_false_iff_ne]; exact h, iteB_f]
    show iteB true _ _ = _
    rw [iteB_t, grd_t _ (by simp), F113, bind_some']
    show some (Lib.indexByte s (((c.toNat : Nat) : Int).toNat.toUInt8)) = _
    rw [toNat_nat, show c.toNat.toUInt8 = c by simp]
def cutB (c : UInt8) (s : List UInt8) : List UInt8 × List UInt8 × Bool := if c ∈ s then (s.take (Lib.indexByte s c).toNat, s.drop ((Lib.indexByte s c).toNat + 1), true) else (s, [], false)
theorem Cut_eq (n : Nat) (s : List UInt8) (c : UInt8) (hs : s.length ≤ 1000000) : F73 n s [c] = some (cutB c s) := by
  unfold cutB
  rw [F73, F98, Index_eq, bind_some', show (([c] : List UInt8).length : Int) = 1 from rfl]
  rcases idx_cases c s with ⟨h1, h2, h3, h4⟩ | ⟨m, h1, h2, h3, h4, h5, h6⟩
  · rw [if_neg h2, h1]; rfl
  · have hm : c ∈ s := by rw [h4]; simp
    rw [if_pos hm, h2, decide_eq_true (by omega), iteB_t, w64 (by omega), grd_t _ (by omega), grd_t _ (by omega), bind_some', show ((m : Int) + 1).toNat = m + 1 by omega, toNat_nat]
theorem idx_app (c : UInt8) (b : List UInt8) : ∀ a : List UInt8, c ∉ a → Lib.indexByte (a ++ c :: b) c = (a.length : Int)
  | [], _ => by rw [List.nil_append, Lib.indexByte, beq_self_eq_true, if_pos rfl]; rfl
  | x :: a, h => by
    simp only [List.mem_cons, not_or] at h
    rw [List.cons_append, Lib.indexByte, show (x == c) = false by (rw [beq_eq_false_iff_ne]; exact fun e => h.1 e.symm), idx_app c b a h.2]
    simp only [Bool.false_eq_true, if_false]
    rw [if_neg (by rw [beq_iff_eq]; omega), List.length_cons]; omega
theorem cut_app (c : UInt8) (a b : List UInt8) (h : c ∉ a) : cutB c (a ++ c :: b) = (a, b, true) := by
  unfold cutB
  rw [if_pos (by simp), idx_app c b a h, toNat_nat, List.take_left']
  · rw [show a.length + 1 = (a ++ [c]).length by simp, show a ++ c :: b = (a ++ [c]) ++ b by simp, List.drop_left']; rfl
  · rfl
theorem cut_none (c : UInt8) (a : List UInt8) (h : c ∉ a) : cutB c a = (a, [], false) := by unfold cutB; rw [if_neg h]
end Go.Proofs.YtaiapalhdejngaaX

/- EtagTells, plainly. -/
set_option linter.unusedVariables false
set_option linter.unusedSimpArgs false
namespace Go.Proofs.YtaiapalhdejngaaX
open Go
theorem hexP_ok : ∀ (n : Nat) (l : List UInt8) (acc : List Int), l.length ≤ n → l.length % 2 = 0 → (hexP l acc).2 = true → (hexP l acc).1.length = acc.length + l.length / 2 ∧ ∀ c ∈ l, 0 ≤ hvS (c.toNat : Int)
  | n, [], acc, hn, hm, h => ⟨rfl, fun c hc => by cases hc⟩
  | n, [_], acc, hn, hm, h => by simp at hm
  | 0, _ :: _ :: _, acc, hn, hm, h => by simp at hn
  | n + 1, a :: b :: r, acc, hn, hm, h => by
    rw [hexP] at h ⊢
    split at h
    · cases h
    · rename_i hne
      rw [if_neg hne]
      have h1 : 0 ≤ hvS (a.toNat : Int) := by rcases Int.lt_or_le (hvS (a.toNat : Int)) 0 with h | h; exact absurd (.inl h) hne; exact h
      have h2 : 0 ≤ hvS (b.toNat : Int) := by rcases Int.lt_or_le (hvS (b.toNat : Int)) 0 with h | h; exact absurd (.inr h) hne; exact h
      obtain ⟨k1, k2⟩ := hexP_ok n r _ (by simp at hn; omega) (by simp only [List.length_cons] at hm; omega) h
      refine ⟨by rw [k1, List.length_append]; simp only [List.length_cons, List.length_nil]; omega, fun c hc => ?_⟩
      rcases List.mem_cons.1 hc with rfl | hc
      · exact h1
      rcases List.mem_cons.1 hc with rfl | hc
      · exact h2
      · exact k2 c hc
theorem et_ok {l : List UInt8} (h : (etS l).2 = true) : l.length = 32 ∧ ∀ c ∈ l, c ≠ 45 := by
  unfold etS at h
  split at h
  · rename_i h2
    unfold hexS at h2
    split at h2
    · cases h2.1
    · rename_i hm
      obtain ⟨k1, k2⟩ := hexP_ok l.length l [] (Nat.le_refl _) (by omega) h2.1
      refine ⟨by rw [h2.2] at k1; simp at k1; omega, fun c hc e => ?_⟩
      have := k2 c hc
      subst e
      exact absurd this (by decide)
  · cases h
def cntS (number : List UInt8) : Int := if (readD number).2 = false then 0 else if (readD number).1 < 1 then 0 else if 10000 < (readD number).1 then 0 else if decT (readD number).1 = number then (readD number).1 else 0
def countS (l : List UInt8) : Int := if (etS (cutB 45 l).1).2 = false then 0 else if (cutB 45 l).2.2 = false then 1 else cntS (cutB 45 l).2.1
theorem ev_cnt (number : List UInt8) : Ev (fun n => (F78 n number).bind fun v5 => iteB (!v5.2) (some (0 : Int)) (iteB (decide (v5.1 < (1 : Int))) (some (0 : Int)) (iteB (decide ((10000 : Int) < v5.1)) (some (0 : Int)) ((F55 n v5.1).bind fun v9 => iteB (!(v9 == number)) (some (0 : Int)) (some v5.1))))) (cntS number) := by
  refine (ev_ReadDecimal number).bind (g := fun n v5 => iteB (!v5.2) (some (0 : Int)) (iteB (decide (v5.1 < (1 : Int))) (some (0 : Int)) (iteB (decide ((10000 : Int) < v5.1)) (some (0 : Int)) ((F55 n v5.1).bind fun v9 => iteB (!(v9 == number)) (some (0 : Int)) (some v5.1))))) ?_
  have hb := readD_bd number
  unfold cntS
  cases h2 : (readD number).2 with
  | false => rw [if_pos rfl]; exact Ev.pure
  | true =>
    rw [if_neg (by decide)]
    by_cases h1 : (readD number).1 < 1
    · rw [if_pos h1]; exact Ev.pure.congr fun n => by rw [Bool.not_true, iteB_f, decide_eq_true h1, iteB_t]
    rw [if_neg h1]
    by_cases h3 : 10000 < (readD number).1
    · rw [if_pos h3]; exact Ev.pure.congr fun n => by rw [Bool.not_true, iteB_f, decide_eq_false h1, iteB_f, decide_eq_true h3, iteB_t]
    rw [if_neg h3]
    refine ((ev_Decimal (readD number).1 (by omega)).bind (g := fun n v9 => iteB (!(v9 == number)) (some (0 : Int)) (some (readD number).1)) ?_).congr fun n => by rw [Bool.not_true, iteB_f, decide_eq_false h1, iteB_f, decide_eq_false h3, iteB_f]
    by_cases hd : decT (readD number).1 = number
    · rw [if_pos hd, beq_iff_eq.2 hd]; exact Ev.pure
    · rw [if_neg hd, beq_eq_false_iff_ne.2 hd]; exact Ev.pure
theorem ev_rcnt (number : List UInt8) : Ev (fun n => (F59 n number).bind fun v5 => iteB (!v5.2) (some (0 : Int)) (iteB (decide (v5.1 < (1 : Int))) (some (0 : Int)) (iteB (decide ((10000 : Int) < v5.1)) (some (0 : Int)) ((F22 n v5.1).bind fun v9 => iteB (!(v9 == number)) (some (0 : Int)) (some v5.1))))) (cntS number) := by
  refine (ev_rReadDecimal number).bind (g := fun n v5 => iteB (!v5.2) (some (0 : Int)) (iteB (decide (v5.1 < (1 : Int))) (some (0 : Int)) (iteB (decide ((10000 : Int) < v5.1)) (some (0 : Int)) ((F22 n v5.1).bind fun v9 => iteB (!(v9 == number)) (some (0 : Int)) (some v5.1))))) ?_
  have hb := readD_bd number
  unfold cntS
  cases h2 : (readD number).2 with
  | false => rw [if_pos rfl]; exact Ev.pure
  | true =>
    rw [if_neg (by decide)]
    by_cases h1 : (readD number).1 < 1
    · rw [if_pos h1]; exact Ev.pure.congr fun n => by rw [Bool.not_true, iteB_f, decide_eq_true h1, iteB_t]
    rw [if_neg h1]
    by_cases h3 : 10000 < (readD number).1
    · rw [if_pos h3]; exact Ev.pure.congr fun n => by rw [Bool.not_true, iteB_f, decide_eq_false h1, iteB_f, decide_eq_true h3, iteB_t]
    rw [if_neg h3]
    refine ((ev_rDecimal (readD number).1 (by omega)).bind (g := fun n v9 => iteB (!(v9 == number)) (some (0 : Int)) (some (readD number).1)) ?_).congr fun n => by rw [Bool.not_true, iteB_f, decide_eq_false h1, iteB_f, decide_eq_false h3, iteB_f]
    by_cases hd : decT (readD number).1 = number
    · rw [if_pos hd, beq_iff_eq.2 hd]; exact Ev.pure
    · rw [if_neg hd, beq_eq_false_iff_ne.2 hd]; exact Ev.pure
theorem cut_len (c : UInt8) (s : List UInt8) : (cutB c s).1.length ≤ s.length := by
  unfold cutB
  split
  · show (s.take _).length ≤ _; rw [List.length_take]; omega
  · exact Nat.le_refl _
theorem ev_Count (l : List UInt8) (hl : l.length ≤ 1000000) : Ev (fun n => F41 n l) (countS l) := by
  have hc := cut_len 45 l
  have u : ∀ n, F41 n l = (F37 n (cutB 45 l).1).bind fun v2 => iteB (!v2.2) (some (0 : Int)) (iteB (!(cutB 45 l).2.2) (some (1 : Int)) ((F78 n (cutB 45 l).2.1).bind fun v5 => iteB (!v5.2) (some (0 : Int)) (iteB (decide (v5.1 < (1 : Int))) (some (0 : Int)) (iteB (decide ((10000 : Int) < v5.1)) (some (0 : Int)) ((F55 n v5.1).bind fun v9 => iteB (!(v9 == (cutB 45 l).2.1)) (some (0 : Int)) (some v5.1)))))) := by
    intro n
    rw [F41, Cut_eq n l 45 hl, bind_some']
  refine ((ev_eSum (cutB 45 l).1 (by omega)).bind (g := fun n v2 => iteB (!v2.2) (some (0 : Int)) (iteB (!(cutB 45 l).2.2) (some (1 : Int)) ((F78 n (cutB 45 l).2.1).bind fun v5 => iteB (!v5.2) (some (0 : Int)) (iteB (decide (v5.1 < (1 : Int))) (some (0 : Int)) (iteB (decide ((10000 : Int) < v5.1)) (some (0 : Int)) ((F55 n v5.1).bind fun v9 => iteB (!(v9 == (cutB 45 l).2.1)) (some (0 : Int)) (some v5.1))))))) ?_).congr u
  unfold countS
  cases h2 : (etS (cutB 45 l).1).2 with
  | false => rw [if_pos rfl]; exact Ev.pure
  | true =>
    rw [if_neg (by decide)]
    cases h3 : (cutB 45 l).2.2 with
    | false => rw [if_pos rfl]; exact Ev.pure
    | true =>
      rw [if_neg (by decide)]
      exact (ev_cnt (cutB 45 l).2.1).congr fun n => rfl
def rcountS (l : List UInt8) : Int := if l.length < 32 then 0 else if (etS (l.take 32)).2 = false then 0 else if l.length = 32 then 1 else if l.getD 32 0 ≠ 45 then 0 else cntS (l.drop 33)
theorem count_eq (l : List UInt8) : rcountS l = countS l := by
  unfold rcountS countS
  by_cases hm : 45 ∈ l
  · obtain ⟨a, b, hab, hna⟩ := List.eq_append_cons_of_mem hm
    subst hab
    rw [cut_app 45 a b hna]
    dsimp only
    have hlen : (a ++ 45 :: b).length = a.length + b.length + 1 := by rw [List.length_append, List.length_cons]; omega
    cases he : (etS a).2 with
    | true =>
      have ha := (et_ok he).1
      have ht : (a ++ 45 :: b).take 32 = a := by rw [List.take_append_of_le_length (by omega), List.take_of_length_le (by omega)]
      have hg : (a ++ 45 :: b).getD 32 0 = 45 := by
        rw [List.getD_eq_getElem?_getD, List.getElem?_append_right (by omega), show 32 - a.length = 0 by omega]; rfl
      rw [if_neg (show ¬ (a ++ 45 :: b).length < 32 by omega), ht, he, if_neg (show ¬ (true = false) by decide), if_neg (show ¬ (a ++ 45 :: b).length = 32 by omega), if_neg (show ¬ ((a ++ 45 :: b).getD 32 0 ≠ 45) from fun h => h hg), if_neg (show ¬ (true = false) by decide), if_neg (show ¬ (true = false) by decide)]
      congr 1
      rw [List.drop_append, List.drop_of_length_le (by omega), show 33 - a.length = 1 by omega]; rfl
    | false =>
      rw [if_pos (show false = false from rfl)]
      by_cases h32 : (a ++ 45 :: b).length < 32
      · rw [if_pos h32]
      rw [if_neg h32]
      by_cases hlt : a.length < 32
      · have : (etS ((a ++ 45 :: b).take 32)).2 = false := by
          cases hx : (etS ((a ++ 45 :: b).take 32)).2 with
          | false => rfl
          | true =>
            refine absurd rfl ((et_ok hx).2 45 ?_)
            rw [List.mem_iff_getElem?]
            exact ⟨a.length, by rw [List.getElem?_take, if_pos hlt, List.getElem?_append_right (Nat.le_refl _), Nat.sub_self]; rfl⟩
        rw [if_pos this]
      · by_cases hx : (etS ((a ++ 45 :: b).take 32)).2 = false
        · rw [if_pos hx]
        rw [if_neg hx, if_neg (by omega)]
        by_cases heq : a.length = 32
        · exfalso
          have ht : (a ++ 45 :: b).take 32 = a := by rw [List.take_append_of_le_length (by omega), List.take_of_length_le (by omega)]
          rw [ht] at hx
          exact hx he
        · have hg : (a ++ 45 :: b).getD 32 0 ≠ 45 := by
            intro h
            apply hna
            rw [List.getD_eq_getElem?_getD, List.getElem?_append_left (by omega), List.getElem?_eq_getElem (by omega)] at h
            have h : a[32] = 45 := h
            rw [← h]
            exact List.getElem_mem _
          rw [if_pos hg]
  · rw [cut_none 45 l hm]
    dsimp only
    cases he : (etS l).2 with
    | true =>
      have ha := (et_ok he).1
      have ht : l.take 32 = l := List.take_of_length_le (by omega)
      rw [if_neg (show ¬ l.length < 32 by omega), ht, he, if_neg (show ¬ (true = false) by decide), if_pos ha, if_neg (show ¬ (true = false) by decide), if_pos (show false = false from rfl)]
    | false =>
      rw [if_pos (show false = false from rfl)]
      by_cases h32 : l.length < 32
      · rw [if_pos h32]
      rw [if_neg h32]
      by_cases hx : (etS (l.take 32)).2 = false
      · rw [if_pos hx]
      rw [if_neg hx]
      by_cases heq : l.length = 32
      · exfalso
        rw [List.take_of_length_le (by omega)] at hx
        exact hx he
      · have hg : l.getD 32 0 ≠ 45 := by
          intro h
          apply hm
          rw [List.getD_eq_getElem?_getD, List.getElem?_eq_getElem (by omega)] at h
          have h : l[32] = 45 := h
          rw [← h]
          exact List.getElem_mem _
        rw [if_neg heq, if_pos hg]
def rcG (l : List UInt8) (n : Nat) (v3 : List Int × Bool) : Option Int := iteB (!v3.2) (some (0 : Int)) (iteB ((l.length : Int) == (32 : Int)) (some (1 : Int)) (grd ((33 : Int) ≤ (l.length : Int)) ((F59 n (l.drop 33)).bind fun v7 => grd ((32 : Int) < (l.length : Int)) (iteB (((l.getD (32 : Int).toNat 0).toNat : Int) != (45 : Int)) (some (0 : Int)) (iteB (!v7.2) (some (0 : Int)) (iteB (decide (v7.1 < (1 : Int))) (some (0 : Int)) (iteB (decide ((10000 : Int) < v7.1)) (some (0 : Int)) ((F22 n v7.1).bind fun v13 => grd ((33 : Int) ≤ (l.length : Int)) (iteB (!(v13 == (l.drop 33))) (some (0 : Int)) (some v7.1))))))))))
theorem ev_rCount (l : List UInt8) (hl : l.length ≤ 1000000) : Ev (fun n => F42 n l) (countS l) := by
  rw [← count_eq]
  unfold rcountS
  by_cases h32 : l.length < 32
  · rw [if_pos h32]
    exact Ev.pure.congr fun n => by rw [F42, decide_eq_true (by omega), iteB_t]
  rw [if_neg h32]
  have htl : (l.take 32).length ≤ 1000000 := by rw [List.length_take]; omega
  refine ((ev_erSum (l.take 32) htl).bind (g := rcG l) ?_).congr fun n => by rw [F42, decide_eq_false (by omega), iteB_f, grd_t _ (by omega)]; rfl
  cases h2 : (etS (l.take 32)).2 with
  | false => rw [if_pos (show false = false from rfl)]; exact Ev.pure.congr fun n => by rw [rcG, h2]; rfl
  | true =>
    rw [if_neg (show ¬ (true = false) by decide)]
    by_cases he : l.length = 32
    · rw [if_pos he]
      exact Ev.pure.congr fun n => by rw [rcG, h2, Bool.not_true, iteB_f, bqt (show (l.length : Int) = 32 by omega), iteB_t]
    rw [if_neg he]
    have e33 : ∀ n, rcG l n (etS (l.take 32))
        = (F59 n (l.drop 33)).bind fun v7 => iteB (!decide (l.getD 32 0 = 45)) (some (0 : Int)) (iteB (!v7.2) (some (0 : Int)) (iteB (decide (v7.1 < (1 : Int))) (some (0 : Int)) (iteB (decide ((10000 : Int) < v7.1)) (some (0 : Int)) ((F22 n v7.1).bind fun v13 => iteB (!(v13 == (l.drop 33))) (some (0 : Int)) (some v7.1))))) := by
      intro n
      have hq : (((l.getD (32 : Int).toNat 0).toNat : Int) != (45 : Int)) = !decide (l.getD 32 0 = 45) := by
        show (!(((l.getD 32 0).toNat : Int) == 45)) = _
        congr 1
        rw [Bool.eq_iff_iff, beq_iff_eq, decide_eq_true_eq]
        exact ⟨fun h => UInt8.toNat_inj.1 (by show (l.getD 32 0).toNat = 45; omega), fun h => by rw [h]; rfl⟩
      rw [rcG, h2, Bool.not_true, iteB_f, bq (show ¬ (l.length : Int) = 32 by omega), iteB_f, grd_t _ (by omega), hq]
      simp only [show ((32 : Int) < (l.length : Int)) = True from eq_true (by omega), show ((33 : Int) ≤ (l.length : Int)) = True from eq_true (by omega), grd_True]
    by_cases hg : l.getD 32 0 = 45
    · rw [if_neg (show ¬ (l.getD 32 0 ≠ 45) from fun h => h hg)]
      exact (ev_rcnt (l.drop 33)).congr fun n => by rw [e33, decide_eq_true hg]; rfl
    · rw [if_pos hg]
      exact ((ev_rReadDecimal (l.drop 33)).bind (g := fun n v7 => some 0) Ev.pure).congr fun n => by rw [e33, decide_eq_false hg]; rfl
theorem sum_bytes (d : List Int) : Bytes (sumS d) := sumL_bytes _ _ _ _
theorem sum_len (d : List Int) : (sumS d).length = 16 := sumL_len _ _ _ _
theorem decB_bytes : ∀ (n : Nat) (s : List UInt8) (acc : List Int), s.length ≤ n → Bytes acc → Bytes (decB s acc).1 := by
  have hf : ∀ (x : Int) (k : Nat), Bytes (fin3 x k).1 := by
    intro x k
    unfold fin3
    split
    · refine Bytes.take ?_ k
      intro y hy
      simp only [b3, List.mem_cons, List.not_mem_nil, or_false] at hy
      omega
    · exact Bytes.nil
  have ht : ∀ p q r t, Bytes (triS p q r t).1 := by
    intro p q r t
    unfold triS
    split
    · exact Bytes.nil
    split
    · exact hf _ _
    split
    · exact Bytes.nil
    split
    · exact hf _ _
    split
    · exact Bytes.nil
    · exact hf _ _
  intro n
  induction n with
  | zero =>
    intro s acc hn ha
    obtain rfl : s = [] := List.length_eq_zero_iff.1 (by omega)
    rw [decB]
    · exact ha
    · intro p q r t l e; cases e
  | succ n ih =>
    intro s acc hn ha
    match s, hn with
    | [], _ => rw [decB]; exact ha; intro p q r t l e; cases e
    | [_], _ => rw [decB]; exact ha; intro p q r t l e; cases e
    | [_, _], _ => rw [decB]; exact ha; intro p q r t l e; cases e
    | [_, _, _], _ => rw [decB]; exact ha; intro p q r t l e; cases e
    | p :: q :: r :: t :: l, hn =>
      rw [decB]
      split
      · split
        · exact Bytes.nil
        · exact ih l _ (by simp at hn; omega) (ha.append (ht p q r t))
      · exact Bytes.nil
theorem decS_bytes (s : List UInt8) : Bytes (decS s).1 := by
  unfold decS
  split
  · exact Bytes.nil
  · exact decB_bytes s.length s [] (Nat.le_refl _) Bytes.nil
def givenS (v : List UInt8) (d : List Int) : Bool := decide (v = encS (sumS d))
theorem given_eq (v : List UInt8) (d : List Int) : iteB (decS v).2 (some ((decS v).1.map toB == (sumS d).map toB)) (some false) = some (givenS v d) := by
  unfold givenS
  have hb := sum_bytes d
  cases h : decS v with
  | mk b ok =>
    have hbb : Bytes b := by have := decS_bytes v; rw [h] at this; exact this
    cases ok with
    | false =>
      have : ¬ v = encS (sumS d) := by
        intro e
        rw [e, decS_enc hb] at h
        cases (Prod.mk.inj h).2
      rw [decide_eq_false this]; rfl
    | true =>
      have he := decS_only h
      show some (b.map toB == (sumS d).map toB) = _
      congr 1
      rw [Bool.eq_iff_iff, beq_iff_eq, decide_eq_true_eq]
      constructor
      · intro e
        rw [← he, toB_inj hbb hb e]
      · intro e
        rw [e, decS_enc hb] at h
        rw [(Prod.mk.inj h).1]
theorem ev_Given (v : List UInt8) (d : List Int) (hv : v.length ≤ 1000000) (hd : Bytes d) : Ev (fun n => F43 n v d) (givenS v d) := by
  refine ((ev_Decode v hv).bind (g := fun n v1 => (F45 n d).bind fun v2 => grd (v2.length = 16) (iteB v1.2 (grd (v2.length = 16) (some ((v1.1.map toB) == (v2.map toB)))) (some false))) (((ev_Sum hd).bind (g := fun n v2 => grd (v2.length = 16) (iteB (decS v).2 (grd (v2.length = 16) (some (((decS v).1.map toB) == (v2.map toB)))) (some false))) (Ev.const ?_)).congr fun n => rfl)).congr fun n => by rw [F43]
  rw [grd_t _ (sum_len d), grd_t _ (sum_len d)]
  exact given_eq v d
theorem ev_rGiven (v : List UInt8) (d : List Int) (hd : Bytes d) : Ev (fun n => F44 n v d) (givenS v d) := by
  refine ((ev_rSum hd).bind (g := fun n v1 => grd (v1.length = 16) (grd (v1.length = 16) ((F80 n v1).bind fun v5 => some (v == v5)))) (((ev_rEncode (sum_bytes d) (by rw [sum_len]; decide)).bind (g := fun n v5 => some (v == v5)) (Ev.const ?_)).congr fun n => by rw [grd_t _ (sum_len d), grd_t _ (sum_len d)])).congr fun n => by rw [F44]
  unfold givenS
  congr 1
  rw [Bool.eq_iff_iff, beq_iff_eq, decide_eq_true_eq]
theorem law_main (v0 : List Int) (v1 : List UInt8) (h0 : okT52 v0) (h1 : okT9 v1) (h2 : v1.length ≤ 140737488351232) (h3 : v0.length ≤ 140737488351232) : ∃ n, F11 n v0 v1 = some true := by
  have hb : Bytes v0 := fun x hx => h0.2 x hx
  have habc : Bytes [97, 98, 99] := by
    intro x hx
    simp only [List.mem_cons, List.not_mem_nil, or_false] at hx
    omega
  have key : Ev (fun n => F11 n v0 v1) true := by
    have hw : IntKind.wrap .i64 ((v0.length : Int) + (v1.length : Int)) = (v0.length : Int) + (v1.length : Int) := w64 (by omega)
    by_cases h : (900 : Int) < (v0.length : Int) + (v1.length : Int)
    · refine Ev.pure.congr fun n => ?_
      rw [F11, hw, decide_eq_true h, iteB_t]
    · obtain ⟨N1, e1⟩ := ev_eSum v1 (by omega)
      obtain ⟨N2, e2⟩ := ev_erSum v1 (by omega)
      obtain ⟨N3, e3⟩ := ev_Text hb
      obtain ⟨N4, e4⟩ := ev_rText hb
      obtain ⟨N5, e5⟩ := ev_Count v1 (by omega)
      obtain ⟨N6, e6⟩ := ev_rCount v1 (by omega)
      obtain ⟨N7, e7⟩ := ev_Given v1 v0 (by omega) hb
      obtain ⟨N8, e8⟩ := ev_rGiven v1 v0 hb
      obtain ⟨N9, e9⟩ := ev_Text habc
      rw [sum_abc] at e9
      refine ⟨N1 + N2 + N3 + N4 + N5 + N6 + N7 + N8 + N9, fun n hn => ?_⟩
      have q1 := e1 n (by omega)
      have q2 := e2 n (by omega)
      have q3 := e3 n (by omega)
      have q4 := e4 n (by omega)
      have q5 := e5 n (by omega)
      have q6 := e6 n (by omega)
      have q7 := e7 n (by omega)
      have q8 := e8 n (by omega)
      have q9 := e9 n (by omega)
      dsimp only at q1 q2 q3 q4 q5 q6 q7 q8 q9
      show F11 n v0 v1 = _
      rw [F11, hw, decide_eq_false h, iteB_f, q1, bind_some', q2, bind_some', F39, q3, bind_some', bind_some', q4, bind_some', beq_self_eq_true, iteB_t, beq_self_eq_true, iteB_t, beq_self_eq_true, iteB_t, q5, bind_some', q6, bind_some', beq_self_eq_true, iteB_t, q7, bind_some', q8, bind_some', beq_self_eq_true, iteB_t, F39, q9, bind_some', bind_some']
      rfl
  obtain ⟨N, h⟩ := key
  exact ⟨N, h N (Nat.le_refl _)⟩
end Go.Proofs.YtaiapalhdejngaaX

set_option linter.unusedVariables false
namespace Go.Proofs.YtaiapalhdejngaaX
open Go Go.RowKit Go.Proofs
set_option maxRecDepth 100000
theorem shapedRow (xs : List T) (h : ShapesW Try.prog [52, 9] xs) (hsz : ∀ (j : Nat) (t : TypeId) (x : T) (s : ByteArray), ([52, 9] : List TypeId)[j]? = some t → xs[j]? = some x → strIn Try.prog t x s → s.size ≤ reachBytes) (hsl : ∀ (j : Nat) (t e : TypeId) (sz : Nat) (f : Bool) (l : List T), ([52, 9] : List TypeId)[j]? = some t → xs[j]? = some (.sl sz f l) → Try.prog.underlying t = some (.slice e) → l.length * Try.prog.bytesOf e ≤ reachBytes) : FnC Try.prog 11 xs (tb true) := shapedEtagTells law_main xs h hsz hsl
end Go.Proofs.YtaiapalhdejngaaX
namespace Go.Proofs.Ytaiapalhdejngaa.etagTells
open Go.ChangeShapes Go.WideShapes Go.ChangeAt Go.RowKit
set_option linter.unusedVariables false
theorem own : ownKnob Try.prog.godebug = none := by kernel_rfl
set_option maxRecDepth 100000 in
theorem lifted (os : Os) (started : os.Started) (H : Type) (enc : TypeId × Value → H) :
    ReturnsInHanded {} Try.checked os 11 .any (Rows.etagTellsSpec.pre6 enc Try.prog Try.f11 Rows.etagTellsRow.domain false) (Rows.etagTellsSpec.post enc Try.prog Try.f11 false true false false) := by
  refine returnsInHanded_of_change_sized (C := Try.checked) own started (by kernel_rfl) Try.func11
    (ChangeSpec.witness6 (enc := enc) (C := Try.checked) false ⟨#[], #[.slice none 0 0, .string ByteArray.empty], []⟩ 8 (by kernel_rfl) (by kernel_rfl) (by kernel_rfl) (by kernel_rfl)) ?_
  intro W base args ds gs before hval0 hW hcnd hsz0 _
  exact YtaiapalhdejngaaX.row_contract_sz2 (P := Try.prog) (fn := Try.f11) (s := Rows.etagTellsSpec) (ts := [52, 9]) (tb := 4) (L := [52, 9, 5]) (by kernel_rfl) (by kernel_rfl) (by kernel_rfl) (by kernel_rfl) (by kernel_rfl) (by kernel_rfl) rfl
    (fun H ds h => by
      match ds, h with
      | [d0, d1], _ => rfl) YtaiapalhdejngaaX.shapedRow W base args ds gs before hval0 hW hsz0
theorem over : Rows.etagTellsRow.holds Try.pinned (OpenSpec.ofChange Rows.etagTellsSpec) :=
  OpenClaim.holds_of_wide 11 Try.f11 rfl rfl rfl rfl rfl rfl rfl ⟨rfl, rfl, rfl, rfl, rfl⟩ rfl rfl rfl rfl rfl (by kernel_rfl) Try.func11 (by kernel_rfl)
    (of_decide_eq_true (by kernel_rfl)) (by unfold Func.isWrapper; first | (rw [if_pos (by decide +kernel)]; kernel_rfl) | (rw [if_neg (by decide +kernel)]; exact ⟨rfl, rfl⟩))
    (fun os started H enc _ => lifted os started H enc)
theorem proved : Rows.EtagTellsSaid := over
#print axioms proved
end Go.Proofs.Ytaiapalhdejngaa.etagTells
namespace Go.Proofs.Ytaiapalhdejngaa
theorem etagTells_holds : Rows.EtagTellsSaid := etagTells.proved
end Go.Proofs.Ytaiapalhdejngaa
