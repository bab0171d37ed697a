/- Part of the proof of ReplyPuts: walks and plain words, merged. -/
import Derived.Test.YtdjgldjebcoihaaDoorBReplyPutsd
import Derived.Test.YtdjgldjebcoihaaDoorBReplyPutsc
import Derived.Test.YtdjgldjebcoihaaDoorRows
import Derived.Test.YtdjgldjebcoihaaDoorCards
import Derived.Test.YtdjgldjebcoihaaDoorTie
import Derived.Test.YtdjgldjebcoihaaDoorChecked
import Derived.WalkKit
import Derived.ProofKit
import Derived.OpenShut
import Derived.Lay
import Derived.LaidMore
import Derived.LaidOnce
import Derived.SevenTiedAt
set_option linter.unusedVariables false
set_option linter.unusedSimpArgs false

/- Lines of a head: tokens, values, fields, and how they are put; the program's and the reference's. -/
set_option linter.unusedVariables false
set_option linter.unusedSimpArgs false
namespace Go.Proofs.YtdjgldjebcoihaaDoorX
open Go
def sgP : List Int := [33, 35, 36, 37, 38, 39, 42, 43, 45, 46, 94, 95, 96, 124, 126]
def sgR : List UInt8 := [33, 35, 36, 37, 38, 39, 42, 43, 45, 46, 94, 95, 124, 126]
def tokI (x : Int) : Bool := sgP.contains x || (kindOf x != 0)
theorem tok_loop (x : Int) : ∀ (d i : Nat), i + d = 15 → Ev (fun n => F60_L1 n x sgP (i : Int)) ((sgP.drop i).contains x || (kindOf x != 0)) := by
  intro d
  induction d with
  | zero =>
    intro i hi
    obtain rfl : i = 15 := by omega
    exact Ev.step (Ev.pure.congr fun n => by
      rw [F60_L1, decide_eq_false (by omega), iteB_f]; rfl)
  | succ d ih =>
    intro i hi
    have hl : sgP.length = 15 := rfl
    rw [drop_cons sgP i 0 (by omega), List.contains_cons]
    have hg : sgP.getD i default = sgP.getD i 0 := rfl
    by_cases h : sgP.getD i 0 = x
    · refine Ev.step (Ev.pure.congr fun n => ?_)
      rw [F60_L1, decide_eq_true (by omega), iteB_t, toNat_nat, grd_t _ (by omega), hg, h, beq_self_eq_true, iteB_t]; rfl
    · rw [bq (show ¬ x = sgP.getD i 0 from fun e => h e.symm), Bool.false_or]
      refine Ev.step ((ih (i + 1) (by omega)).congr fun n => ?_)
      rw [F60_L1, decide_eq_true (by omega), iteB_t, toNat_nat, grd_t _ (by omega), hg, bq h, iteB_f, g64 i (by omega)]
theorem ev_tok (x : Int) : Ev (fun n => F60 n x) (tokI x) :=
  (tok_loop x 15 0 rfl).congr fun n => rfl
theorem sign_loop (x : Int) : ∀ (d i : Nat), i + d = 14 → Ev (fun n => F52_L1 n x (i : Int)) (((ints sgR).drop i).contains x || (x == 96)) := by
  intro d
  induction d with
  | zero =>
    intro i hi
    obtain rfl : i = 14 := by omega
    exact Ev.step (Ev.pure.congr fun n => by
      rw [F52_L1, decide_eq_false (by omega), iteB_f]; rfl)
  | succ d ih =>
    intro i hi
    have hl : sgR.length = 14 := rfl
    rw [drop_bt sgR i (by omega), List.contains_cons]
    by_cases h : bt sgR i = x
    · refine Ev.step (Ev.pure.congr fun n => ?_)
      rw [F52_L1, decide_eq_true (by omega), iteB_t, toNat_nat, grd_t _ (by omega)]
      show iteB (bt sgR i == x) _ _ = _
      rw [h, beq_self_eq_true, iteB_t]; rfl
    · rw [bq (show ¬ x = bt sgR i from fun e => h e.symm), Bool.false_or]
      refine Ev.step ((ih (i + 1) (by omega)).congr fun n => ?_)
      rw [F52_L1, decide_eq_true (by omega), iteB_t, toNat_nat, grd_t _ (by omega)]
      show iteB (bt sgR i == x) _ _ = _
      rw [bq h, iteB_f, g64 i (by omega)]
theorem tok_fin : ∀ c : Fin 256, (if kindOf (c.val : Int) ≠ 0 then true else (((ints sgR).drop 0).contains (c.val : Int) || ((c.val : Int) == 96))) = tokI (c.val : Int) := by decide +kernel
theorem ev_sign (c : UInt8) : Ev (fun n => F52 n (c.toNat : Int)) (tokI (c.toNat : Int)) := by
  have h := tok_fin ⟨c.toNat, c.toNat_lt⟩
  dsimp only at h
  rw [← h]
  by_cases hk : kindOf (c.toNat : Int) ≠ 0
  · rw [if_pos hk]
    refine Ev.pure.congr fun n => ?_
    rw [F52, rKind_eq, bind_some', show (kindOf (c.toNat : Int) != 0) = true by rw [bne_iff_ne]; exact hk, iteB_t]
  · rw [if_neg hk]
    refine (sign_loop (c.toNat : Int) 14 0 rfl).congr fun n => ?_
    rw [F52, rKind_eq, bind_some', show (kindOf (c.toNat : Int) != 0) = false by rw [bne_eq_false_iff_eq]; exact Decidable.not_not.1 hk, iteB_f]
    rfl
def tokT (s : List UInt8) : Bool := (ints s).all tokI && !(s == [])
theorem Token_loop (s : List UInt8) (hs : s.length ≤ 1000000000) : ∀ (d i : Nat), i + d = s.length →
    Ev (fun n => F45_L1 n s (i : Int)) (((ints s).drop i).all tokI && !(s == [])) ∧ Ev (fun n => F32_L1 n s (i : Int)) (((ints s).drop i).all tokI && !(s == [])) := by
  intro d
  induction d with
  | zero =>
    intro i hi
    rw [List.drop_of_length_le (by rw [ints_len]; omega)]
    refine ⟨Ev.step (Ev.pure.congr fun n => ?_), Ev.step (Ev.pure.congr fun n => ?_)⟩
    · rw [F45_L1, decide_eq_false (by omega), iteB_f]; rfl
    · rw [F32_L1, decide_eq_false (by omega), iteB_f]
      cases s with
      | nil => rfl
      | cons a r => rw [decide_eq_true (by simp)]; rfl
  | succ d ih =>
    intro i hi
    obtain ⟨⟨N1, i1⟩, ⟨N2, i2⟩⟩ := ih (i + 1) (by omega)
    obtain ⟨M1, j1⟩ := ev_tok (bt s i)
    obtain ⟨M2, j2⟩ := ev_sign (s.getD i 0)
    rw [drop_bt s i (by omega), List.all_cons]
    refine ⟨Ev.step ⟨N1 + M1, fun n hn => ?_⟩, Ev.step ⟨N2 + M2, fun n hn => ?_⟩⟩
    · have q1 := i1 n (by omega)
      have q2 := j1 n (by omega)
      dsimp only at q1 q2
      show F45_L1 (n + 1) s (i : Int) = _
      rw [F45_L1, decide_eq_true (by omega), iteB_t, toNat_nat, grd_t _ (by omega), g64 i (by omega)]
      show (F60 n (bt s i)).bind _ = _
      rw [q2, bind_some']
      cases tokI (bt s i) with
      | true => rw [Bool.not_true, iteB_f, q1]; rfl
      | false => rfl
    · have q1 := i2 n (by omega)
      have q2 := j2 n (by omega)
      dsimp only at q1 q2
      show F32_L1 (n + 1) s (i : Int) = _
      rw [F32_L1, decide_eq_true (by omega), iteB_t, toNat_nat, grd_t _ (by omega), g64 i (by omega)]
      rw [q2, bind_some']
      show iteB (!tokI (bt s i)) _ _ = some ((tokI (bt s i) && _) && _)
      cases tokI (bt s i) with
      | true => rw [Bool.not_true, iteB_f, q1]; rfl
      | false => rfl
theorem ev_Token (s : List UInt8) (hs : s.length ≤ 1000000000) : Ev (fun n => F45 n s) (tokT s) := ((Token_loop s hs s.length 0 (by omega)).1).congr fun n => rfl
theorem ev_rToken (s : List UInt8) (hs : s.length ≤ 1000000000) : Ev (fun n => F32 n s) (tokT s) := ((Token_loop s hs s.length 0 (by omega)).2).congr fun n => rfl
def valI (x : Int) : Bool := if x = 9 then true else if x < 32 then false else if x = 127 then false else true
def valT (s : List UInt8) : Bool := (ints s).all valI
theorem Value_loop (s : List UInt8) (hs : s.length ≤ 1000000000) : ∀ (d i : Nat), i + d = s.length →
    Ev (fun n => F46_L1 n s (i : Int)) (((ints s).drop i).all valI) ∧ Ev (fun n => F33_L1 n s (i : Int)) (((ints s).drop i).all valI) := by
  intro d
  induction d with
  | zero =>
    intro i hi
    rw [List.drop_of_length_le (by rw [ints_len]; omega)]
    exact ⟨Ev.step (Ev.pure.congr fun n => by rw [F46_L1, decide_eq_false (by omega), iteB_f]; rfl), Ev.step (Ev.pure.congr fun n => by rw [F33_L1, decide_eq_false (by omega), iteB_f]; rfl)⟩
  | succ d ih =>
    intro i hi
    obtain ⟨⟨N1, i1⟩, ⟨N2, i2⟩⟩ := ih (i + 1) (by omega)
    rw [drop_bt s i (by omega), List.all_cons]
    have key : ∀ (x : Int) (A : Option Bool) (q : Bool), A = some q → iteB (x != 9) (iteB (decide (x < 32)) (some false) (iteB (x == 127) (some false) A)) A = some (valI x && q) := by
      intro x A q hA
      subst hA
      unfold valI
      by_cases h9 : x = 9
      · rw [show (x != 9) = false by rw [h9]; rfl, iteB_f, if_pos h9]; rfl
      · rw [show (x != 9) = true by rw [bne, bq h9]; rfl, iteB_t, if_neg h9]
        by_cases h3 : x < 32
        · rw [decide_eq_true h3, iteB_t, if_pos h3]; rfl
        · rw [decide_eq_false h3, iteB_f, if_neg h3]
          by_cases h1 : x = 127
          · rw [bqt h1, iteB_t, if_pos h1]; rfl
          · rw [bq h1, iteB_f, if_neg h1]; rfl
    refine ⟨Ev.step ⟨N1, fun n hn => ?_⟩, Ev.step ⟨N2, fun n hn => ?_⟩⟩
    · have q1 := i1 n (by omega)
      dsimp only at q1
      show F46_L1 (n + 1) s (i : Int) = _
      rw [F46_L1, decide_eq_true (by omega), iteB_t, toNat_nat, grd_t _ (by omega), g64 i (by omega)]
      exact key (bt s i) _ _ q1
    · have q1 := i2 n (by omega)
      dsimp only at q1
      show F33_L1 (n + 1) s (i : Int) = _
      rw [F33_L1, decide_eq_true (by omega), iteB_t, toNat_nat, g64 i (by omega)]
      simp only [grd_t _ (show 0 ≤ (i : Int) ∧ (i : Int) < (s.length : Int) by omega)]
      exact key (bt s i) _ _ q1
theorem ev_Value (s : List UInt8) (hs : s.length ≤ 1000000000) : Ev (fun n => F46 n s) (valT s) := ((Value_loop s hs s.length 0 (by omega)).1).congr fun n => rfl
theorem ev_rValue (s : List UInt8) (hs : s.length ≤ 1000000000) : Ev (fun n => F33 n s) (valT s) := ((Value_loop s hs s.length 0 (by omega)).2).congr fun n => rfl
def lineT (s : List UInt8) : (List UInt8 × List UInt8) × Bool :=
  if (cutB 58 s).2.2 = true ∧ tokT (cutB 58 s).1 = true ∧ valT (cutB 58 s).2.1 = true then (((cutB 58 s).1, trimT (cutB 58 s).2.1), true) else (([], []), false)
theorem cutB_len (c : UInt8) (s : List UInt8) : (cutB c s).1.length ≤ s.length ∧ (cutB c s).2.1.length ≤ s.length := by
  unfold cutB
  split
  · simp only [List.length_take, List.length_drop]; omega
  · simp
theorem ev_Line (s : List UInt8) (hs : s.length ≤ 1000000) : Ev (fun n => F27 n s) (lineT s) := by
  obtain ⟨l1, l2⟩ := cutB_len 58 s
  obtain ⟨N1, e1⟩ := ev_Token (cutB 58 s).1 (by omega)
  obtain ⟨N2, e2⟩ := ev_Value (cutB 58 s).2.1 (by omega)
  refine ⟨N1 + N2, fun n hn => ?_⟩
  have q1 := e1 n (by omega)
  have q2 := e2 n (by omega)
  dsimp only at q1 q2
  show F27 n s = _
  rw [F27, Cut_eq n s 58 hs, bind_some']
  unfold lineT
  cases h1 : (cutB 58 s).2.2 with
  | false => rw [if_neg (by simp)]; rfl
  | true =>
    rw [Bool.not_true, iteB_f, q1, bind_some']
    cases h2 : tokT (cutB 58 s).1 with
    | false => rw [if_neg (by simp)]; rfl
    | true =>
      rw [Bool.not_true, iteB_f, q2, bind_some']
      cases h3 : valT (cutB 58 s).2.1 with
      | false => rw [if_neg (by simp)]; rfl
      | true => rw [Bool.not_true, iteB_f, Trim_eq n _ (by omega), bind_some', if_pos ⟨rfl, rfl, rfl⟩]
end Go.Proofs.YtdjgldjebcoihaaDoorX

/- The reference's line, and fields that are put. -/
set_option linter.unusedVariables false
set_option linter.unusedSimpArgs false
namespace Go.Proofs.YtdjgldjebcoihaaDoorX
open Go
theorem bt_u8 (s : List UInt8) (i : Nat) (c : UInt8) : (bt s i = (c.toNat : Int)) ↔ s.getD i 0 = c := by
  unfold bt
  exact ⟨fun h => UInt8.toNat_inj.1 (by omega), fun h => by rw [h]⟩
theorem rLine_loop (s : List UInt8) (hs : s.length ≤ 1000000) : ∀ (d i : Nat), i + d = s.length → (58 : UInt8) ∉ s.take i → Ev (fun n => F18_L1 n s (i : Int)) (lineT s) := by
  intro d
  induction d with
  | zero =>
    intro i hi hn
    rw [List.take_of_length_le (by omega)] at hn
    have e : lineT s = (([], []), false) := by unfold lineT; rw [cut_none 58 s hn, if_neg (by simp)]
    rw [e]
    refine Ev.step (Ev.pure.congr fun n => ?_)
    rw [F18_L1, decide_eq_false (by omega), iteB_f, bqt (show (i : Int) = (s.length : Int) by omega), iteB_t]
  | succ d ih =>
    intro i hi hn
    by_cases h : s.getD i 0 = 58
    · have hsp : s = s.take i ++ 58 :: s.drop (i + 1) := by
        conv => lhs; rw [← List.take_append_drop i s, drop_cons s i 0 (by omega), h]
      have hc : cutB 58 s = (s.take i, s.drop (i + 1), true) := by
        conv => lhs; rw [hsp]
        exact cut_app 58 _ _ hn
      obtain ⟨N1, e1⟩ := ev_rToken (s.take i) (by rw [List.length_take]; omega)
      obtain ⟨N2, e2⟩ := ev_rValue (s.drop (i + 1)) (by rw [List.length_drop]; omega)
      obtain ⟨N3, e3⟩ := ev_trim (s.drop (i + 1)) (by rw [List.length_drop]; omega)
      refine Ev.step ⟨N1 + N2 + N3, fun n hn' => ?_⟩
      have q1 := e1 n (by omega)
      have q2 := e2 n (by omega)
      have q3 := e3 n (by omega)
      dsimp only at q1 q2 q3
      show F18_L1 (n + 1) s (i : Int) = _
      have hb : (((s.getD i 0).toNat : Int) != 58) = false := by rw [h]; rfl
      rw [F18_L1, decide_eq_true (by omega), iteB_t, g64 i (by omega), toNat_nat, toNat_nat, hb, bq (show ¬ (i : Int) = (s.length : Int) by omega)]
      simp only [grd_t _ (show 0 ≤ (i : Int) ∧ (i : Int) < (s.length : Int) by omega), grd_t _ (show 0 ≤ (i : Int) ∧ (i : Int) ≤ (s.length : Int) by omega), grd_t _ (show 0 ≤ ((i + 1 : Nat) : Int) ∧ ((i + 1 : Nat) : Int) ≤ (s.length : Int) by omega), iteB_f]
      rw [q1, bind_some']
      unfold lineT
      rw [hc]
      dsimp only
      cases h2 : tokT (s.take i) with
      | false => rw [if_neg (by simp)]; rfl
      | true =>
        rw [Bool.not_true, iteB_f, q2, bind_some']
        cases h3 : valT (s.drop (i + 1)) with
        | false => rw [if_neg (by simp)]; rfl
        | true => rw [Bool.not_true, iteB_f, q3, bind_some', if_pos ⟨rfl, rfl, rfl⟩]
    · have hn' : (58 : UInt8) ∉ s.take (i + 1) := by
        rw [List.take_add_one, List.mem_append]
        rintro (e | e)
        · exact hn e
        · rw [List.getD_eq_getElem?_getD] at h
          cases hg : s[i]? with
          | none => rw [hg] at e; simp at e
          | some x => rw [hg] at e h; simp at e; exact h e.symm
      refine Ev.step ((ih (i + 1) (by omega) hn').congr fun n => ?_)
      have hb : (((s.getD i 0).toNat : Int) != 58) = true := by
        rw [bne_iff_ne]; intro e; exact h ((bt_u8 s i 58).1 e)
      rw [F18_L1, decide_eq_true (by omega), iteB_t, g64 i (by omega), toNat_nat, hb, iteB_t, grd_t _ (by omega)]
theorem ev_rLine (s : List UInt8) (hs : s.length ≤ 1000000) : Ev (fun n => F18 n s) (lineT s) :=
  (rLine_loop s hs s.length 0 (by omega) (by simp)).congr fun n => rfl
/-! ### Fields that are put -/
abbrev Fld := List UInt8 × List UInt8
def put1 (f : Fld) : List UInt8 := f.1 ++ [58, 32] ++ f.2 ++ [13, 10]
def putT (l : List Fld) : List UInt8 := l.flatMap put1
theorem put1_len (f : Fld) : (put1 f).length = f.1.length + f.2.length + 4 := by simp [put1]; omega
theorem ints_app (a b : List UInt8) : ints (a ++ b) = ints a ++ ints b := by simp [ints]
theorem toB_ints (s : List UInt8) : (ints s).map toB = s := (of_ints rfl).symm
theorem Put_loop (l : List Fld) (hl : l.length ≤ 1000000) : ∀ (d i : Nat) (b : Bool) (t : List UInt8), i + d = l.length → t.length + (putT (l.drop i)).length ≤ 1000000 →
    Ev (fun n => F17_L1 n l (i : Int) b (ints t)) (t ++ putT (l.drop i)) ∧ Ev (fun n => F21_L1 n l t (i : Int)) (t ++ putT (l.drop i)) := by
  intro d
  induction d with
  | zero =>
    intro i b t hi ht
    rw [List.drop_of_length_le (by omega), show putT [] = [] from rfl, List.append_nil]
    refine ⟨Ev.step (Ev.pure.congr fun n => ?_), Ev.step (Ev.pure.congr fun n => ?_)⟩
    · rw [F17_L1, decide_eq_false (by omega), iteB_f, bld_String n b _ (ints_bytes t) (by rw [ints_len]; omega), bind_some', toB_ints]
    · rw [F21_L1, decide_eq_false (by omega), iteB_f]
  | succ d ih =>
    intro i b t hi ht
    have hd : l.drop i = l.getD i default :: l.drop (i + 1) := drop_cons l i default (by omega)
    rw [hd] at ht ⊢
    generalize hf : l.getD i default = f at ht ⊢
    have hp : putT (f :: l.drop (i + 1)) = put1 f ++ putT (l.drop (i + 1)) := rfl
    rw [hp] at ht ⊢
    rw [List.length_append, put1_len] at ht
    obtain ⟨⟨N1, i1⟩, ⟨N2, i2⟩⟩ := ih (i + 1) true (t ++ put1 f) (by omega) (by rw [List.length_append, put1_len]; omega)
    rw [List.append_assoc] at i1 i2
    refine ⟨Ev.step ⟨N1, fun n hn => ?_⟩, Ev.step ⟨N2, fun n hn => ?_⟩⟩
    · have q1 := i1 n hn
      dsimp only at q1
      show F17_L1 (n + 1) l (i : Int) b (ints t) = _
      rw [F17_L1, decide_eq_true (by omega), iteB_t, toNat_nat, hf, g64 i (by omega), grd_t _ (by omega), grd_t _ (by omega), grd_t _ (by omega), grd_t _ (by omega)]
      show (F30 n (b, ints t) (put1 f)).bind _ = _
      rw [bld_Write n b _ _ (by rw [ints_len, put1_len]; omega), bind_some']
      dsimp only
      rw [← ints_app, q1]
    · have q1 := i2 n hn
      dsimp only at q1
      show F21_L1 (n + 1) l t (i : Int) = _
      rw [F21_L1, decide_eq_true (by omega), iteB_t, toNat_nat, hf, g64 i (by omega), grd_t _ (by omega), grd_t _ (by omega), grd_t _ (by omega), grd_t _ (by omega), grd_t _ (by omega), grd_t _ (by omega)]
      rw [show ((t ++ f.1 ++ [58, 32]) ++ f.2) ++ [13, 10] = t ++ put1 f by simp [put1, List.append_assoc]]
      exact q1
end Go.Proofs.YtdjgldjebcoihaaDoorX

/- Small letters, plainly. -/
set_option linter.unusedVariables false
set_option linter.unusedSimpArgs false
namespace Go.Proofs.YtdjgldjebcoihaaDoorX
open Go
def lowI (x : Int) : Int := if kindOf x = 4 then x + 32 else x
def lowT (s : List UInt8) : List UInt8 := ((ints s).map lowI).map toB
theorem low_wrap {x : Int} (h : kindOf x = 4) : IntKind.wrap .u8 (x + 32) = x + 32 := by
  unfold kindOf at h
  refine wu8 ?_
  repeat' split at h
  all_goals first | omega | (simp at h)
end Go.Proofs.YtdjgldjebcoihaaDoorX

/- Small letters: hex.Lower, and the reference's. -/
set_option linter.unusedVariables false
set_option linter.unusedSimpArgs false
namespace Go.Proofs.YtdjgldjebcoihaaDoorX
open Go
theorem rlow_loop (s : List UInt8) (hs : s.length ≤ 1000000000) : ∀ (d i : Nat) (l : List Int), i + d = s.length → l = ((ints s).take i).map lowI → Ev (fun n => F19_L1 n s (i : Int) l) (lowT s) := by
  intro d
  induction d with
  | zero =>
    intro i l hi hl
    rw [List.take_of_length_le (by rw [ints_len]; omega)] at hl
    subst hl
    refine Ev.step (Ev.pure.congr fun n => ?_)
    rw [F19_L1, decide_eq_false (by omega), iteB_f]; rfl
  | succ d ih =>
    intro i l hi hl
    have hll : l.length = i := by rw [hl, List.length_map, List.length_take, ints_len]; omega
    have htk : l ++ [lowI (bt s i)] = ((ints s).take (i + 1)).map lowI := by
      rw [hl, List.take_add_one, List.map_append]
      congr 1
      have h := ints_get s i
      rw [List.getD_eq_getElem?_getD] at h
      rw [List.getElem?_eq_getElem (by rw [ints_len]; omega)] at h ⊢
      simp only [Option.getD_some] at h
      simp [h]
    refine Ev.step ((ih (i + 1) _ (by omega) htk).congr fun n => ?_)
    rw [F19_L1, decide_eq_true (by omega), iteB_t, toNat_nat, grd_t _ (by omega), g64 i (by omega), rKind_eq, bind_some']
    show iteB (kindOf (bt s i) == 4) (grd _ (F19_L1 n s _ (l ++ [IntKind.wrap .u8 (bt s i + 32)]))) (grd _ (F19_L1 n s _ (l ++ [bt s i]))) = _
    by_cases h4 : kindOf (bt s i) = 4
    · rw [show (kindOf (bt s i) == 4) = true by rw [h4]; rfl, iteB_t, low_wrap h4, show lowI (bt s i) = bt s i + 32 from if_pos h4, grd_t _ (by omega)]
    · rw [show (kindOf (bt s i) == 4) = false from bq h4, iteB_f, show lowI (bt s i) = bt s i from if_neg h4, grd_t _ (by omega)]
theorem ev_rLower (s : List UInt8) (hs : s.length ≤ 1000000000) : Ev (fun n => F19 n s) (lowT s) :=
  (rlow_loop s hs s.length 0 [] (by omega) rfl).congr fun n => rfl
end Go.Proofs.YtdjgldjebcoihaaDoorX

/- hex.Decimal: what it answers. -/
set_option linter.unusedVariables false
set_option linter.unusedSimpArgs false
namespace Go.Proofs.YtdjgldjebcoihaaDoorX
open Go
def dgR (n : Nat) : List Int := if n < 10 then [48 + (n : Int)] else (48 + ((n % 10 : Nat) : Int)) :: dgR (n / 10)
theorem dgR_lt {n : Nat} (h : n < 10) : dgR n = [48 + (n : Int)] := by rw [dgR, if_pos h]
theorem dgR_ge {n : Nat} (h : ¬ n < 10) : dgR n = (48 + ((n % 10 : Nat) : Int)) :: dgR (n / 10) := by rw [dgR, if_neg h]
theorem dgR_len : ∀ (k n : Nat), n < 10 ^ (k + 1) → (dgR n).length ≤ k + 1
  | 0, n, h => by rw [dgR_lt (by omega)]; simp
  | k + 1, n, h => by
    by_cases h1 : n < 10
    · rw [dgR_lt h1]; simp
    · rw [dgR_ge h1, List.length_cons]
      have := dgR_len k (n / 10) (by rw [Nat.pow_succ] at h; omega)
      omega
def decI (n : Int) : List Int := (if n < 0 then dgR n.natAbs ++ [45] else dgR n.natAbs).reverse
def decT (n : Int) : List UInt8 := (decI n).map toB
def rvI (l0 : List Int) (i : Nat) (l : List Int) : Prop := l.length = l0.length ∧ ∀ k, k < l0.length → l.getD k 0 = if k < i ∨ l0.length - i ≤ k then l0.getD (l0.length - 1 - k) 0 else l0.getD k 0
theorem rv_end {l0 l : List Int} {i : Nat} (h : rvI l0 i l) (hi : l0.length ≤ 2 * i + 1) : l = l0.reverse := by
  obtain ⟨h1, h2⟩ := h
  apply List.ext_getElem
  · rw [h1, List.length_reverse]
  · intro k hk1 hk2
    have hk : k < l0.length := by omega
    have h3 := h2 k hk
    rw [List.getD_eq_getElem?_getD, List.getElem?_eq_getElem hk1] at h3
    rw [List.getElem_reverse]
    rw [show l[k] = (some l[k]).getD 0 from rfl, h3]
    split
    · rw [List.getD_eq_getElem?_getD, List.getElem?_eq_getElem (by omega)]; rfl
    · have e : l0.length - 1 - k = k := by omega
      rw [List.getD_eq_getElem?_getD, List.getElem?_eq_getElem (by omega)]
      simp only [e]; rfl
theorem rv_step {l0 l : List Int} {i j : Nat} (h : rvI l0 i l) (hj : i + j + 1 = l0.length) (hij : i < j) : rvI l0 (i + 1) ((l.set i (l.getD j 0)).set j (l.getD i 0)) := by
  obtain ⟨h1, h2⟩ := h
  refine ⟨by simp [h1], fun k hk => ?_⟩
  have gi := h2 i (by omega)
  have gj := h2 j (by omega)
  rw [if_neg (by omega)] at gi gj
  rw [List.getD_eq_getElem?_getD, List.getElem?_set]
  by_cases hkj : j = k
  · subst hkj
    rw [if_pos rfl, List.length_set, if_pos (by omega), Option.getD_some, gi, if_pos (by omega), show l0.length - 1 - j = i by omega]
  · rw [if_neg hkj, List.getElem?_set]
    by_cases hki : i = k
    · subst hki
      rw [if_pos rfl, if_pos (by omega), Option.getD_some, gj, if_pos (by omega), show l0.length - 1 - i = j by omega]
    · rw [if_neg hki, ← List.getD_eq_getElem?_getD, h2 k hk]
      by_cases hc : k < i ∨ l0.length - i ≤ k
      · rw [if_pos hc, if_pos (by omega)]
      · rw [if_neg hc, if_neg (by omega)]
theorem ev_rev (l0 : List Int) (hl : l0.length ≤ 1000) : ∀ (d i : Nat) (l : List Int), l0.length ≤ 2 * i + d → i ≤ l0.length → rvI l0 i l →
    Ev (fun n => F16_L4 n (i : Int) ((l0.length : Int) - 1 - i) l) (l0.reverse.map toB) := by
  intro d
  induction d with
  | zero =>
    intro i l hd hi h
    refine Ev.step (Ev.pure.congr fun n => ?_)
    have d1 : decide ((i : Int) < (l0.length : Int) - 1 - i) = false := decide_eq_false (by omega)
    simp only [F16_L4, d1, iteB_f]
    rw [rv_end h (by omega)]
  | succ d ih =>
    intro i l hd hi h
    refine Ev.step ?_
    by_cases hlt : (i : Int) < (l0.length : Int) - 1 - i
    · obtain ⟨j, hj⟩ : ∃ j : Nat, (l0.length : Int) - 1 - i = j := ⟨((l0.length : Int) - 1 - i).toNat, by omega⟩
      have d1 : decide ((i : Int) < (j : Int)) = true := decide_eq_true (by omega)
      have hll := h.1
      have w1 : IntKind.wrap .i64 ((i : Int) + 1) = ((i + 1 : Nat) : Int) := by rw [w64 (by omega)]; omega
      have w2 : IntKind.wrap .i64 ((j : Int) - 1) = (l0.length : Int) - 1 - ((i + 1 : Nat) : Int) := by rw [w64 (by omega)]; omega
      have e := ih (i + 1) _ (by omega) (by omega) (rv_step (j := j) h (by omega) (by omega))
      rw [hj]
      refine e.congr fun n => ?_
      simp only [F16_L4, d1, iteB_t, toNat_nat, w1, w2]
      have g1 : (0 ≤ (j : Int) ∧ (j : Int) < (l.length : Int)) := by omega
      have g2 : (0 ≤ (i : Int) ∧ (i : Int) < (l.length : Int)) := by omega
      have g3 : j < l.length := by omega
      have g4 : i < l.length := by omega
      rw [grd_t _ g1, grd_t _ g3, grd_t _ g2, grd_t _ g4, grd_t _ g2, grd_t _ g4, grd_t _ g1, grd_t _ g3]
      rfl
    · refine Ev.pure.congr fun n => ?_
      have d1 : decide ((i : Int) < (l0.length : Int) - 1 - i) = false := decide_eq_false hlt
      simp only [F16_L4, d1, iteB_f]
      rw [rv_end h (by omega)]
theorem ev_J3 (l : List Int) (h0 : 0 < l.length) (hl : l.length ≤ 1000) : Ev (fun n => F16_J3 n l) (l.reverse.map toB) := by
  have w1 : IntKind.wrap .i64 ((l.length : Int) - 1) = (l.length : Int) - 1 - ((0 : Nat) : Int) := by rw [w64 (by omega)]; omega
  refine (ev_rev l hl l.length 0 l (by omega) (by omega) ⟨rfl, fun k hk => by rw [if_neg (by omega)]⟩).congr fun n => ?_
  simp only [F16_J3, w1]; rfl
theorem digitAt (r : Nat) (h : r < 10) : ((([48, 49, 50, 51, 52, 53, 54, 55, 56, 57, 97, 98, 99, 100, 101, 102] : List UInt8).getD r 0).toNat : Int) = 48 + r := by
  have : ∀ r : Fin 10, ((([48, 49, 50, 51, 52, 53, 54, 55, 56, 57, 97, 98, 99, 100, 101, 102] : List UInt8).getD r.val 0).toNat : Int) = 48 + r.val := by decide
  exact this ⟨r, h⟩
theorem ev_digs (a : Int) : ∀ (k m : Nat) (l : List Int), m < 10 ^ (k + 1) → m < 10000000000000000000 → l.length + k ≤ 100 → Ev (fun n => F16_L2 n a (m : Int) l) ((if a < 0 then l ++ dgR m ++ [45] else l ++ dgR m).reverse.map toB) := by
  intro k
  induction k with
  | zero =>
    intro m l hm hb hl
    have hm' : m < 10 := by omega
    refine Ev.step ?_
    have e1 : (m : Int).tmod 10 = m := by rw [Int.tmod_eq_emod_of_nonneg (by omega)]; omega
    have e2 : (m : Int).tdiv 10 = 0 := by rw [Int.tdiv_eq_ediv_of_nonneg (by omega)]; omega
    have e3 : (IntKind.wrap .u64 0 == (0 : Int)) = true := by rw [wu64 (by omega)]; rfl
    rw [dgR_lt hm']
    by_cases ha : a < 0
    · rw [if_pos ha]
      refine (ev_J3 (l ++ [48 + (m : Int)] ++ [45]) (by simp) (by simp; omega)).congr fun n => ?_
      simp only [F16_L2, e1, e2, e3, toNat_nat, digitAt m hm', decide_eq_true ha, iteB_t]
      rw [grd_t _ (by omega), grd_t _ (by omega), grd_t _ (by omega)]
    · rw [if_neg ha]
      refine (ev_J3 (l ++ [48 + (m : Int)]) (by simp) (by simp; omega)).congr fun n => ?_
      simp only [F16_L2, e1, e2, e3, toNat_nat, digitAt m hm', decide_eq_false ha, iteB_t, iteB_f]
      rw [grd_t _ (by omega), grd_t _ (by omega)]
  | succ k ih =>
    intro m l hm hb hl
    by_cases hm' : m < 10
    · have := ih m l (by have : 10 ^ 1 ≤ 10 ^ (k + 1) := Nat.pow_le_pow_right (by omega) (by omega); omega) hb (by omega)
      exact this
    refine Ev.step ?_
    have e1 : (m : Int).tmod 10 = ((m % 10 : Nat) : Int) := by rw [Int.tmod_eq_emod_of_nonneg (by omega)]; omega
    have e2 : (m : Int).tdiv 10 = ((m / 10 : Nat) : Int) := by rw [Int.tdiv_eq_ediv_of_nonneg (by omega)]; omega
    have e4 : IntKind.wrap .u64 ((m / 10 : Nat) : Int) = ((m / 10 : Nat) : Int) := wu64 (by omega)
    have e3 : (((m / 10 : Nat) : Int) == (0 : Int)) = false := by rw [beq_eq_false_iff_ne]; omega
    have := ih (m / 10) (l ++ [48 + ((m % 10 : Nat) : Int)]) (by rw [Nat.pow_succ] at hm; omega) (by omega) (by simp; omega)
    rw [dgR_ge hm']
    rw [show (if a < 0 then l ++ (48 + ((m % 10 : Nat) : Int)) :: dgR (m / 10) ++ [45] else l ++ (48 + ((m % 10 : Nat) : Int)) :: dgR (m / 10)) = (if a < 0 then l ++ [48 + ((m % 10 : Nat) : Int)] ++ dgR (m / 10) ++ [45] else l ++ [48 + ((m % 10 : Nat) : Int)] ++ dgR (m / 10)) by simp]
    refine this.congr fun n => ?_
    simp only [F16_L2, e1, e2, e4, e3, toNat_nat, digitAt (m % 10) (by omega), iteB_f]
    rw [grd_t _ (by omega), grd_t _ (by omega)]
theorem ev_Decimal (a : Int) (h : -9223372036854775808 ≤ a ∧ a ≤ 9223372036854775807) : Ev (fun n => F16 n a) (decT a) := by
  have hd := ev_digs a 19 a.natAbs [] (by omega) (by omega) (by simp)
  simp only [List.nil_append] at hd
  unfold decT decI
  refine hd.congr fun n => ?_
  have hw : ∀ x : Int, IntKind.wrap .u64 x = x % 18446744073709551616 := fun x => rfl
  by_cases ha : a < 0
  · have e : IntKind.wrap .u64 (0 - IntKind.wrap .u64 a) = (a.natAbs : Int) := by rw [hw, hw]; omega
    simp only [F16, F16_J1, decide_eq_true ha, iteB_t, e]
  · have e : IntKind.wrap .u64 a = (a.natAbs : Int) := by rw [hw]; omega
    simp only [F16, F16_J1, decide_eq_false ha, iteB_f, e]
end Go.Proofs.YtdjgldjebcoihaaDoorX

/- The reference's decimal numbers. -/
set_option linter.unusedVariables false
set_option linter.unusedSimpArgs false
namespace Go.Proofs.YtdjgldjebcoihaaDoorX
open Go
theorem rDig_fin : ∀ r : Fin 10, ((([48, 49, 50, 51, 52, 53, 54, 55, 56, 57, 97, 98, 99, 100, 101, 102] : List UInt8).take (r.val + 1)).drop r.val) = [toB (48 + (r.val : Int))] := by decide +kernel
theorem rDig_eq (n r : Nat) (h : r < 10) : F36 n (r : Int) = some [toB (48 + (r : Int))] := by
  have w1 : IntKind.wrap .i64 ((r : Int) + 1) = ((r + 1 : Nat) : Int) := by rw [w64 (by omega)]; omega
  rw [F36, w1, grd_t _ (by omega), toNat_nat, toNat_nat]
  exact congrArg some (rDig_fin ⟨r, h⟩)
theorem rDec_nat (j : Nat) : ∀ (k n : Nat), n < 10 ^ (k + 1) → k ≤ 18 → n ≤ 9223372036854775807 → F20 (j + k + 1) (n : Int) = some ((dgR n).reverse.map toB)
  | k, n, h, hk, hb => by
    by_cases h1 : n < 10
    · rw [dgR_lt h1, F20, decide_eq_true (by omega), iteB_t, decide_eq_true (by omega), iteB_t, rDig_eq (j + k) n h1, bind_some']; rfl
    · match k, h, hk with
      | 0, h, _ => omega
      | k + 1, h, hk =>
        have h2 : n / 10 < 10 ^ (k + 1) := by
          have : n < 10 ^ (k + 1) * 10 := by rw [← Nat.pow_succ]; exact h
          omega
        have e := rDec_nat j k (n / 10) h2 (by omega) (by omega)
        have q1 : IntKind.wrap .i64 ((n : Int).tdiv 10) = ((n / 10 : Nat) : Int) := by rw [Int.tdiv_eq_ediv_of_nonneg (by omega), w64 (by omega)]; omega
        have q2 : ((n : Int).tmod 10) = ((n % 10 : Nat) : Int) := by rw [Int.tmod_eq_emod_of_nonneg (by omega)]; omega
        have hl := dgR_len k (n / 10) h2
        have e2 : F20 (j + (k + 1) + 1) (n : Int) = ((some ((dgR (n / 10)).reverse.map toB)).bind fun v => (some [toB (48 + ((n % 10 : Nat) : Int))]).bind fun d => grd (v.length + d.length ≤ 9223372036854775807) (some (v ++ d))) := by
          rw [F20, decide_eq_true (by omega), iteB_t, decide_eq_false (by omega), iteB_f, decide_eq_false (by omega), iteB_f, q1, show j + (k + 1) = j + k + 1 from rfl, e, q2, rDig_eq (j + k + 1) (n % 10) (by omega)]
        rw [e2, bind_some', bind_some', grd_t _ (by simp; omega), dgR_ge h1, List.reverse_cons, List.map_append]; rfl
theorem ev_rneg (a : Nat) : ∀ (k m : Nat) (out : List UInt8), m < 10 ^ k → k ≤ 20 → m ≤ 9223372036854775808 → out.length + k ≤ 100 → Ev (fun n => F20_L2 n (-(m : Int)) out) (45 :: ((if m = 0 then [] else (dgR m).reverse.map toB) ++ out)) := by
  intro k
  induction k with
  | zero =>
    intro m out hm hk hb ho
    obtain rfl : m = 0 := by omega
    rw [if_pos rfl]
    refine Ev.step (Ev.pure.congr fun n => ?_)
    rw [F20_L2, decide_eq_false (by omega), iteB_f, grd_t _ (by omega)]; rfl
  | succ k ih =>
    intro m out hm hk hb ho
    by_cases h0 : m = 0
    · subst h0
      rw [if_pos rfl]
      refine Ev.step (Ev.pure.congr fun n => ?_)
      rw [F20_L2, decide_eq_false (by omega), iteB_f, grd_t _ (by omega)]; rfl
    · have h2 : m / 10 < 10 ^ k := by
        have : m < 10 ^ k * 10 := by rw [← Nat.pow_succ]; exact hm
        omega
      have e := ih (m / 10) ([toB (48 + ((m % 10 : Nat) : Int))] ++ out) h2 (by omega) (by omega) (by simp; omega)
      have q1 : IntKind.wrap .i64 (Int.tdiv (-(m : Int)) 10) = -((m / 10 : Nat) : Int) := by
        rw [Int.neg_tdiv, Int.tdiv_eq_ediv_of_nonneg (by omega), w64 (by omega)]; omega
      have q2 : IntKind.wrap .i64 (0 - Int.tmod (-(m : Int)) 10) = ((m % 10 : Nat) : Int) := by
        rw [Int.neg_tmod, Int.tmod_eq_emod_of_nonneg (by omega), w64 (by omega)]; omega
      rw [if_neg h0]
      have hres : (45 : UInt8) :: ((if m / 10 = 0 then [] else (dgR (m / 10)).reverse.map toB) ++ ([toB (48 + ((m % 10 : Nat) : Int))] ++ out)) = 45 :: ((dgR m).reverse.map toB ++ out) := by
        by_cases h1 : m < 10
        · rw [if_pos (by omega), dgR_lt h1, show m % 10 = m by omega]; rfl
        · rw [if_neg (by omega), dgR_ge h1, List.reverse_cons, List.map_append, List.append_assoc]; rfl
      rw [hres] at e
      refine Ev.step (e.congr fun n => ?_)
      rw [F20_L2, decide_eq_true (by omega), iteB_t, q2, rDig_eq n (m % 10) (by omega), bind_some', grd_t _ (by simp; omega), q1]
theorem ev_rDecimal (a : Int) (h : -9223372036854775808 ≤ a ∧ a ≤ 9223372036854775807) : Ev (fun n => F20 n a) (decT a) := by
  unfold decT decI
  by_cases h0 : a < 0
  · obtain ⟨m, hm⟩ : ∃ m : Nat, a = -(m : Int) := ⟨a.natAbs, by omega⟩
    subst hm
    have e := ev_rneg m 20 m [] (by omega) (by omega) (by omega) (by simp)
    rw [if_neg (by omega), List.append_nil] at e
    rw [if_pos h0, List.reverse_append, show (-(m : Int)).natAbs = m by omega]
    refine Ev.step (e.congr fun n => ?_)
    rw [F20, decide_eq_false (by omega), iteB_f, decide_eq_true h0, iteB_t]
  · obtain ⟨m, rfl⟩ := Int.eq_ofNat_of_zero_le (show 0 ≤ a by omega)
    rw [if_neg h0, show ((m : Int)).natAbs = m by omega]
    refine ⟨19, fun n hn => ?_⟩
    obtain ⟨k, rfl⟩ : ∃ k, n = k + 19 := ⟨n - 19, by omega⟩
    exact rDec_nat k 18 m (by omega) (by omega) (by omega)
end Go.Proofs.YtdjgldjebcoihaaDoorX

/- Responses that are put: the program's and the reference's. -/
set_option linter.unusedVariables false
set_option linter.unusedSimpArgs false
namespace Go.Proofs.YtdjgldjebcoihaaDoorX
open Go
/-! ### Small letters, and texts that are alike but for great ones -/
def lowB (c : UInt8) : UInt8 := toB (lowI (ofB c))
theorem lowB_nat (c : UInt8) : (lowB c).toNat = if 65 ≤ c.toNat ∧ c.toNat ≤ 90 then c.toNat + 32 else c.toNat := by
  have hc := c.toNat_lt
  have key : ∀ x : Fin 256, (toB (lowI (x.val : Int))).toNat = if 65 ≤ x.val ∧ x.val ≤ 90 then x.val + 32 else x.val := by decide +kernel
  exact key ⟨c.toNat, hc⟩
theorem lowT_map (s : List UInt8) : lowT s = s.map lowB := by
  unfold lowT ints
  rw [List.map_map, List.map_map]
  rfl
theorem foldEq_low (x y : UInt8) : Lib.foldEq x y = (lowB x == lowB y) := by
  have h : (lowB x = lowB y) ↔ (x.toNat = y.toNat ∨ (65 ≤ x.toNat ∧ x.toNat ≤ 90 ∧ y.toNat = x.toNat + 32) ∨ (65 ≤ y.toNat ∧ y.toNat ≤ 90 ∧ x.toNat = y.toNat + 32)) := by
    rw [← UInt8.toNat_inj, lowB_nat, lowB_nat]
    split <;> split <;> omega
  unfold Lib.foldEq
  rw [Bool.eq_iff_iff, decide_eq_true_eq, beq_iff_eq, h]
theorem fold_low : ∀ s t : List UInt8, Lib.equalFold s t = (s.map lowB == t.map lowB)
  | [], [] => rfl
  | [], _ :: _ => rfl
  | _ :: _, [] => rfl
  | x :: s, y :: t => by
    rw [Lib.equalFold, foldEq_low, fold_low s t]
    rfl
def CL : List UInt8 := [67, 111, 110, 116, 101, 110, 116, 45, 76, 101, 110, 103, 116, 104]
def clT : List UInt8 := [99, 111, 110, 116, 101, 110, 116, 45, 108, 101, 110, 103, 116, 104]
theorem fold_cl (s : List UInt8) : Lib.equalFold s CL = (lowT s == clT) := by
  rw [fold_low, lowT_map, show CL.map lowB = clT by decide +kernel]
theorem tok_ascii {s : List UInt8} (h : tokT s = true) : (s.all fun b => decide (b.toNat < 128)) = true := by
  unfold tokT at h
  rw [Bool.and_eq_true] at h
  have key : ∀ x : Fin 256, tokI (x.val : Int) = true → x.val < 128 := by decide +kernel
  rw [List.all_eq_true]
  intro c hc
  rw [decide_eq_true_eq]
  have := List.all_eq_true.1 h.1 (ofB c) (List.mem_map_of_mem hc)
  exact key ⟨c.toNat, c.toNat_lt⟩ this
theorem line_tok {s : List UInt8} (h : (lineT s).2 = true) : tokT (lineT s).1.1 = true := by
  unfold lineT at h ⊢
  split at h
  · rename_i k
    rw [if_pos k]; exact k.2.1
  · cases h
/-! ### Fields that may not be put -/
def fldBad (f : Fld) : Bool := !(lineT ((f.1 ++ [58]) ++ f.2)).2 || (!(((lineT ((f.1 ++ [58]) ++ f.2)).1.1 == f.1) && ((lineT ((f.1 ++ [58]) ++ f.2)).1.2 == f.2)) || (lowT f.1 == clT))
theorem ev_odd (f : Fld) (hf : f.1.length + f.2.length ≤ 100000) : Ev (fun n => F26 n f) (fldBad f) := by
  have e := ev_Line ((f.1 ++ [58]) ++ f.2) (by simp; omega)
  unfold fldBad
  refine ((e.bind (g := fun n v3 => iteB (!v3.2) (some true) (iteB (!((v3.1.1 == f.1) && (v3.1.2 == f.2))) (some true) ((F28 n f.1 CL).bind fun v6 => some v6))) ?_)).congr fun n => by rw [F26, grd_t _ (by omega), grd_t _ (by omega)]; rfl
  generalize hv : lineT ((f.1 ++ [58]) ++ f.2) = v
  cases h2 : v.2 with
  | false => exact Ev.pure
  | true =>
    cases h3 : (v.1.1 == f.1) && (v.1.2 == f.2) with
    | false => exact Ev.pure
    | true =>
      have h4 := tok_ascii (line_tok (hv ▸ h2))
      rw [hv] at h4
      rw [Bool.and_eq_true, beq_iff_eq] at h3
      rw [h3.1] at h4
      refine Ev.pure.congr fun n => ?_
      show iteB false (some true) (iteB false (some true) ((F28 n f.1 CL).bind fun v6 => some v6)) = some (false || (false || (lowT f.1 == clT)))
      rw [iteB_f, iteB_f, Bool.false_or, Bool.false_or, F28, if_pos ⟨by omega, h4, by decide⟩, bind_some', fold_cl]
theorem ev_findF (l : List Fld) (hl : l.length ≤ 100000) (hf : ∀ f ∈ l, f.1.length + f.2.length ≤ 100000) : ∀ (d i : Nat), i + d = l.length → ∃ v : Int, Ev (fun n => F27000050_L1 n l (i : Int)) v ∧ decide ((0 : Int) ≤ v) = (l.drop i).any fldBad
  | 0, i, hi => by
    rw [List.drop_of_length_le (by omega)]
    exact ⟨-1, Ev.step (Ev.pure.congr fun n => by rw [F27000050_L1, decide_eq_false (by omega), iteB_f]), rfl⟩
  | d + 1, i, hi => by
    have hm : l.getD i default ∈ l := by
      rw [List.getD_eq_getElem?_getD, List.getElem?_eq_getElem (by omega)]
      exact List.getElem_mem _
    rw [drop_cons l i default (by omega), List.any_cons]
    have e := ev_odd (l.getD i default) (hf _ hm)
    have u : ∀ n, F27000050_L1 (n + 1) l (i : Int) = (F26 n (l.getD i default)).bind fun v4 => iteB v4 (some (i : Int)) (F27000050_L1 n l ((i + 1 : Nat) : Int)) := by
      intro n
      rw [F27000050_L1, decide_eq_true (by omega), iteB_t, grd_t _ (by omega), toNat_nat, g64 i (by omega)]
    cases hb : fldBad (l.getD i default) with
    | true =>
      rw [hb] at e
      exact ⟨(i : Int), Ev.step ((e.bind (g := fun n v4 => iteB v4 (some (i : Int)) (F27000050_L1 n l ((i + 1 : Nat) : Int))) Ev.pure).congr fun n => by rw [u]), by rw [Bool.true_or, decide_eq_true (by omega)]⟩
    | false =>
      rw [hb] at e
      obtain ⟨v, e2, h2⟩ := ev_findF l hl hf d (i + 1) (by omega)
      exact ⟨v, Ev.step ((e.bind (g := fun n v4 => iteB v4 (some (i : Int)) (F27000050_L1 n l ((i + 1 : Nat) : Int))) (e2.congr fun n => rfl)).congr fun n => by rw [u]), by rw [Bool.false_or, h2]⟩
theorem ev_anyBad (l : List Fld) (hl : l.length ≤ 100000) (hf : ∀ f ∈ l, f.1.length + f.2.length ≤ 100000) : Ev (fun n => F27000029 n l) (l.any fldBad) := by
  obtain ⟨v, e, h⟩ := ev_findF l hl hf l.length 0 (by omega)
  rw [List.drop_zero] at h
  rw [← h]
  exact (e.bind (g := fun n v1 => some (decide ((0 : Int) ≤ v1))) Ev.pure).congr fun n => by rw [F27000029, F27000050]; rfl
/-! ### Responses -/
abbrev Resp := Int × List Fld × List Int
def noBody (c : Int) : Bool := if c = 204 then true else (c == 304)
theorem empty_eq (n : Nat) (c : Int) : F15 n c = some (noBody c) := by
  rw [F15]
  unfold noBody
  by_cases h : c = 204
  · rw [bqt h, iteB_t, if_pos h]
  · rw [bq h, iteB_f, if_neg h]
def headP (c : Int) (l : List Fld) : List UInt8 := (((((([72, 84, 84, 80, 47, 49, 46, 49, 32] : List UInt8) ++ decT c) ++ ([32] : List UInt8)) ++ reasonT c) ++ ([13, 10] : List UInt8)) ++ putT l) ++ ([13, 10] : List UInt8)
def fldsT (r : Resp) : List Fld := if noBody r.1 = true then r.2.1 else r.2.1 ++ [(CL, decT (r.2.2.length : Int))]
def replyT (r : Resp) (bare : Bool) : List Int := if reasonT r.1 = [] then [] else if r.2.1.any fldBad = true then [] else if (bare || noBody r.1) = true then (headP r.1 (fldsT r)).map ofB else (headP r.1 (fldsT r)).map ofB ++ r.2.2
theorem ev_right (r : Resp) (hl : r.2.1.length ≤ 100000) (hf : ∀ f ∈ r.2.1, f.1.length + f.2.length ≤ 100000) : Ev (fun n => F13 n r) (!(reasonT r.1 == []) && !(r.2.1.any fldBad)) := by
  have e := ev_anyBad r.2.1 hl hf
  have u : ∀ n, F13 n r = iteB (!(reasonT r.1 == [])) ((F27000029 n r.2.1).bind fun v3 => some (!v3)) (some false) := by
    intro n
    rw [F13, Reason_eq, bind_some']
  cases h : (!(reasonT r.1 == [])) with
  | false => exact Ev.pure.congr fun n => by rw [u, h, iteB_f]; rfl
  | true => exact ((e.bind (g := fun n v3 => some (!v3)) Ev.pure).congr fun n => by rw [u, h, iteB_t])
theorem dec_len (c : Int) (h : 0 ≤ c) (hc : c ≤ 1000000000000000) : (decT c).length ≤ 20 := by
  obtain ⟨m, rfl⟩ := Int.eq_ofNat_of_zero_le h
  have hx : Int.natAbs (m : Int) = m := Int.natAbs_natCast m
  unfold decT decI
  rw [if_neg (by omega), hx, List.length_map, List.length_reverse]
  have := dgR_len 17 m (by omega)
  omega
theorem ev_hPut (l : List Fld) (hl : l.length ≤ 1000000) (hp : (putT l).length ≤ 1000000) : Ev (fun n => F17 n l) (putT l) ∧ Ev (fun n => F21 n l) (putT l) := by
  obtain ⟨e1, e2⟩ := Put_loop l hl l.length 0 false [] (by omega) (by simpa using hp)
  exact ⟨e1.congr fun n => rfl, e2.congr fun n => rfl⟩
theorem putT_app (a b : List Fld) : putT (a ++ b) = putT a ++ putT b := by unfold putT; rw [List.flatMap_append]
theorem ev_J (r : Resp) (bare : Bool) (l : List Fld) (hr : reasonT r.1 ≠ []) (hl : l.length ≤ 1000000) (hp : (putT l).length ≤ 1000000) (hb : r.2.2.length ≤ 100000) : Ev (fun n => F7_J1 n bare r l) (if (bare || noBody r.1) = true then (headP r.1 l).map ofB else (headP r.1 l).map ofB ++ r.2.2) := by
  have hc := reason_code r.1 hr
  have hrl := reason_len r.1
  have hd := dec_len r.1 hc.1 (by omega)
  obtain ⟨N1, e1⟩ := ev_Decimal r.1 (by omega)
  obtain ⟨N2, e2⟩ := (ev_hPut l hl hp).1
  refine ⟨N1 + N2, fun n hn => ?_⟩
  have q1 := e1 n (by omega)
  have q2 := e2 n (by omega)
  dsimp only at q1 q2
  show F7_J1 n bare r l = _
  rw [F7_J1, q1, bind_some', grd_t _ (by omega), grd_t _ (by omega), Reason_eq, bind_some', grd_t _ (by omega), grd_t _ (by omega), q2, bind_some', grd_t _ (by omega), grd_t _ (by omega), empty_eq, bind_some', grd_t _ (by omega)]
  cases bare with
  | true => rfl
  | false =>
    cases noBody r.1 <;> rfl
theorem ev_Put (r : Resp) (bare : Bool) (hl : r.2.1.length ≤ 10000) (hf : ∀ f ∈ r.2.1, f.1.length + f.2.length ≤ 100000) (hp : (putT r.2.1).length ≤ 100000) (hb : r.2.2.length ≤ 100000) : Ev (fun n => F7 n r bare) (replyT r bare) := by
  obtain ⟨N1, e1⟩ := ev_right r (by omega) hf
  unfold replyT
  by_cases hr : reasonT r.1 = []
  · rw [if_pos hr]
    refine ⟨N1, fun n hn => ?_⟩
    have q1 := e1 n (by omega)
    dsimp only at q1
    show F7 n r bare = _
    rw [F7]
    show (F13 n r).bind _ = _
    rw [q1, hr]; rfl
  · rw [if_neg hr]
    have hrb : (reasonT r.1 == []) = false := beq_eq_false_iff_ne.2 hr
    by_cases ha : r.2.1.any fldBad = true
    · rw [if_pos ha]
      refine ⟨N1, fun n hn => ?_⟩
      have q1 := e1 n (by omega)
      dsimp only at q1
      show F7 n r bare = _
      rw [F7]
      show (F13 n r).bind _ = _
      rw [q1, hrb, ha]; rfl
    · rw [if_neg ha]
      have haf : r.2.1.any fldBad = false := by simpa using ha
      have hdl := dec_len (r.2.2.length : Int) (by omega) (by omega)
      have hp2 : (putT (fldsT r)).length ≤ 1000000 := by
        unfold fldsT
        split
        · omega
        · rw [putT_app, List.length_append]
          have : (putT [(CL, decT (r.2.2.length : Int))]).length = 14 + (decT (r.2.2.length : Int)).length + 4 := by
            show (put1 (CL, decT (r.2.2.length : Int)) ++ []).length = _
            rw [List.append_nil, put1_len]; rfl
          omega
      have hl2 : (fldsT r).length ≤ 1000000 := by
        unfold fldsT
        split
        · omega
        · rw [List.length_append]; simp; omega
      obtain ⟨N2, e2⟩ := ev_J r bare (fldsT r) hr hl2 hp2 hb
      obtain ⟨N3, e3⟩ := ev_Decimal (r.2.2.length : Int) (by omega)
      refine ⟨N1 + N2 + N3, fun n hn => ?_⟩
      have q1 := e1 n (by omega)
      have q2 := e2 n (by omega)
      have q3 := e3 n (by omega)
      dsimp only at q1 q2 q3
      show F7 n r bare = _
      rw [F7]
      show (F13 n r).bind _ = _
      rw [q1, hrb, haf, bind_some']
      show ((F14 n r.2.1).bind _) = _
      rw [F14, if_pos (by omega), bind_some', empty_eq, bind_some']
      unfold fldsT at q2 ⊢
      cases hn : noBody r.1 with
      | true =>
        rw [hn] at q2
        exact q2
      | false =>
        rw [hn] at q2
        rw [Bool.not_false, iteB_t, q3, bind_some', grd_t _ (by omega)]
        exact q2
end Go.Proofs.YtdjgldjebcoihaaDoorX

/- ReplyPuts: the reference's responses, and the law. -/
set_option linter.unusedVariables false
set_option linter.unusedSimpArgs false
namespace Go.Proofs.YtdjgldjebcoihaaDoorX
open Go
theorem ints_ofB (l : List Int) (h : Bytes l) : (l.map toB).map ofB = l := ints_toB h
def headR (c : Int) (l : List Fld) : List UInt8 := ((((([72, 84, 84, 80, 47, 49, 46, 49, 32] : List UInt8) ++ decT c) ++ ([32] : List UInt8)) ++ reasonT c) ++ ([13, 10] : List UInt8)) ++ putT l
theorem head_R (c : Int) (l : List Fld) : headR c l ++ [13, 10] = headP c l := rfl
theorem head_len (c : Int) (l : List Fld) : (headR c l).length = 9 + (decT c).length + 1 + (reasonT c).length + 2 + (putT l).length := by
  unfold headR; simp only [List.length_append, List.length_cons, List.length_nil]; try omega
theorem head_cl (c : Int) (l : List Fld) (d : List UInt8) : (((headR c l ++ ([67, 111, 110, 116, 101, 110, 116, 45, 76, 101, 110, 103, 116, 104, 58, 32] : List UInt8)) ++ d) ++ ([13, 10] : List UInt8)) = headR c (l ++ [(CL, d)]) := by
  unfold headR
  rw [putT_app, show putT [(CL, d)] = put1 (CL, d) by simp [putT]]
  unfold put1 CL
  simp only [List.append_assoc, List.cons_append, List.nil_append]
theorem ev_rJ3 (r : Resp) (bare : Bool) (x : List UInt8) (h304 : ¬ r.1 = 304) (hx : x.length ≤ 1000000) (hb : r.2.2.length ≤ 100000) (hB : Bytes r.2.2) (n : Nat) : F8_J3 n bare r x = some (if bare = true then (x ++ [13, 10]).map ofB else (x ++ [13, 10]).map ofB ++ r.2.2) := by
  rw [F8_J3, grd_t _ (by omega), bq h304, Bool.not_false, iteB_t, grd_t _ (by omega)]
  cases bare with
  | true => rfl
  | false =>
    rw [Bool.not_false, iteB_t, List.map_append (l₁ := x ++ [13, 10]), ints_ofB _ hB]
    rfl
theorem ev_rTail (r : Resp) (bare : Bool) (hl : r.2.1.length ≤ 10000) (hr : reasonT r.1 ≠ []) (hp : (putT r.2.1).length ≤ 100000) (hb : r.2.2.length ≤ 100000) (hB : Bytes r.2.2) : Ev (fun n => F8_L1 n bare r ((r.2.1.length : Nat) : Int)) (if (bare || noBody r.1) = true then (headP r.1 (fldsT r)).map ofB else (headP r.1 (fldsT r)).map ofB ++ r.2.2) := by
  have hc := reason_code r.1 hr
  have hrl := reason_len r.1
  have hd := dec_len r.1 hc.1 (by omega)
  have hdl := dec_len (r.2.2.length : Int) (by omega) (by omega)
  have hhl := head_len r.1 r.2.1
  obtain ⟨N1, e1⟩ := ev_rDecimal r.1 (by omega)
  obtain ⟨N2, e2⟩ := ev_rReason r.1
  obtain ⟨N3, e3⟩ := (ev_hPut r.2.1 (by omega) (by omega)).2
  obtain ⟨N4, e4⟩ := ev_rDecimal (r.2.2.length : Int) (by omega)
  refine Ev.step ⟨N1 + N2 + N3 + N4, fun n hn => ?_⟩
  have q1 := e1 n (by omega)
  have q2 := e2 n (by omega)
  have q3 := e3 n (by omega)
  have q4 := e4 n (by omega)
  dsimp only at q1 q2 q3 q4
  show F8_L1 (n + 1) bare r ((r.2.1.length : Nat) : Int) = _
  rw [F8_L1, decide_eq_false (by omega), iteB_f, q1, bind_some', grd_t _ (by omega), grd_t _ (by omega), q2, bind_some', grd_t _ (by omega), grd_t _ (by omega), q3, bind_some', grd_t _ (by omega)]
  by_cases h204 : r.1 = 204
  · have hn : noBody r.1 = true := by unfold noBody; rw [if_pos h204]
    rw [bqt h204, iteB_t, F8_J2, grd_t _ (by omega)]
    unfold fldsT
    rw [hn, Bool.or_true, if_pos rfl, if_pos rfl]; rfl
  · rw [bq h204, iteB_f]
    by_cases h304 : r.1 = 304
    · have hn : noBody r.1 = true := by unfold noBody; rw [if_neg h204]; exact bqt h304
      rw [bqt h304, Bool.not_true, iteB_f]
      show F8_J3 n bare r (headR r.1 r.2.1) = _
      rw [F8_J3, grd_t _ (by omega), bqt h304, Bool.not_true, iteB_f]
      unfold fldsT
      rw [hn, Bool.or_true, if_pos rfl, if_pos rfl]; rfl
    · have hn : noBody r.1 = false := by unfold noBody; rw [if_neg h204]; exact bq h304
      rw [bq h304, Bool.not_false, iteB_t, grd_t _ (by omega), q4, bind_some', grd_t _ (by omega), grd_t _ (by omega)]
      show F8_J3 n bare r (((headR r.1 r.2.1 ++ ([67, 111, 110, 116, 101, 110, 116, 45, 76, 101, 110, 103, 116, 104, 58, 32] : List UInt8)) ++ decT (r.2.2.length : Int)) ++ ([13, 10] : List UInt8)) = _
      rw [ev_rJ3 r bare _ h304 (by simp only [List.length_append, List.length_cons, List.length_nil]; omega) hb hB n, head_cl, head_R]
      unfold fldsT
      rw [hn, Bool.or_false, if_neg (show ¬ (false = true) by decide)]
theorem ev_rPutL (r : Resp) (bare : Bool) (hl : r.2.1.length ≤ 10000) (hf : ∀ f ∈ r.2.1, f.1.length + f.2.length ≤ 100000) {X : List Int} (et : Ev (fun n => F8_L1 n bare r ((r.2.1.length : Nat) : Int)) X) : ∀ (d i : Nat), i + d = r.2.1.length → Ev (fun n => F8_L1 n bare r (i : Int)) (if (r.2.1.drop i).any fldBad = true then [] else X)
  | 0, i, hi => by
    obtain rfl : i = r.2.1.length := by omega
    rw [List.drop_length]
    exact et
  | d + 1, i, hi => by
    have hm : r.2.1.getD i default ∈ r.2.1 := by
      rw [List.getD_eq_getElem?_getD, List.getElem?_eq_getElem (by omega)]
      exact List.getElem_mem _
    have hff := hf _ hm
    rw [drop_cons r.2.1 i default (by omega), List.any_cons]
    have u : ∀ n, F8_L1 (n + 1) bare r (i : Int) = (F18 n (((r.2.1.getD i default).1 ++ ([58] : List UInt8)) ++ (r.2.1.getD i default).2)).bind fun v9 => iteB (!v9.2) (some []) (iteB (!((v9.1.1 == ((r.2.1.getD i default).1)) && (v9.1.2 == ((r.2.1.getD i default).2)))) (some []) ((F19 n v9.1.1).bind fun v13 => iteB (v13 == clT) (some []) (F8_L1 n bare r ((i + 1 : Nat) : Int)))) := by
      intro n
      have hg : (0 ≤ (i : Int) ∧ (i : Int) < (r.2.1.length : Int)) = True := eq_true (by omega)
      simp only [F8_L1, decide_eq_true (show (i : Int) < (r.2.1.length : Int) by omega), iteB_t, hg, grd_True, toNat_nat, grd_t _ (show (r.2.1.getD i default).1.length + 1 ≤ 9223372036854775807 by omega), grd_t _ (show (r.2.1.getD i default).1.length + 1 + (r.2.1.getD i default).2.length ≤ 9223372036854775807 by omega), g64 i (by omega), clT]
    have ih := ev_rPutL r bare hl hf et d (i + 1) (by omega)
    generalize r.2.1.getD i default = f at u hff ⊢
    have e1 := ev_rLine ((f.1 ++ [58]) ++ f.2) (by simp; omega)
    unfold fldBad
    generalize hv : lineT ((f.1 ++ [58]) ++ f.2) = v at e1 ⊢
    refine Ev.step ((e1.bind (g := fun n v9 => iteB (!v9.2) (some []) (iteB (!((v9.1.1 == f.1) && (v9.1.2 == f.2))) (some []) ((F19 n v9.1.1).bind fun v13 => iteB (v13 == clT) (some []) (F8_L1 n bare r ((i + 1 : Nat) : Int))))) ?_).congr fun n => by rw [u])
    cases h2 : v.2 with
    | false => exact Ev.pure
    | true =>
      cases h3 : (v.1.1 == f.1) && (v.1.2 == f.2) with
      | false => exact Ev.pure
      | true =>
        rw [Bool.and_eq_true, beq_iff_eq] at h3
        have e2 := ev_rLower f.1 (by omega)
        rw [h3.1]
        refine (e2.bind (g := fun n v13 => iteB (v13 == clT) (some []) (F8_L1 n bare r ((i + 1 : Nat) : Int))) ?_).congr fun n => rfl
        cases h4 : (lowT f.1 == clT) with
        | true => exact Ev.pure
        | false => exact ih.congr fun n => rfl
theorem ev_rPut (r : Resp) (bare : Bool) (hl : r.2.1.length ≤ 10000) (hf : ∀ f ∈ r.2.1, f.1.length + f.2.length ≤ 100000) (hp : (putT r.2.1).length ≤ 100000) (hb : r.2.2.length ≤ 100000) (hB : Bytes r.2.2) : Ev (fun n => F8 n r bare) (replyT r bare) := by
  unfold replyT
  have e0 := ev_rReason r.1
  by_cases hr : reasonT r.1 = []
  · rw [if_pos hr]
    refine (e0.bind (g := fun n v1 => iteB (v1 == []) (some []) (F8_L1 n bare r (0 : Int))) ?_).congr fun n => by rw [F8]
    rw [hr]; exact Ev.pure
  · rw [if_neg hr]
    refine (e0.bind (g := fun n v1 => iteB (v1 == []) (some []) (F8_L1 n bare r (0 : Int))) ?_).congr fun n => by rw [F8]
    rw [show (reasonT r.1 == []) = false from beq_eq_false_iff_ne.2 hr]
    have := ev_rPutL r bare hl hf (ev_rTail r bare hl hr hp hb hB) r.2.1.length 0 (by omega)
    rw [List.drop_zero] at this
    exact this.congr fun n => rfl
/-! ### Responses that are not too long -/
theorem own_loop (r : Resp) : ∀ (k i : Nat) (x : Int) (acc : List Fld), i + k = r.2.1.length → acc = r.2.1.take i → 10 * (i : Int) ≤ x → x ≤ 10000 → ∃ v, Ev (fun n => F6_L1 n r x (i : Int) acc) v ∧ (v.2 = true → v.1 = r ∧ x + ((putT (r.2.1.drop i)).length : Int) + 6 * (k : Int) ≤ 3000)
  | 0, i, x, acc, hi, ha, h0, h1 => by
    refine ⟨((r.1, acc, r.2.2), decide (x < 3000)), Ev.step (Ev.pure.congr fun n => by rw [F6_L1, decide_eq_false (by omega), iteB_f]), fun h => ?_⟩
    have hx : x < 3000 := of_decide_eq_true h
    rw [List.drop_of_length_le (by omega)]
    refine ⟨?_, ?_⟩
    · rw [ha, List.take_of_length_le (by omega)]
    · show x + (0 : Int) + 0 ≤ 3000
      omega
  | k + 1, i, x, acc, hi, ha, h0, h1 => by
    by_cases hx : x < 3000
    · have hal : acc.length = i := by rw [ha, List.length_take]; omega
      have htk : acc ++ [r.2.1.getD i default] = r.2.1.take (i + 1) := by
        rw [ha, List.take_succ_eq_append_getElem (by omega), List.getD_eq_getElem?_getD, List.getElem?_eq_getElem (by omega)]; rfl
      obtain ⟨p, hp0, hp1, hp⟩ : ∃ p : Nat, p ≤ 3000 ∧ (p < 3000 → p = (r.2.1.getD i default).1.length) ∧ (if (3000 : Int) < (((r.2.1.getD i default).1).length : Int) then (3000 : Int) else (((r.2.1.getD i default).1).length : Int)) = (p : Int) := by
        split
        · exact ⟨3000, by omega, by omega, rfl⟩
        · exact ⟨_, by omega, fun _ => rfl, rfl⟩
      obtain ⟨q, hq0, hq1, hq⟩ : ∃ q : Nat, q ≤ 3000 ∧ (q < 3000 → q = (r.2.1.getD i default).2.length) ∧ (if (3000 : Int) < (((r.2.1.getD i default).2).length : Int) then (3000 : Int) else (((r.2.1.getD i default).2).length : Int)) = (q : Int) := by
        split
        · exact ⟨3000, by omega, by omega, rfl⟩
        · exact ⟨_, by omega, fun _ => rfl, rfl⟩
      have hw : IntKind.wrap .i64 (IntKind.wrap .i64 (IntKind.wrap .i64 (x + 10) + (p : Int)) + (q : Int)) = x + 10 + p + q := by
        rw [w64 (n := x + 10) (by omega), w64 (n := x + 10 + p) (by omega), w64 (by omega)]
      have u : ∀ n, F6_L1 (n + 1) r x (i : Int) acc = F6_L1 n r (x + 10 + p + q) ((i + 1 : Nat) : Int) (acc ++ [r.2.1.getD i default]) := by
        intro n
        rw [F6_L1, decide_eq_true (by omega), iteB_t, decide_eq_true hx, iteB_t, grd_t _ (by omega), grd_t _ (by omega), grd_t _ (by omega), grd_t _ (by omega), toNat_nat, hp, hq, hw, g64 i (by omega)]
      obtain ⟨v, e, h⟩ := own_loop r k (i + 1) (x + 10 + p + q) (acc ++ [r.2.1.getD i default]) (by omega) htk (by omega) (by omega)
      refine ⟨v, Ev.step (e.congr fun n => u n), fun hv => ?_⟩
      obtain ⟨h2, h3⟩ := h hv
      refine ⟨h2, ?_⟩
      rw [drop_cons r.2.1 i default (by omega), show putT (r.2.1.getD i default :: r.2.1.drop (i + 1)) = put1 (r.2.1.getD i default) ++ putT (r.2.1.drop (i + 1)) from rfl, List.length_append, put1_len]
      have := hp1 (by omega)
      have := hq1 (by omega)
      omega
    · refine ⟨((r.1, acc, r.2.2), decide (x < 3000)), Ev.step (Ev.pure.congr fun n => by rw [F6_L1, decide_eq_true (by omega), iteB_t, decide_eq_false hx, iteB_f]), fun h => ?_⟩
      exact absurd (of_decide_eq_true h) hx
theorem put_mem : ∀ (l : List Fld) (f : Fld), f ∈ l → f.1.length + f.2.length ≤ (putT l).length
  | [], f, h => by cases h
  | g :: l, f, h => by
    rw [show putT (g :: l) = put1 g ++ putT l from rfl, List.length_append, put1_len]
    rcases List.mem_cons.1 h with rfl | h
    · omega
    · have := put_mem l f h
      omega
theorem ev_own (r : Resp) : ∃ v, Ev (fun n => F6 n r) v ∧ (v.2 = true → v.1 = r ∧ r.2.1.length ≤ 3000 ∧ (putT r.2.1).length ≤ 3000 ∧ r.2.2.length ≤ 3000) := by
  obtain ⟨p, hp0, hp1, hp⟩ : ∃ p : Nat, p ≤ 3000 ∧ (p < 3000 → p = r.2.2.length) ∧ (if (3000 : Int) < (r.2.2.length : Int) then (3000 : Int) else (r.2.2.length : Int)) = (p : Int) := by
    split
    · exact ⟨3000, by omega, by omega, rfl⟩
    · exact ⟨_, by omega, fun _ => rfl, rfl⟩
  by_cases h30 : p < 3000
  · obtain ⟨v, e, h⟩ := own_loop r r.2.1.length 0 (p : Int) [] (by omega) rfl (by omega) (by omega)
    refine ⟨v, e.congr fun n => by rw [F6, hp]; rfl, fun hv => ?_⟩
    obtain ⟨h2, h3⟩ := h hv
    rw [List.drop_zero] at h3
    have := hp1 h30
    exact ⟨h2, by omega, by omega, by omega⟩
  · obtain rfl : p = 3000 := by omega
    refine ⟨((r.1, [], r.2.2), false), Ev.congr (g := fun n => F6_L1 n r (3000 : Int) (0 : Int) []) (Ev.step (Ev.pure.congr fun n => ?_)) (fun n => by rw [F6, hp]; rfl), fun h => by cases h⟩
    rw [F6_L1]
    cases decide ((0 : Int) < (r.2.1.length : Int)) <;> rfl
theorem reply_204 : (replyT ((204 : Int), [], []) false).map toB = (72 :: 84 :: 84 :: 80 :: 47 :: 49 :: 46 :: 49 :: 32 :: 50 :: 48 :: 52 :: 32 :: 78 :: 111 :: 32 :: 67 :: 111 :: 110 :: 116 :: 101 :: 110 :: 116 :: 13 :: 10 :: 13 :: 10 :: ([] : List UInt8)) := by
  have hd : dgR 204 = [52, 48, 50] := by
    rw [dgR_ge (by decide), dgR_ge (by decide), dgR_lt (by decide)]; rfl
  have hdec : decT 204 = [50, 48, 52] := by
    unfold decT decI
    rw [if_neg (by decide), show Int.natAbs 204 = 204 from rfl, hd]; rfl
  unfold replyT
  rw [if_neg (by decide), if_neg (by decide), if_pos (by decide)]
  unfold headP
  rw [hdec]
  decide
theorem law_main (v0 : Resp) (v1 : Bool) (h0 : okT24 v0) (h1 : okT4 v1) : ∃ n, F3 n v0 v1 = some true := by
  have hB : Bytes v0.2.2 := fun x hx => h0.2.2.2 x hx
  have key : Ev (fun n => F3 n v0 v1) true := by
    obtain ⟨w, ⟨N1, e1⟩, hw⟩ := ev_own v0
    cases hf : w.2 with
    | false =>
      refine ⟨N1, fun n hn => ?_⟩
      have q1 := e1 n (by omega)
      dsimp only at q1
      show F3 n v0 v1 = _
      rw [F3]
      show (F6 n v0).bind _ = _
      rw [q1, bind_some', hf, Bool.not_false, iteB_t]
    | true =>
      obtain ⟨hwr, hl, hp, hb⟩ := hw hf
      have hff : ∀ f ∈ v0.2.1, f.1.length + f.2.length ≤ 100000 := fun f hm => by have := put_mem _ _ hm; omega
      obtain ⟨N2, e2⟩ := ev_Put v0 v1 (by omega) hff (by omega) (by omega)
      obtain ⟨N3, e3⟩ := ev_rPut v0 v1 (by omega) hff (by omega) (by omega) hB
      obtain ⟨N4, e4⟩ := ev_rReason v0.1
      obtain ⟨N5, e5⟩ := ev_Put ((204 : Int), [], []) false (by decide) (fun f hm => by cases hm) (by decide) (by decide)
      refine ⟨N1 + N2 + N3 + N4 + N5, fun n hn => ?_⟩
      have q1 := e1 n (by omega)
      have q2 := e2 n (by omega)
      have q3 := e3 n (by omega)
      have q4 := e4 n (by omega)
      have q5 := e5 n (by omega)
      dsimp only at q1 q2 q3 q4 q5
      show F3 n v0 v1 = _
      rw [F3]
      show (F6 n v0).bind _ = _
      rw [q1, bind_some', hf, Bool.not_true, iteB_f]
      show (F7 n v0 v1).bind _ = _
      rw [q2, bind_some', hwr]
      show (F8 n v0 v1).bind _ = _
      rw [q3, bind_some', beq_self_eq_true, iteB_t, Reason_eq, bind_some', q4, bind_some', beq_self_eq_true, iteB_t, q5, bind_some', reply_204, beq_self_eq_true]
  obtain ⟨N, h⟩ := key
  exact ⟨N, h N (Nat.le_refl _)⟩
end Go.Proofs.YtdjgldjebcoihaaDoorX

set_option linter.unusedVariables false
namespace Go.Proofs.YtdjgldjebcoihaaDoorX
open Go Go.RowKit Go.Proofs
set_option maxRecDepth 100000
theorem shapedRow (xs : List T) (h : ShapesW Tryd.prog [25, 4] xs) : FnC Tryd.prog 3 xs (tb true) := shapedReplyPuts law_main xs h
end Go.Proofs.YtdjgldjebcoihaaDoorX
namespace Go.Proofs.YtdjgldjebcoihaaDoor.replyPuts
open Go.ChangeShapes Go.WideShapes Go.ChangeAt Go.RowKit
set_option linter.unusedVariables false
theorem own : ownKnob Tryd.prog.godebug = none := by kernel_rfl
set_option maxRecDepth 100000 in
theorem lifted (os : Os) (started : os.Started) (H : Type) (enc : TypeId × Value → H) :
    ReturnsInHanded {} Tryd.checked os 3 .any (fun w args => (Rows.replyPutsSpec.pre enc Tryd.prog Tryd.f3 [] false w args ∧ laidMetH Tryd.prog Rows.replyPutsRow.laid w) ∧ sizedMet enc Tryd.prog Tryd.f3 (OpenSpec.ofChange Rows.replyPutsSpec) false w args) (Rows.replyPutsSpec.post enc Tryd.prog Tryd.f3 false true false false) := by
  refine returnsInHanded_of_change_and (C := Tryd.checked) (X := fun w _ => laidMetH Tryd.prog Rows.replyPutsRow.laid w) (fun _ _ _ hh h => h.of_heap hh) own started (by kernel_rfl) Tryd.func3
    (ChangeSpec.witness_shaped (enc := enc) (C := Tryd.checked) (os := os) (X := fun w _ => laidMetH Tryd.prog Rows.replyPutsRow.laid w) false (World.laidAll Tryd.prog os Rows.replyPutsRow.laid) #[.agg #[.int .i64 0, .slice none 0 0, .slice none 0 0], .bool false] 8 (World.laidAll_os _ _ _)
      (World.shaped_of_ZipB (by kernel_rfl) (by kernel_rfl)) (by kernel_rfl) (by kernel_rfl) (by kernel_rfl)
      (by rw [MakeChecks.laidMetH_plain _ _ _ (by kernel_rfl)]; exact laidMet_laidAll _ (by kernel_rfl) (by kernel_rfl))) ?_
  intro W base args ds gs before hval0 hW _ _ hL _
  exact YtdjgldjebcoihaaDoorX.row_contract (P := Tryd.prog) (fn := Tryd.f3) (s := Rows.replyPutsSpec) (ts := [25, 4]) (tb := 4) (L := [25, 4, 24, 3, 22, 23, 42, 5, 41, 9]) (by kernel_rfl) (by kernel_rfl) (by kernel_rfl) (by kernel_rfl) (by kernel_rfl) (by kernel_rfl) rfl
    (fun H ds h => by
      match ds, h with
      | [d0, d1], _ => rfl) YtdjgldjebcoihaaDoorX.shapedRow W base args ds gs before hval0 hW
theorem over : Rows.replyPutsRow.holds Tryd.pinned (OpenSpec.ofChange Rows.replyPutsSpec) :=
  OpenClaim.holds_of_wide 3 Tryd.f3 rfl rfl rfl rfl rfl rfl rfl ⟨rfl, rfl, rfl, rfl, rfl⟩ rfl rfl rfl rfl rfl (by kernel_rfl) Tryd.func3 (by kernel_rfl)
    (of_decide_eq_true (by kernel_rfl)) (by unfold Func.isWrapper; first | (rw [if_pos (by decide +kernel)]; kernel_rfl) | (rw [if_neg (by decide +kernel)]; exact ⟨rfl, rfl⟩))
    (fun os started H enc _ => lifted os started H enc)
theorem proved : Rows.ReplyPutsCardSaid :=
  Claim7.holds_tied_plain_at .later [] [.data, .data, .data, .pinned, .pinned] true (true, "9f903d9744eead5d891a575418bd49f4fe7da4948cfcbb1d1a1f46a6d277e3c8") false
    over (fun _ h => by cases h) (by kernel_rfl) (fun _ h => by cases h) replyPuts_row_tie rfl ⟨rfl, rfl⟩ (by kernel_rfl) rfl
    (fun f fn hf hfn => by
      obtain rfl : f = 3 := Option.some.inj ((show Tryd.prog.funcNamed "shadowbox/shadowboxlaw43.ReplyPuts" = some 3 by kernel_rfl).symm.trans hf) |>.symm
      obtain rfl : fn = Tryd.f3 := (Option.some.inj (Tryd.func3.symm.trans hfn)).symm
      exact ⟨by kernel_rfl, fun j t ht => by
        rw [Tryd.params3] at ht
        have hm : t ∈ [25, 4] := by simpa using Array.mem_of_getElem? ht
        have hall : ([25, 4].all fun u => !Tryd.prog.wantsStandIn u) = true := by kernel_rfl
        exact (show Tryd.prog.wantsStandIn t = false by simpa using List.all_eq_true.1 hall t hm)⟩)
    (by kernel_rfl)
#print axioms proved
end Go.Proofs.YtdjgldjebcoihaaDoor.replyPuts
namespace Go.Proofs.YtdjgldjebcoihaaDoor
theorem replyPuts_holds : Rows.ReplyPutsCardSaid := replyPuts.proved
end Go.Proofs.YtdjgldjebcoihaaDoor
