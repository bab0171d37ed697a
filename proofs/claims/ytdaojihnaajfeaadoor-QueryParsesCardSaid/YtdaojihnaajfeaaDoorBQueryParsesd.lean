/- Part of the proof of QueryParses: walks and plain words, merged. -/
import Derived.Test.YtdaojihnaajfeaaDoorBQueryParsesc
import Derived.Test.YtdaojihnaajfeaaDoorBQueryParsesb
import Derived.Laws.AppendOwn
import Derived.Handed
import Derived.Shelf.Vars
import Derived.Test.YtdaojihnaajfeaaDoorRows
import Derived.Test.YtdaojihnaajfeaaDoorCards
import Derived.Test.YtdaojihnaajfeaaDoorTie
import Derived.Test.YtdaojihnaajfeaaDoorChecked
import Derived.WalkKit
import Derived.HandedShaped
import Derived.ProofKit
import Derived.OpenShut
import Derived.Lay
import Derived.LaidMore
import Derived.LaidOnce
import Derived.SevenTiedAt
set_option linter.unusedVariables false
set_option linter.unusedSimpArgs false

/- Small letters: hex.Lower. -/
set_option linter.unusedVariables false
set_option linter.unusedSimpArgs false
namespace Go.Proofs.YtdaojihnaajfeaaDoorX
open Go
theorem set_low (l : List Int) (i : Nat) (h : i < l.length) : (((l.take i).map lowI) ++ l.drop i).set i (lowI (l.getD i 0)) = ((l.take (i + 1)).map lowI) ++ l.drop (i + 1) := by
  have hl : ((l.take i).map lowI).length = i := by rw [List.length_map, List.length_take]; omega
  rw [List.set_append_right _ _ (by omega), hl, Nat.sub_self, drop_cons l i 0 h, List.set_cons_zero, List.take_add_one, List.map_append, List.append_assoc]
  congr 1
  rw [List.getD_eq_getElem?_getD, List.getElem?_eq_getElem h]
  rfl
theorem low_loop (s : List UInt8) (hs : s.length ≤ 1000000000) : ∀ (d i : Nat), i + d = s.length → Ev (fun n => F52_L1 n s (i : Int) ((((ints s).take i).map lowI) ++ (ints s).drop i)) (lowT s) := by
  intro d
  induction d with
  | zero =>
    intro i hi
    rw [List.take_of_length_le (by rw [ints_len]; omega), List.drop_of_length_le (by rw [ints_len]; omega), List.append_nil]
    refine Ev.step (Ev.pure.congr fun n => ?_)
    rw [F52_L1, decide_eq_false (by omega), iteB_f]; rfl
  | succ d ih =>
    intro i hi
    have hlen : ((((ints s).take i).map lowI) ++ (ints s).drop i).length = s.length := by simp [ints_len]; omega
    have hti : (((ints s).take i).map lowI).length = i := by rw [List.length_map, List.length_take, ints_len]; omega
    have hget : ((((ints s).take i).map lowI) ++ (ints s).drop i).getD i default = bt s i := by
      rw [List.getD_eq_getElem?_getD, List.getElem?_append_right (by omega), hti, Nat.sub_self, drop_bt s i (by omega)]; rfl
    have hset := set_low (ints s) i (by rw [ints_len]; omega)
    rw [ints_get] at hset
    refine Ev.step ((ih (i + 1) (by omega)).congr fun n => ?_)
    rw [F52_L1, decide_eq_true (by omega), iteB_t, toNat_nat, g64 i (by omega), hget, hlen]
    simp only [grd_t _ (show 0 ≤ (i : Int) ∧ (i : Int) < (s.length : Int) by omega), grd_t _ (show i < s.length by omega)]
    rw [show F61 n (bt s i) = some (kindOf (bt s i)) from rfl, bind_some', ← hset]
    by_cases h4 : kindOf (bt s i) = 4
    · rw [show (kindOf (bt s i) == 4) = true by rw [h4]; rfl, iteB_t, low_wrap h4, show lowI (bt s i) = bt s i + 32 from if_pos h4]
    · rw [show (kindOf (bt s i) == 4) = false from bq h4, iteB_f, show lowI (bt s i) = bt s i from if_neg h4]
      have hg : ((((ints s).take i).map lowI) ++ (ints s).drop i)[i]? = some (bt s i) := by
        rw [List.getElem?_append_right (by omega), hti, Nat.sub_self, drop_bt s i (by omega)]; rfl
      have he : ((((ints s).take i).map lowI) ++ (ints s).drop i).set i (bt s i) = (((ints s).take i).map lowI) ++ (ints s).drop i := by
        refine List.ext_getElem? fun j => ?_
        rw [List.getElem?_set]
        split
        · rename_i hij
          subst hij
          rw [hg, if_pos (by omega)]
        · rfl
      rw [he]
theorem ev_Lower (s : List UInt8) (hs : s.length ≤ 1000000000) : Ev (fun n => F52 n s) (lowT s) :=
  (low_loop s hs s.length 0 (by omega)).congr fun n => rfl
end Go.Proofs.YtdaojihnaajfeaaDoorX

/- Texts with marks: the program's and the reference's. -/
set_option linter.unusedVariables false
set_option linter.unusedSimpArgs false
namespace Go.Proofs.YtdaojihnaajfeaaDoorX
open Go
theorem idxB (n : Nat) (s : List UInt8) : F57 n s (37 : Int) = some (Lib.indexByte s 37) := rfl
theorem hexS_len (l : List UInt8) (h : l.length = 2) : (hexS l).1.length ≤ 1 := by
  match l, h with
  | [a, b], _ =>
    unfold hexS
    rw [if_neg (by simp), hexP]
    split
    · exact Nat.zero_le _
    · exact Nat.le_refl _
theorem ev_pdec : ∀ (k : Nat) (l : List UInt8) (acc : List Int), l.length ≤ k → l.length + acc.length ≤ 1000000 → Ev (fun n => F34_L1 n l acc) (pctA l acc) := by
  intro k
  induction k with
  | zero =>
    intro l acc hk hb
    obtain rfl : l = [] := List.length_eq_zero_iff.1 (by omega)
    refine Ev.step (Ev.pure.congr fun n => ?_)
    rw [F34_L1, pctA]; rfl
  | succ k ih =>
    intro l acc hk hb
    by_cases h0 : l = []
    · subst h0
      refine Ev.step (Ev.pure.congr fun n => ?_)
      rw [F34_L1, pctA]; rfl
    · have hne : (!(l == [])) = true := by rw [Bool.not_eq_true', beq_eq_false_iff_ne]; exact h0
      rcases idx_cases 37 l with ⟨h1, h2, h3, _⟩ | ⟨m, h1, h2, h3, h4, h5, _⟩
      · rw [pctA_all l acc h2]
        refine Ev.step (Ev.pure.congr fun n => ?_)
        rw [F34_L1, hne, iteB_t, idxB, bind_some', h1, decide_eq_true (by decide), iteB_t, grd_t _ (by omega)]; rfl
      · have hs : pctA l acc = pctA (37 :: l.drop (m + 1)) (acc ++ ints (l.take m)) := by
          conv => lhs; rw [h4]
          exact pctA_app _ _ _ h3
        have hdl : (l.drop (m + 1)).length = l.length - (m + 1) := List.length_drop
        have htl : (l.take m).length = m := by rw [List.length_take]; omega
        rw [hs, pctA, if_pos rfl]
        have w3 : IntKind.wrap .i64 ((m : Int) + 3) = ((m + 3 : Nat) : Int) := by rw [w64 (by omega)]; omega
        have w1 : IntKind.wrap .i64 ((m : Int) + 1) = ((m + 1 : Nat) : Int) := by rw [w64 (by omega)]; omega
        have hcut : (l.take (m + 3)).drop (m + 1) = (l.drop (m + 1)).take 2 := by rw [List.drop_take]; congr 1; omega
        have hdrop : l.drop (m + 3) = (l.drop (m + 1)).drop 2 := by rw [List.drop_drop]
        by_cases h6 : (l.drop (m + 1)).length < 2
        · rw [if_pos h6]
          refine Ev.step (Ev.pure.congr fun n => ?_)
          rw [F34_L1, hne, iteB_t, idxB, bind_some', h2, decide_eq_false (by omega), iteB_f, grd_t _ (by omega), toNat_nat, grd_t _ (by omega), w3, decide_eq_true (by omega), iteB_t]
        · rw [if_neg h6]
          have h2l : ((l.drop (m + 1)).take 2).length = 2 := by rw [List.length_take]; omega
          obtain ⟨N1, e1⟩ := ev_Lower ((l.drop (m + 1)).take 2) (by omega)
          obtain ⟨N2, e2⟩ := ev_ReadHex (lowT ((l.drop (m + 1)).take 2)) (by rw [low_len]; omega)
          have hxl := hexS_len (lowT ((l.drop (m + 1)).take 2)) (by rw [low_len]; exact h2l)
          generalize hx : hexS (lowT ((l.drop (m + 1)).take 2)) = x at *
          have u : ∀ n, N1 + N2 ≤ n → F34_L1 (n + 1) l acc = iteB (!x.2) (some ([], false)) (F34_L1 n ((l.drop (m + 1)).drop 2) ((acc ++ ints (l.take m)) ++ x.1)) := by
            intro n hn
            have q1 := e1 n (by omega)
            have q2 := e2 n (by omega)
            dsimp only at q1 q2
            rw [F34_L1, hne, iteB_t, idxB, bind_some', h2, decide_eq_false (by omega), iteB_f, grd_t _ (by omega), toNat_nat, grd_t _ (by omega), w3, decide_eq_false (by omega), iteB_f, w1, grd_t _ (by omega), toNat_nat, toNat_nat, hcut, q1, bind_some', q2, bind_some', grd_t _ (by omega), grd_t _ (by omega), hdrop]
            rfl
          cases h7 : x.2 with
          | false =>
            rw [if_neg (by decide)]
            refine Ev.step ⟨N1 + N2, fun n hn => ?_⟩
            show F34_L1 (n + 1) l acc = _
            rw [u n hn, h7]; rfl
          | true =>
            rw [if_pos rfl]
            obtain ⟨N3, e3⟩ := ih ((l.drop (m + 1)).drop 2) ((acc ++ ints (l.take m)) ++ x.1) (by rw [List.length_drop]; omega) (by rw [List.length_drop, List.length_append, List.length_append, ints_len]; omega)
            refine Ev.step ⟨N1 + N2 + N3, fun n hn => ?_⟩
            have q3 := e3 n (by omega)
            dsimp only at q3
            show F34_L1 (n + 1) l acc = _
            rw [u n (by omega), h7, Bool.not_true, iteB_f, q3]
theorem ev_PDecode (l : List UInt8) (hl : l.length ≤ 1000000) : Ev (fun n => F34 n l) (pctS l) := ev_pdec l.length l [] (Nat.le_refl _) (by simp; omega)
theorem ev_rpdec (l : List UInt8) (hl : l.length ≤ 1000000) : ∀ (k i : Nat) (acc : List Int), i ≤ l.length → l.length - i ≤ k → acc.length ≤ i → Ev (fun n => F35_L1 n l (i : Int) acc) (pctA (l.drop i) acc) := by
  intro k
  induction k with
  | zero =>
    intro i acc hi hk ha
    rw [List.drop_of_length_le (by omega), pctA]
    refine Ev.step (Ev.pure.congr fun n => ?_)
    rw [F35_L1, decide_eq_false (by omega), iteB_f]
  | succ k ih =>
    intro i acc hi hk ha
    by_cases h0 : i = l.length
    · rw [List.drop_of_length_le (by omega), pctA]
      refine Ev.step (Ev.pure.congr fun n => ?_)
      rw [F35_L1, decide_eq_false (by omega), iteB_f]
    · have hd : l.drop i = l.getD i 0 :: l.drop (i + 1) := drop_cons l i 0 (by omega)
      have w1 := g64 i (by omega)
      have w2 : IntKind.wrap .i64 ((i : Int) + 2) = ((i + 2 : Nat) : Int) := by rw [w64 (by omega)]; omega
      have w3 : IntKind.wrap .i64 ((i : Int) + 3) = ((i + 3 : Nat) : Int) := by rw [w64 (by omega)]; omega
      have w4 : IntKind.wrap .i64 (((i + 2 : Nat) : Int) + 1) = ((i + 3 : Nat) : Int) := by rw [w64 (by omega)]; omega
      have hdl : (l.drop (i + 1)).length = l.length - (i + 1) := List.length_drop
      have hcut : (l.take (i + 3)).drop (i + 1) = (l.drop (i + 1)).take 2 := by rw [List.drop_take]; congr 1; omega
      have hdrop : l.drop (i + 3) = (l.drop (i + 1)).drop 2 := by rw [List.drop_drop]
      rw [hd]
      generalize hc : l.getD i 0 = c at *
      by_cases h37 : c = 37
      · rw [pctA, if_pos h37]
        have hb : ((c.toNat : Int) != 37) = false := by rw [h37]; rfl
        by_cases h6 : (l.drop (i + 1)).length < 2
        · rw [if_pos h6]
          refine Ev.step (Ev.pure.congr fun n => ?_)
          rw [F35_L1, decide_eq_true (by omega), iteB_t, grd_t _ (by omega), toNat_nat, hc, hb, iteB_f, w2, decide_eq_true (by omega), iteB_t]
        · rw [if_neg h6]
          have h2l : ((l.drop (i + 1)).take 2).length = 2 := by rw [List.length_take]; omega
          obtain ⟨N1, e1⟩ := ev_rLower ((l.drop (i + 1)).take 2) (by omega)
          obtain ⟨N2, e2⟩ := ev_rReadHex (lowT ((l.drop (i + 1)).take 2)) (by rw [low_len]; omega)
          have hx2 := hex2 (lowT ((l.drop (i + 1)).take 2)) (by rw [low_len]; exact h2l)
          generalize hx : hexS (lowT ((l.drop (i + 1)).take 2)) = x at *
          have u : ∀ n, N1 + N2 ≤ n → F35_L1 (n + 1) l (i : Int) acc = iteB (!x.2) (some ([], false)) (grd ((0 : Int) < (x.1.length : Int)) (grd ((acc.length + 1) ≤ 549755813888) (F35_L1 n l ((i + 3 : Nat) : Int) (acc ++ [(x.1.getD (0 : Int).toNat default)])))) := by
            intro n hn
            have q1 := e1 n (by omega)
            have q2 := e2 n (by omega)
            dsimp only at q1 q2
            rw [F35_L1, decide_eq_true (by omega), iteB_t, grd_t _ (by omega), toNat_nat, hc, hb, iteB_f, w2, decide_eq_false (by omega), iteB_f, w1, w3, grd_t _ (by omega), toNat_nat, toNat_nat, hcut, q1, bind_some', q2, bind_some', w4]
          cases h7 : x.2 with
          | false =>
            rw [if_neg (by decide)]
            refine Ev.step ⟨N1 + N2, fun n hn => ?_⟩
            show F35_L1 (n + 1) l (i : Int) acc = _
            rw [u n hn, h7]; rfl
          | true =>
            rw [if_pos rfl]
            obtain ⟨y, hy⟩ := hx2 h7
            obtain ⟨N3, e3⟩ := ih (i + 3) (acc ++ [y]) (by omega) (by omega) (by rw [List.length_append]; simp; omega)
            rw [hdrop] at e3
            refine Ev.step ⟨N1 + N2 + N3, fun n hn => ?_⟩
            have q3 := e3 n (by omega)
            dsimp only at q3
            show F35_L1 (n + 1) l (i : Int) acc = _
            rw [u n (by omega), h7, Bool.not_true, iteB_f, hy, grd_t _ (by show (0 : Int) < 1; decide), grd_t _ (by omega)]
            exact q3
      · rw [pctA, if_neg h37]
        have hb : ((c.toNat : Int) != 37) = true := by
          rw [bne_iff_ne]; intro e; exact h37 (UInt8.toNat_inj.1 (by show c.toNat = 37; omega))
        obtain ⟨N3, e3⟩ := ih (i + 1) (acc ++ [ofB c]) (by omega) (by omega) (by rw [List.length_append]; simp; omega)
        refine Ev.step ⟨N3, fun n hn => ?_⟩
        have q3 := e3 n (by omega)
        dsimp only at q3
        show F35_L1 (n + 1) l (i : Int) acc = _
        rw [F35_L1, decide_eq_true (by omega), iteB_t, grd_t _ (by omega), toNat_nat, hc, hb, iteB_t, grd_t _ (by omega), grd_t _ (by omega), w1]
        exact q3
theorem ev_rPDecode (l : List UInt8) (hl : l.length ≤ 1000000) : Ev (fun n => F35 n l) (pctS l) := (ev_rpdec l hl l.length 0 [] (by omega) (by omega) (by simp)).congr fun n => rfl
end Go.Proofs.YtdaojihnaajfeaaDoorX

/- Queries that are parsed: the program's and the reference's. -/
set_option linter.unusedVariables false
set_option linter.unusedSimpArgs false
namespace Go.Proofs.YtdaojihnaajfeaaDoorX
open Go
theorem u8ne {c d : UInt8} (h : ¬ c = d) : ((c.toNat : Int) != (d.toNat : Int)) = true := by
  rw [bne_iff_ne]; intro e; exact h (UInt8.toNat_inj.1 (by omega))
theorem ev_blanks_l (s : List UInt8) (hs : s.length ≤ 1000000) : ∀ (k i : Nat), i + k = s.length → Ev (fun n => F36_L1 n s (i : Int) (ints ((s.take i).map blk))) (s.map blk) := by
  intro k
  induction k with
  | zero =>
    intro i hi
    rw [List.take_of_length_le (by omega)]
    refine Ev.step (Ev.pure.congr fun n => ?_)
    rw [F36_L1, decide_eq_false (by omega), iteB_f, show (ints (s.map blk)).map toB = s.map blk from (of_ints rfl).symm]
  | succ k ih =>
    intro i hi
    have ht : s.take (i + 1) = s.take i ++ [s.getD i 0] := by
      rw [List.take_succ_eq_append_getElem (by omega), List.getD_eq_getElem?_getD, List.getElem?_eq_getElem (by omega)]; rfl
    have e := ih (i + 1) (by omega)
    rw [ht, List.map_append, show ints ((s.take i).map blk ++ [s.getD i 0].map blk) = ints ((s.take i).map blk) ++ [ofB (blk (s.getD i 0))] by unfold ints; rw [List.map_append]; rfl] at e
    have hl : (ints ((s.take i).map blk)).length = i := by rw [ints_len, List.length_map, List.length_take]; omega
    generalize ints ((s.take i).map blk) = acc at *
    generalize hc : s.getD i 0 = c at *
    by_cases h : c = 43
    · refine Ev.step (e.congr fun n => ?_)
      rw [F36_L1, decide_eq_true (by omega), iteB_t, grd_t _ (by omega), toNat_nat, hc, show ((c.toNat : Int) == 43) = true by (rw [h]; rfl), iteB_t, grd_t _ (by omega), g64 i (by omega), show ofB (blk c) = 32 by rw [h]; rfl]
    · refine Ev.step (e.congr fun n => ?_)
      rw [F36_L1, decide_eq_true (by omega), iteB_t, grd_t _ (by omega), toNat_nat, hc, show ((c.toNat : Int) == 43) = false from bq (fun e => h (UInt8.toNat_inj.1 (by show c.toNat = 43; omega))), iteB_f, grd_t _ (by omega), g64 i (by omega), show blk c = c from if_neg h]
      rfl
theorem ev_blanks (s : List UInt8) (hs : s.length ≤ 1000000) : Ev (fun n => F36 n s) (s.map blk) := (ev_blanks_l s hs s.length 0 (by omega)).congr fun n => rfl
theorem cut_len (c : UInt8) (s : List UInt8) : (cutB c s).1.length ≤ s.length ∧ (cutB c s).2.1.length ≤ s.length := by
  unfold cutB
  split
  · simp only [List.length_take, List.length_drop]; omega
  · simp
theorem ev_part (s : List UInt8) (hs : s.length ≤ 100000) : Ev (fun n => F15 n s) (partT s) := by
  have hl := cut_len 61 s
  have hrep : ∀ n, F33 n s [43] [32] = some (s.map blk) := by
    intro n
    have hcb : Lib.countB (bs s) (bs [43]) ≤ s.length := Lib.countB_le (bs [43]) (by rw [bs_size]; decide) s.length (bs s) (by rw [bs_size]; omega)
    rw [F33, if_pos ⟨by omega, by decide, by show s.length + Lib.countB (bs s) (bs [43]) * 1 ≤ 140737488355328; omega⟩, repl_blk]
  obtain ⟨N1, e1⟩ := ev_PDecode ((cutB 61 s).1.map blk) (by rw [List.length_map]; omega)
  obtain ⟨N2, e2⟩ := ev_PDecode ((cutB 61 s).2.1.map blk) (by rw [List.length_map]; omega)
  refine ⟨N1 + N2, fun n hn => ?_⟩
  have q1 := e1 n (by omega)
  have q2 := e2 n (by omega)
  dsimp only at q1 q2
  show F15 n s = _
  rw [F15, hrep, bind_some', Cut_eq n (s.map blk) 61 (by rw [List.length_map]; omega), bind_some', cut_blk]
  dsimp only
  rw [q1, bind_some', q2, bind_some']
  unfold partT
  have he : ((cutB 61 s).1.map blk == []) = ((cutB 61 s).1 == []) := by
    cases (cutB 61 s).1 <;> rfl
  rw [he]
  cases ((cutB 61 s).1 == []) with
  | true => rfl
  | false =>
    rw [Bool.not_false, iteB_t, Bool.true_and]
    cases (pctS ((cutB 61 s).1.map blk)).2 with
    | false => rfl
    | true => rw [iteB_t, Bool.true_and]
theorem ev_oneJ (s : List UInt8) (hs : s.length ≤ 100000) (i : Nat) (hi : i ≤ s.length) (rest : List UInt8) (hr : rest.length ≤ 100000) (h1 : (cutB 61 s).1 = s.take i) (h2 : (cutB 61 s).2.1 = rest) :
    Ev (fun n => F16_J2 n s (i : Int) rest) (partT s) ∧ Ev (fun n => F16_J3 n s (i : Int) rest) (partT s) := by
  obtain ⟨N1, e1⟩ := ev_blanks (s.take i) (by rw [List.length_take]; omega)
  obtain ⟨N2, e2⟩ := ev_blanks rest (by omega)
  obtain ⟨N3, e3⟩ := ev_rPDecode ((s.take i).map blk) (by rw [List.length_map, List.length_take]; omega)
  obtain ⟨N4, e4⟩ := ev_rPDecode (rest.map blk) (by rw [List.length_map]; omega)
  have hp : partT s = (((pctS ((s.take i).map blk)).1, (pctS (rest.map blk)).1), !(s.take i == []) && (pctS ((s.take i).map blk)).2 && (pctS (rest.map blk)).2) := by
    unfold partT; rw [h1, h2]
  have hpos : decide ((0 : Int) < (i : Int)) = !(s.take i == []) := by
    by_cases h : i = 0
    · subst h; rfl
    · rw [decide_eq_true (by omega), show (s.take i == []) = false by
        rw [beq_eq_false_iff_ne]; intro e; have := congrArg List.length e; rw [List.length_take, List.length_nil] at this; omega]; rfl
  rw [hp]
  constructor <;>
  · refine ⟨N1 + N2 + N3 + N4, fun n hn => ?_⟩
    have q1 := e1 n (by omega)
    have q2 := e2 n (by omega)
    have q3 := e3 n (by omega)
    have q4 := e4 n (by omega)
    dsimp only at q1 q2 q3 q4
    first | (show F16_J2 n s (i : Int) rest = _; rw [F16_J2]) | (show F16_J3 n s (i : Int) rest = _; rw [F16_J3])
    rw [grd_t _ (by omega), toNat_nat, q1, bind_some', q3, bind_some', q2, bind_some', q4, bind_some', hpos]
    cases (s.take i == []) with
    | true => rfl
    | false =>
      rw [Bool.not_false, iteB_t, Bool.true_and]
      cases (pctS ((s.take i).map blk)).2 with
      | false => rfl
      | true => rw [iteB_t, Bool.true_and]
theorem ev_one_l (s : List UInt8) (hs : s.length ≤ 100000) : ∀ (k i : Nat), i + k = s.length → (61 : UInt8) ∉ s.take i → Ev (fun n => F16_L1 n s (i : Int)) (partT s) := by
  intro k
  induction k with
  | zero =>
    intro i hi hno
    rw [List.take_of_length_le (by omega)] at hno
    have hc := cut_none 61 s hno
    refine Ev.step ((ev_oneJ s hs i (by omega) [] (by simp) (by rw [hc, List.take_of_length_le (by omega)]) (by rw [hc])).2.congr fun n => ?_)
    rw [F16_L1, decide_eq_false (by omega), iteB_f, iteB_f]
  | succ k ih =>
    intro i hi hno
    have hd : s.drop i = s.getD i 0 :: s.drop (i + 1) := drop_cons s i 0 (by omega)
    have ht : s.take (i + 1) = s.take i ++ [s.getD i 0] := by
      rw [List.take_succ_eq_append_getElem (by omega), List.getD_eq_getElem?_getD, List.getElem?_eq_getElem (by omega)]; rfl
    generalize hc : s.getD i 0 = c at *
    by_cases h : c = 61
    · subst h
      have hcut : cutB 61 s = (s.take i, s.drop (i + 1), true) := by
        conv => lhs; rw [← List.take_append_drop i s, hd]
        exact cut_app 61 _ _ hno
      refine Ev.step ((ev_oneJ s hs i (by omega) (s.drop (i + 1)) (by rw [List.length_drop]; omega) (by rw [hcut]) (by rw [hcut])).1.congr fun n => ?_)
      rw [F16_L1, decide_eq_true (by omega), iteB_t, grd_t _ (by omega), toNat_nat, hc, show (((61 : UInt8).toNat : Int) != 61) = false from rfl, iteB_f, iteB_t, g64 i (by omega), grd_t _ (by omega), toNat_nat]
    · have e := ih (i + 1) (by omega) (by
        rw [ht, List.mem_append, List.mem_singleton]
        rintro (m | m)
        · exact hno m
        · exact h m.symm)
      refine Ev.step (e.congr fun n => ?_)
      rw [F16_L1, decide_eq_true (by omega), iteB_t, grd_t _ (by omega), toNat_nat, hc, show ((c.toNat : Int) != 61) = true from u8ne (d := 61) h, iteB_t, g64 i (by omega)]
theorem ev_one (s : List UInt8) (hs : s.length ≤ 100000) : Ev (fun n => F16 n s) (partT s) := (ev_one_l s hs s.length 0 (by omega) (by simp)).congr fun n => rfl
theorem ev_parse_l : ∀ (k : Nat) (s : List UInt8) (out : List Pr), s.length ≤ k → s.length ≤ 100000 → out.length ≤ 64 → Ev (fun n => F7_L1 n s true out) (parseL (splitB 38 s) out) := by
  intro k
  induction k with
  | zero =>
    intro s out hk hs ho
    obtain rfl : s = [] := List.length_eq_zero_iff.1 (by omega)
    obtain ⟨N1, e1⟩ := ev_part [] (by simp)
    have hsp : splitB 38 [] = [[]] := rfl
    rw [hsp, parseL]
    have u : ∀ n, N1 ≤ n → F7_L1 (n + 1) [] true out = iteB (!(partT []).2) (some ([], false)) (iteB ((out.length : Int) == (64 : Int)) (some ([], false)) (F7_L1 n [] false (out ++ [(partT []).1]))) := by
      intro n hn
      have q1 := e1 n (by omega)
      dsimp only at q1
      rw [F7_L1, iteB_t, Cut_eq n [] 38 (by simp), bind_some', show cutB 38 ([] : List UInt8) = ([], [], false) from rfl]
      dsimp only
      rw [q1, bind_some', grd_t _ (by omega)]
    cases h1 : (partT []).2 with
    | false =>
      rw [if_pos (.inl rfl)]
      exact Ev.step ⟨N1, fun n hn => by show F7_L1 (n + 1) [] true out = _; rw [u n hn, h1]; rfl⟩
    | true =>
      by_cases h64 : out.length = 64
      · rw [if_pos (.inr h64)]
        exact Ev.step ⟨N1, fun n hn => by show F7_L1 (n + 1) [] true out = _; rw [u n hn, h1, Bool.not_true, iteB_f, bqt (by omega), iteB_t]⟩
      · rw [if_neg (by rintro (a | a); exact absurd a (by decide); exact h64 a), parseL]
        refine Ev.step ⟨N1 + 1, fun n hn => ?_⟩
        obtain ⟨m, rfl⟩ : ∃ m, n = m + 1 := ⟨n - 1, by omega⟩
        show F7_L1 (m + 1 + 1) [] true out = _
        rw [u (m + 1) (by omega), h1, Bool.not_true, iteB_f, bq (by omega), iteB_f, F7_L1, iteB_f]
  | succ k ih =>
    intro s out hk hs ho
    have hcl := cut_len 38 s
    obtain ⟨N1, e1⟩ := ev_part (cutB 38 s).1 (by omega)
    rw [split_cut 38 s]
    have u : ∀ n, N1 ≤ n → F7_L1 (n + 1) s true out = iteB (!(partT (cutB 38 s).1).2) (some ([], false)) (iteB ((out.length : Int) == (64 : Int)) (some ([], false)) (F7_L1 n (cutB 38 s).2.1 (cutB 38 s).2.2 (out ++ [(partT (cutB 38 s).1).1]))) := by
      intro n hn
      have q1 := e1 n (by omega)
      dsimp only at q1
      rw [F7_L1, iteB_t, Cut_eq n s 38 (by omega), bind_some', q1, bind_some', grd_t _ (by omega)]
    have hlt : (cutB 38 s).2.2 = true → (cutB 38 s).2.1.length < s.length := by
      unfold cutB
      split
      · rename_i hm
        intro _
        have : 0 < s.length := List.length_pos_iff.2 (by rintro rfl; cases hm)
        rw [List.length_drop]; omega
      · intro h; cases h
    have key : parseL (if (cutB 38 s).2.2 = true then (cutB 38 s).1 :: splitB 38 (cutB 38 s).2.1 else [(cutB 38 s).1]) out = if (partT (cutB 38 s).1).2 = false ∨ out.length = 64 then ([], false) else parseL (if (cutB 38 s).2.2 = true then splitB 38 (cutB 38 s).2.1 else []) (out ++ [(partT (cutB 38 s).1).1]) := by
      split <;> (conv => lhs; rw [parseL])
    rw [key]
    cases h1 : (partT (cutB 38 s).1).2 with
    | false =>
      rw [if_pos (.inl rfl)]
      exact Ev.step ⟨N1, fun n hn => by show F7_L1 (n + 1) s true out = _; rw [u n hn, h1]; rfl⟩
    | true =>
      by_cases h64 : out.length = 64
      · rw [if_pos (.inr h64)]
        exact Ev.step ⟨N1, fun n hn => by show F7_L1 (n + 1) s true out = _; rw [u n hn, h1, Bool.not_true, iteB_f, bqt (by omega), iteB_t]⟩
      · rw [if_neg (by rintro (a | a); exact absurd a (by decide); exact h64 a)]
        cases h2 : (cutB 38 s).2.2 with
        | false =>
          rw [if_neg (by decide), parseL]
          refine Ev.step ⟨N1 + 1, fun n hn => ?_⟩
          obtain ⟨m, rfl⟩ : ∃ m, n = m + 1 := ⟨n - 1, by omega⟩
          show F7_L1 (m + 1 + 1) s true out = _
          rw [u (m + 1) (by omega), h1, Bool.not_true, iteB_f, bq (by omega), iteB_f, h2, F7_L1, iteB_f]
        | true =>
          rw [if_pos rfl]
          have := hlt h2
          obtain ⟨N2, e2⟩ := ih (cutB 38 s).2.1 (out ++ [(partT (cutB 38 s).1).1]) (by omega) (by omega) (by rw [List.length_append]; simp; omega)
          refine Ev.step ⟨N1 + N2, fun n hn => ?_⟩
          have q2 := e2 n (by omega)
          dsimp only at q2
          show F7_L1 (n + 1) s true out = _
          rw [u n (by omega), h1, Bool.not_true, iteB_f, bq (by omega), iteB_f, h2]
          exact q2
theorem ev_Parse (s : List UInt8) (hs : s.length ≤ 100000) : Ev (fun n => F7 n s) (parseT s) := by
  unfold parseT
  by_cases h : s = []
  · rw [if_pos h]
    exact Ev.pure.congr fun n => by rw [F7, h]; rfl
  · rw [if_neg h]
    refine (ev_parse_l s.length s [] (Nat.le_refl _) hs (by simp)).congr fun n => ?_
    rw [F7, show (s == []) = false from beq_eq_false_iff_ne.2 h, iteB_f]
def att (p : List UInt8) : List (List UInt8) → List (List UInt8)
  | [] => [p]
  | y :: ys => (p ++ y) :: ys
theorem ev_rparse_l (s : List UInt8) (hs : s.length ≤ 100000) : ∀ (k i : Nat) (p : List UInt8) (out : List Pr), i + k = s.length → p.length ≤ i → out.length ≤ 64 → Ev (fun n => F8_L1 n s p (i : Int) out) (parseL (att p (splitB 38 (s.drop i))) out) := by
  intro k
  induction k with
  | zero =>
    intro i p out hi hp ho
    rw [List.drop_of_length_le (by omega), show att p (splitB 38 []) = [p] by show [p ++ []] = [p]; rw [List.append_nil], parseL]
    obtain ⟨N1, e1⟩ := ev_one p (by omega)
    have u : ∀ n, N1 ≤ n → F8_L1 (n + 1) s p (i : Int) out = iteB (!(partT p).2) (some ([], false)) (iteB ((out.length : Int) == (64 : Int)) (some ([], false)) (F8_L1 n s [] ((i + 1 : Nat) : Int) (out ++ [(partT p).1]))) := by
      intro n hn
      have q1 := e1 n (by omega)
      dsimp only at q1
      rw [F8_L1, decide_eq_true (by omega), iteB_t, decide_eq_false (by omega), iteB_f, q1, bind_some', grd_t _ (by omega), g64 i (by omega)]
    cases h1 : (partT p).2 with
    | false =>
      rw [if_pos (.inl rfl)]
      exact Ev.step ⟨N1, fun n hn => by show F8_L1 (n + 1) s p (i : Int) out = _; rw [u n hn, h1]; rfl⟩
    | true =>
      by_cases h64 : out.length = 64
      · rw [if_pos (.inr h64)]
        exact Ev.step ⟨N1, fun n hn => by show F8_L1 (n + 1) s p (i : Int) out = _; rw [u n hn, h1, Bool.not_true, iteB_f, bqt (by omega), iteB_t]⟩
      · rw [if_neg (by rintro (a | a); exact absurd a (by decide); exact h64 a), parseL]
        refine Ev.step ⟨N1 + 1, fun n hn => ?_⟩
        obtain ⟨m, rfl⟩ : ∃ m, n = m + 1 := ⟨n - 1, by omega⟩
        show F8_L1 (m + 1 + 1) s p (i : Int) out = _
        rw [u (m + 1) (by omega), h1, Bool.not_true, iteB_f, bq (by omega), iteB_f, F8_L1, decide_eq_false (by omega), iteB_f]
  | succ k ih =>
    intro i p out hi hp ho
    have hd : s.drop i = s.getD i 0 :: s.drop (i + 1) := drop_cons s i 0 (by omega)
    have hone : (s.take (i + 1)).drop i = [s.getD i 0] := by
      rw [List.drop_take, hd, show i + 1 - i = 1 by omega]; rfl
    rw [hd]
    generalize hc : s.getD i 0 = c at *
    by_cases h : c = 38
    · subst h
      rw [show splitB 38 (38 :: s.drop (i + 1)) = [] :: splitB 38 (s.drop (i + 1)) by rw [splitB, if_pos rfl], show att p ([] :: splitB 38 (s.drop (i + 1))) = p :: splitB 38 (s.drop (i + 1)) by show (p ++ []) :: _ = _; rw [List.append_nil], parseL]
      have hatt : ∀ l : List (List UInt8), l ≠ [] → att [] l = l := by
        intro l hl
        cases l with
        | nil => exact absurd rfl hl
        | cons y ys => rfl
      obtain ⟨N1, e1⟩ := ev_one p (by omega)
      have u : ∀ n, N1 ≤ n → F8_L1 (n + 1) s p (i : Int) out = iteB (!(partT p).2) (some ([], false)) (iteB ((out.length : Int) == (64 : Int)) (some ([], false)) (F8_L1 n s [] ((i + 1 : Nat) : Int) (out ++ [(partT p).1]))) := by
        intro n hn
        have q1 := e1 n (by omega)
        dsimp only at q1
        rw [F8_L1, decide_eq_true (by omega), iteB_t, decide_eq_true (by omega), iteB_t, grd_t _ (by omega), toNat_nat, hc, show (((38 : UInt8).toNat : Int) != 38) = false from rfl, iteB_f, q1, bind_some', grd_t _ (by omega), g64 i (by omega)]
      cases h1 : (partT p).2 with
      | false =>
        rw [if_pos (.inl rfl)]
        exact Ev.step ⟨N1, fun n hn => by show F8_L1 (n + 1) s p (i : Int) out = _; rw [u n hn, h1]; rfl⟩
      | true =>
        by_cases h64 : out.length = 64
        · rw [if_pos (.inr h64)]
          exact Ev.step ⟨N1, fun n hn => by show F8_L1 (n + 1) s p (i : Int) out = _; rw [u n hn, h1, Bool.not_true, iteB_f, bqt (by omega), iteB_t]⟩
        · rw [if_neg (by rintro (a | a); exact absurd a (by decide); exact h64 a)]
          obtain ⟨N2, e2⟩ := ih (i + 1) [] (out ++ [(partT p).1]) (by omega) (by simp) (by rw [List.length_append]; simp; omega)
          rw [hatt _ (split_ne 38 _)] at e2
          refine Ev.step ⟨N1 + N2, fun n hn => ?_⟩
          have q2 := e2 n (by omega)
          dsimp only at q2
          show F8_L1 (n + 1) s p (i : Int) out = _
          rw [u n (by omega), h1, Bool.not_true, iteB_f, bq (by omega), iteB_f]
          exact q2
    · have hs2 : att p (splitB 38 (c :: s.drop (i + 1))) = att (p ++ [c]) (splitB 38 (s.drop (i + 1))) := by
        rw [splitB, if_neg h]
        cases hq : splitB 38 (s.drop (i + 1)) with
        | nil => exact absurd hq (split_ne 38 _)
        | cons y ys => show (p ++ c :: y) :: ys = ((p ++ [c]) ++ y) :: ys; simp
      rw [hs2]
      refine Ev.step ((ih (i + 1) (p ++ [c]) out (by omega) (by rw [List.length_append]; simp; omega) ho).congr fun n => ?_)
      rw [F8_L1, decide_eq_true (by omega), iteB_t, decide_eq_true (by omega), iteB_t, grd_t _ (by omega), toNat_nat, hc, show ((c.toNat : Int) != 38) = true from u8ne (d := 38) h, iteB_t, g64 i (by omega), grd_t _ (by omega), toNat_nat, hone, grd_t _ (by simp; omega)]
theorem ev_rParse (s : List UInt8) (hs : s.length ≤ 100000) : Ev (fun n => F8 n s) (parseT s) := by
  unfold parseT
  by_cases h : s = []
  · rw [if_pos h]
    exact Ev.pure.congr fun n => by rw [F8, h]; rfl
  · rw [if_neg h]
    have e := ev_rparse_l s hs s.length 0 [] [] (by omega) (by simp) (by simp)
    rw [List.drop_zero] at e
    have hatt : att [] (splitB 38 s) = splitB 38 s := by
      cases hq : splitB 38 s with
      | nil => exact absurd hq (split_ne 38 _)
      | cons y ys => rfl
    rw [hatt] at e
    refine e.congr fun n => ?_
    rw [F8, show (s == []) = false from beq_eq_false_iff_ne.2 h, iteB_f]
    rfl
end Go.Proofs.YtdaojihnaajfeaaDoorX

/- QueryParses: the law. -/
set_option linter.unusedVariables false
set_option linter.unusedSimpArgs false
namespace Go.Proofs.YtdaojihnaajfeaaDoorX
open Go
theorem parse_len : ∀ (l : List (List UInt8)) (out : List Pr), out.length ≤ 64 → (parseL l out).1.length ≤ 64
  | [], out, h => h
  | s :: l, out, h => by
    rw [parseL]
    split
    · exact Nat.zero_le _
    · rename_i hh
      refine parse_len l _ ?_
      rw [List.length_append]
      have : ¬ out.length = 64 := fun e => hh (.inr e)
      simp; omega
theorem parseT_len (s : List UInt8) : (parseT s).1.length ≤ 64 := by
  unfold parseT
  split
  · exact Nat.zero_le _
  · exact parse_len _ _ (by simp)
theorem pct_plain (p : List UInt8) (h : (37 : UInt8) ∉ p) : pctS p = (p, true) := by
  unfold pctS
  rw [pctA_all p [] h, List.nil_append]
  rw [show (ints p).map toB = p from (of_ints rfl).symm]
theorem part_one : partT [97, 61, 49] = (([97], [49]), true) := by
  unfold partT
  rw [show cutB 61 [97, 61, 49] = ([97], [49], true) by decide, show ([97] : List UInt8).map blk = [97] from rfl, show ([49] : List UInt8).map blk = [49] from rfl, pct_plain [97] (by decide), pct_plain [49] (by decide)]
  rfl
theorem part_two : partT [98] = (([98], []), true) := by
  unfold partT
  rw [show cutB 61 [98] = ([98], [], false) by decide, show ([98] : List UInt8).map blk = [98] from rfl, show ([] : List UInt8).map blk = [] from rfl, pct_plain [98] (by decide), pct_plain [] (by decide)]
  rfl
theorem parse_ab : parseT [97, 61, 49, 38, 98] = ([([97], [49]), ([98], [])], true) := by
  unfold parseT
  rw [if_neg (by decide), show splitB 38 [97, 61, 49, 38, 98] = [[97, 61, 49], [98]] by decide, parseL, part_one, if_neg (by decide), parseL, part_two, if_neg (by decide), parseL]
  rfl
theorem law_loop (v : List Pr × Bool) (h : v.1.length ≤ 64) : ∀ (k i : Nat), i + k = v.1.length → Ev (fun n => F3_L2 n v v (i : Int)) true := by
  intro k
  induction k with
  | zero =>
    intro i hi
    obtain ⟨N1, e1⟩ := ev_Parse [97, 61, 49, 38, 98] (by decide)
    rw [parse_ab] at e1
    refine Ev.step ⟨N1, fun n hn => ?_⟩
    have q1 := e1 n hn
    dsimp only at q1
    show F3_L2 (n + 1) v v (i : Int) = _
    rw [F3_L2, decide_eq_false (by omega), iteB_f, q1, bind_some']
    rfl
  | succ k ih =>
    intro i hi
    refine Ev.step ((ih (i + 1) (by omega)).congr fun n => ?_)
    rw [F3_L2, decide_eq_true (by omega), iteB_t, grd_t _ (by omega), grd_t _ (by omega), beq_self_eq_true, beq_self_eq_true, g64 i (by omega)]
    rfl
theorem ev_JQ (s : List UInt8) (hs : s.length ≤ 900) : Ev (fun n => F3_J1 n s) true := by
  obtain ⟨N1, e1⟩ := ev_Parse s (by omega)
  obtain ⟨N2, e2⟩ := ev_rParse s (by omega)
  obtain ⟨N3, e3⟩ := law_loop (parseT s) (parseT_len s) (parseT s).1.length 0 (by omega)
  refine ⟨N1 + N2 + N3, fun n hn => ?_⟩
  have q1 := e1 n (by omega)
  have q2 := e2 n (by omega)
  have q3 := e3 n (by omega)
  dsimp only at q1 q2 q3
  show F3_J1 n s = _
  rw [F3_J1, q1, bind_some', q2, bind_some', beq_self_eq_true, Bool.not_true, iteB_f, show (((parseT s).1.length : Int) != ((parseT s).1.length : Int)) = false by simp, iteB_f]
  exact q3
theorem law_main (v0 : List UInt8) (h0 : okT9 v0) : ∃ n, F3 n v0 = some true := by
  have key : Ev (fun n => F3 n v0) true := by
    by_cases h : (900 : Int) < (v0.length : Int)
    · refine (ev_JQ (v0.take 900) (by rw [List.length_take]; omega)).congr fun n => ?_
      rw [F3, decide_eq_true h, iteB_t, grd_t _ (by omega)]
    · refine (ev_JQ v0 (by omega)).congr fun n => ?_
      rw [F3, decide_eq_false h, iteB_f]
  obtain ⟨N, h⟩ := key
  exact ⟨N, h N (Nat.le_refl _)⟩
end Go.Proofs.YtdaojihnaajfeaaDoorX

/- A row that is there, of nothing, and functions that hand out a row of their own. Of no program. -/
set_option linter.unusedVariables false
set_option linter.unusedSimpArgs false
namespace Go.Proofs.YtdaojihnaajfeaaDoorX
open Go Go.RowKit
theorem FnR.fresh {P : Program} {f : FuncId} {t : TypeId} {sz : Nat} {args : List T} {l : List T} (hf : enters P f) (hz : refsCL args = [])
    (h : ∀ (E : Env) (vs : Array Value), RepL E false args vs.toList → Calls P f vs E.w fun e w' => ∃ v' xs, e = .returned v' ∧ w'.ownsRow E.w.heap.size t sz v' l.length xs ∧ Below E.w.heap.size E.w w' ∧ RepR E sz l xs) :
    FnR P f [some (.buf t sz [] 0)] args (.rsl 0 sz 0 l.length) [some (.buf t sz l 0)] := by
  refine ⟨hf, rfl, rfl, by rw [hz]; rfl, fun B μ vs hO hOwn hv => ?_⟩
  refine (h ⟨B.w, μ, [some (.buf t sz [] 0)], B.ban⟩ vs hv).mono fun e w' ⟨v', xs, he, hown, hb, hr⟩ => ?_
  have hb : Below B.w.heap.size B.w w' := hb
  have hk : Kept B w' := ⟨hb.os, hb.tape, hb.output, hb.size, fun k h1 _ => hb.block k h1,
    fun k lk h1 j _ => cell_of_block (hb.block k (B.lt k lk h1)), fun k lk h1 c t fr hc => ⟨c, fr, (hb.block k (B.lt k lk h1)).trans hc, rfl⟩⟩
  obtain ⟨hxl, hown⟩ := hown
  rcases hown with ⟨rfl, hn⟩ | ⟨g, cap, cur, rfl, hg, hheap, hcap, _, hcs, hct⟩
  · have hl : l = [] := List.length_eq_zero_iff.1 hn
    subst hl
    refine ⟨_, fun _ => none, he, ⟨fun o x hx => ?_, fun o o' x x' b _ _ _ _ h1 _ => by cases h1⟩, ?_, hk, fun o x b _ _ h1 => by cases h1⟩
    · have hx : ([some (Own.buf t sz [] 0)] : List (Option Own))[o]? = some (some x) := hx
      cases o with
      | zero => simp at hx; subst hx; exact ⟨Nat.le_refl _, .inl ⟨rfl, rfl⟩⟩
      | succ o => simp at hx
    · simp only [Rep]
      exact ⟨trivial, ⟨_, rfl⟩, .inl ⟨trivial, rfl, trivial, ⟨⟨none, fun x h => by cases h⟩, rfl⟩⟩⟩
  · have hst : StepC ⟨B.w, μ, [some (.buf t sz [] 0)], B.ban⟩ ⟨w', fun o => if o = 0 then some g else none, [some (.buf t sz l 0)], B.ban⟩ := by
      refine ⟨fun b j v ⟨h1, h2, h3⟩ => ⟨(cell_of_block (hb.block b (cell_lt h1))).trans h1, fun lk ⟨o, y, k1, k2, k3⟩ => ?_, h3⟩, fun b c t fr hc => ⟨c, fr, (hb.block b (Array.getElem?_eq_some_iff.1 hc).1).trans hc, rfl⟩⟩
      have hlt := cell_lt h1
      have k2 : (if o = 0 then some g else none) = some b := k2
      split at k2
      · injection k2 with k2
        have : B.w.heap.size ≤ b := k2 ▸ hg
        have hlt : b < B.w.heap.size := hlt
        omega
      · cases k2
    refine ⟨_, fun o => if o = 0 then some g else none, he, ⟨fun o x hx => ?_, fun o o' x x' b h1 h2 _ _ _ _ => ?_⟩, ?_, hk, fun o x b h1 _ h2 => ?_⟩
    · have hx : ([some (Own.buf t sz l 0)] : List (Option Own))[o]? = some (some x) := hx
      cases o with
      | zero =>
        simp at hx; subst hx
        refine ⟨Nat.zero_le _, .inr ⟨g, cur, (0, 0), xs, cur.toList.drop (l.length * sz), rfl, hheap, .inl rfl, ?_, RepR.stepC hst _ _ _ hr⟩⟩
        rw [← hct]; exact (List.take_append_drop _ _).symm
      | succ o => simp at hx
    · have h1 : ([some (Own.buf t sz l 0)] : List (Option Own))[o]? = some (some x) := h1
      have h2 : ([some (Own.buf t sz l 0)] : List (Option Own))[o']? = some (some x') := h2
      have := (List.getElem?_eq_some_iff.1 h1).1
      have := (List.getElem?_eq_some_iff.1 h2).1
      simp at *
      omega
    · simp only [Rep]
      exact ⟨trivial, ⟨_, rfl⟩, .inr ⟨g, 0, cap, cur, t, (0, 0), rfl, rfl, hcap, .inr (by omega), hheap, by rw [Nat.zero_add, hcs]; exact Nat.le_refl _⟩⟩
    · have h2 : (if o = 0 then some g else none) = some b := h2
      split at h2
      · injection h2 with h2; exact .inl (h2 ▸ hg)
      · cases h2
end Go.Proofs.YtdaojihnaajfeaaDoorX

/- Rows whose functions read a library's variables: the world's shape is kept. Of no program. -/
set_option linter.unusedVariables false
set_option linter.unusedSimpArgs false
namespace Go.Proofs.YtdaojihnaajfeaaDoorX
open Go Go.RowKit
theorem handed_and_shaped {H : Type} {enc : TypeId × Value → H} {a : Assume} {C : Checked} {os : Os} {f : FuncId} {fn : Func} {s : ChangeSpec} {conds : List PathCond} {apart fresh handsOn again : Bool} {X : World → Array Value → Prop}
    (hX : ∀ (w w' : World) (args : Array Value), w.heap = w'.heap → X w args → X w' args)
    (own : ownKnob C.prog.godebug = none) (started : os.Started) (noInit : C.prog.inits.idxOf? f = none) (hfn : C.prog.funcs[f]? = some fn)
    (witness : ∃ (w : World) (tape : Tape) (i : Input), w.os = os ∧ (w.forCall tape i).Shaped C.prog ∧ i.vars = [] ∧ Input.okWide C.prog (w.forCall tape i) .any w.heap.size f i ∧
      ((s.pre enc C.prog fn conds apart (w.forCall tape i).memory i.args ∧ X (w.forCall tape i).memory i.args) ∧ sizedMet enc C.prog fn (OpenSpec.ofChange s) apart (w.forCall tape i).memory i.args) ∧ a.holds C.prog (lone (Frame.enter C.prog f i.args .normal) [] (w.forCall tape i)))
    (contract : ∀ (W : World) (base : Nat) (args : Array Value) (ds gs : List (DataW H)) (before : List MemPlace),
      (∀ (j : Nat) t v, fn.params[j]? = some t → args[j]? = some v → Value.okWide C.prog W .any base t v) →
      DataW.Whole enc C.prog fn.params.toList s.vars apart W args.toList ds gs before →
      conds.all (PathCond.test C.prog ⟨fn.params.toList, ds, s.plain.varTypes C.prog, gs⟩) = true →
      (DataW.weightsEach C.prog (fn.params.toList ++ s.plain.varTypes C.prog) (ds ++ gs)).all (· ≤ reachBytes) = true → X W args → W.ShapedOpen C.prog →
      a.holds C.prog (lone (Frame.enter C.prog f args .normal) [] W) →
      Calls C.prog f args W fun e W' => ∃ v, e = .returned v ∧ s.post enc C.prog fn apart fresh handsOn again W args v W') :
    ReturnsInHanded a C os f .any (fun w args => (s.pre enc C.prog fn conds apart w args ∧ X w args) ∧ sizedMet enc C.prog fn (OpenSpec.ofChange s) apart w args) (s.post enc C.prog fn apart fresh handsOn again) := by
  refine returnsInHanded_of_calls own started noInit witness ?_
  intro w tape i _ hsh _ hok hpre hholds
  obtain ⟨_, _, _, fn', hfn', _, _, _, _, hval⟩ := hok
  have e : fn' = fn := Option.some.inj (hfn'.symm.trans hfn)
  subst e
  obtain ⟨⟨⟨ds, gs, before, hw, hc⟩, hx⟩, hz⟩ := hpre
  have hw' := DataW.Whole.of_heap (w' := w.forCall tape i) (by rfl) hw
  refine (contract (w.forCall tape i) w.heap.size i.args ds gs before hval hw' hc (hz.weights hw) (hX _ _ _ (by rfl) hx) hsh hholds).mono fun e W' ⟨v, he, hp⟩ => ?_
  subst he
  exact ChangeSpec.post_blind hp
end Go.Proofs.YtdaojihnaajfeaaDoorX

set_option linter.unusedVariables false
namespace Go.Proofs.YtdaojihnaajfeaaDoorX
open Go Go.RowKit Go.Proofs
set_option maxRecDepth 100000
theorem shapedRow (xs : List T) (h : ShapesW Tryd.prog [9] xs) : FnC Tryd.prog 3 xs (tb true) := shapedQueryParses law_main xs h
end Go.Proofs.YtdaojihnaajfeaaDoorX
namespace Go.Proofs.YtdaojihnaajfeaaDoor.queryParses
open Go.ChangeShapes Go.WideShapes Go.ChangeAt Go.RowKit
set_option linter.unusedVariables false
theorem own : ownKnob Tryd.prog.godebug = none := by kernel_rfl
set_option maxRecDepth 100000 in
theorem lifted (os : Os) (started : os.Started) (H : Type) (enc : TypeId × Value → H) :
    ReturnsInHanded {} Tryd.checked os 3 .any (fun w args => (Rows.queryParsesSpec.pre enc Tryd.prog Tryd.f3 [] false w args ∧ laidMetH Tryd.prog Rows.queryParsesRow.laid w) ∧ sizedMet enc Tryd.prog Tryd.f3 (OpenSpec.ofChange Rows.queryParsesSpec) false w args) (Rows.queryParsesSpec.post enc Tryd.prog Tryd.f3 false true false false) := by
  refine YtdaojihnaajfeaaDoorX.handed_and_shaped (C := Tryd.checked) (X := fun w _ => laidMetH Tryd.prog Rows.queryParsesRow.laid w) (fun _ _ _ hh h => h.of_heap hh) own started (by kernel_rfl) Tryd.func3
    (ChangeSpec.witness_shaped (enc := enc) (C := Tryd.checked) (os := os) (X := fun w _ => laidMetH Tryd.prog Rows.queryParsesRow.laid w) false (World.laidAll Tryd.prog os Rows.queryParsesRow.laid) #[.string ByteArray.empty] 8 (World.laidAll_os _ _ _)
      (World.shaped_of_ZipB (by kernel_rfl) (by kernel_rfl)) (by kernel_rfl) (by kernel_rfl) (by kernel_rfl)
      (by rw [MakeChecks.laidMetH_plain _ _ _ (by kernel_rfl)]; exact laidMet_laidAll _ (by kernel_rfl) (by kernel_rfl))) ?_
  intro W base args ds gs before hval0 hW _ _ hL hsh _
  exact YtdaojihnaajfeaaDoorX.row_contract (P := Tryd.prog) (fn := Tryd.f3) (s := Rows.queryParsesSpec) (ts := [9]) (tb := 4) (L := [9]) (by kernel_rfl) (by kernel_rfl) (by kernel_rfl) (by kernel_rfl) (by kernel_rfl) (by kernel_rfl) rfl
    (fun H ds h => by
      match ds, h with
      | [d0], _ => rfl) YtdaojihnaajfeaaDoorX.shapedRow W (fun g hg => by
    have e : g = 0 := by simpa [YtdaojihnaajfeaaDoorX.globsI] using hg
    subst e
    exact cell_of_shapedOpen_int (P := Tryd.prog) (g := 0) (t := 3) (zero := #[.int .i64 0]) hsh (of_decide_eq_true (by kernel_rfl)) (by kernel_rfl) rfl (by kernel_rfl) (by kernel_rfl) Tryd.underlying3) base args ds gs before hval0 hW
theorem over : Rows.queryParsesRow.holds Tryd.pinned (OpenSpec.ofChange Rows.queryParsesSpec) :=
  OpenClaim.holds_of_wide 3 Tryd.f3 rfl rfl rfl rfl rfl rfl rfl ⟨rfl, rfl, rfl, rfl, rfl⟩ rfl rfl rfl rfl rfl (by kernel_rfl) Tryd.func3 (by kernel_rfl)
    (of_decide_eq_true (by kernel_rfl)) (by unfold Func.isWrapper; first | (rw [if_pos (by decide +kernel)]; kernel_rfl) | (rw [if_neg (by decide +kernel)]; exact ⟨rfl, rfl⟩))
    (fun os started H enc _ => lifted os started H enc)
theorem proved : Rows.QueryParsesCardSaid :=
  Claim7.holds_tied_plain_at .later [] [.data, .pinned] true (true, "ab0fcd7b148f43f0b787e0edd2a00380ea616befb36f3a8a87e567b9bc545811") false
    over (fun _ h => by cases h) (by kernel_rfl) (fun _ h => by cases h) queryParses_row_tie rfl ⟨rfl, rfl⟩ (by kernel_rfl) rfl
    (fun f fn hf hfn => by
      obtain rfl : f = 3 := Option.some.inj ((show Tryd.prog.funcNamed "shadowbox/shadowboxlaw29.QueryParses" = some 3 by kernel_rfl).symm.trans hf) |>.symm
      obtain rfl : fn = Tryd.f3 := (Option.some.inj (Tryd.func3.symm.trans hfn)).symm
      exact ⟨by kernel_rfl, fun j t ht => by
        rw [Tryd.params3] at ht
        have hm : t ∈ [9] := by simpa using Array.mem_of_getElem? ht
        have hall : ([9].all fun u => !Tryd.prog.wantsStandIn u) = true := by kernel_rfl
        exact (show Tryd.prog.wantsStandIn t = false by simpa using List.all_eq_true.1 hall t hm)⟩)
    (by kernel_rfl)
#print axioms proved
end Go.Proofs.YtdaojihnaajfeaaDoor.queryParses
namespace Go.Proofs.YtdaojihnaajfeaaDoor
theorem queryParses_holds : Rows.QueryParsesCardSaid := queryParses.proved
end Go.Proofs.YtdaojihnaajfeaaDoor
