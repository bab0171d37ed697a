/- Part of the proof of ReplyBack: walks and plain words, merged. -/
import Derived.Test.YtdjgldjebcoihaaDoorBReplyBackd
import Derived.Test.YtdjgldjebcoihaaDoorBReplyBackc
import Derived.Test.YtdjgldjebcoihaaDoorBReplyBackb
import Derived.Lib.SplitLaws
import Derived.Handed
import Derived.Shelf.Vars
import Derived.Test.YtdjgldjebcoihaaDoorRows
import Derived.Test.YtdjgldjebcoihaaDoorCards
import Derived.Test.YtdjgldjebcoihaaDoorTie
import Derived.Test.YtdjgldjebcoihaaDoorChecked
import Derived.WalkKit
import Derived.HandedShaped
import Derived.ProofKit
import Derived.OpenShut
import Derived.Lay
import Derived.LaidMore
import Derived.LaidOnce
import Derived.SevenTiedAt
set_option linter.unusedVariables false
set_option linter.unusedSimpArgs false

/- Words of responses' numbers: the program's and the reference's. -/
set_option linter.unusedVariables false
set_option linter.unusedSimpArgs false
namespace Go.Proofs.YtdjgldjebcoihaaDoorX
open Go
def codesR : List Int := [(200 : Int), (204 : Int), (206 : Int), (304 : Int), (400 : Int), (403 : Int), (404 : Int), (405 : Int), (409 : Int), (412 : Int), (413 : Int), (416 : Int), (431 : Int), (500 : Int), (501 : Int), (507 : Int)]
def wordsR : List (List UInt8) := [([79, 75] : List UInt8), ([78, 111, 32, 67, 111, 110, 116, 101, 110, 116] : List UInt8), ([80, 97, 114, 116, 105, 97, 108, 32, 67, 111, 110, 116, 101, 110, 116] : List UInt8), ([78, 111, 116, 32, 77, 111, 100, 105, 102, 105, 101, 100] : List UInt8), ([66, 97, 100, 32, 82, 101, 113, 117, 101, 115, 116] : List UInt8), ([70, 111, 114, 98, 105, 100, 100, 101, 110] : List UInt8), ([78, 111, 116, 32, 70, 111, 117, 110, 100] : List UInt8), ([77, 101, 116, 104, 111, 100, 32, 78, 111, 116, 32, 65, 108, 108, 111, 119, 101, 100] : List UInt8), ([67, 111, 110, 102, 108, 105, 99, 116] : List UInt8), ([80, 114, 101, 99, 111, 110, 100, 105, 116, 105, 111, 110, 32, 70, 97, 105, 108, 101, 100] : List UInt8), ([67, 111, 110, 116, 101, 110, 116, 32, 84, 111, 111, 32, 76, 97, 114, 103, 101] : List UInt8), ([82, 97, 110, 103, 101, 32, 78, 111, 116, 32, 83, 97, 116, 105, 115, 102, 105, 97, 98, 108, 101] : List UInt8), (82 :: 101 :: 113 :: 117 :: 101 :: 115 :: 116 :: 32 :: 72 :: 101 :: 97 :: 100 :: 101 :: 114 :: 32 :: 70 :: 105 :: 101 :: 108 :: 100 :: 115 :: 32 :: 84 :: 111 :: 111 :: 32 :: 76 :: 97 :: 114 :: 103 :: 101 :: ([] : List UInt8)), ([73, 110, 116, 101, 114, 110, 97, 108, 32, 83, 101, 114, 118, 101, 114, 32, 69, 114, 114, 111, 114] : List UInt8), ([78, 111, 116, 32, 73, 109, 112, 108, 101, 109, 101, 110, 116, 101, 100] : List UInt8), ([73, 110, 115, 117, 102, 102, 105, 99, 105, 101, 110, 116, 32, 83, 116, 111, 114, 97, 103, 101] : List UInt8)]
def findW : List Int → List (List UInt8) → Int → List UInt8
  | k :: ks, w :: ws, c => if k = c then w else findW ks ws c
  | _, _, _ => []
theorem fw_no {k c : Int} {w : List UInt8} {ks : List Int} {ws : List (List UInt8)} (h : ¬ c = k) : findW (k :: ks) (w :: ws) c = findW ks ws c := by
  rw [findW, if_neg (fun e => h e.symm)]
def reasonT (c : Int) : List UInt8 := findW codesR wordsR c
theorem Reason_eq (n : Nat) (c : Int) : F9 n c = some (reasonT c) := by
  rw [F9]
  unfold reasonT codesR wordsR
  by_cases h200 : c = 200
  · subst h200; rfl
  rw [show (c == (200 : Int)) = false from bq h200, iteB_f, fw_no h200]
  by_cases h204 : c = 204
  · subst h204; rfl
  rw [show (c == (204 : Int)) = false from bq h204, iteB_f, fw_no h204]
  by_cases h206 : c = 206
  · subst h206; rfl
  rw [show (c == (206 : Int)) = false from bq h206, iteB_f, fw_no h206]
  by_cases h304 : c = 304
  · subst h304; rfl
  rw [show (c == (304 : Int)) = false from bq h304, iteB_f, fw_no h304]
  by_cases h400 : c = 400
  · subst h400; rfl
  rw [show (c == (400 : Int)) = false from bq h400, iteB_f, fw_no h400]
  by_cases h403 : c = 403
  · subst h403; rfl
  rw [show (c == (403 : Int)) = false from bq h403, iteB_f, fw_no h403]
  by_cases h404 : c = 404
  · subst h404; rfl
  rw [show (c == (404 : Int)) = false from bq h404, iteB_f, fw_no h404]
  by_cases h405 : c = 405
  · subst h405; rfl
  rw [show (c == (405 : Int)) = false from bq h405, iteB_f, fw_no h405]
  by_cases h409 : c = 409
  · subst h409; rfl
  rw [show (c == (409 : Int)) = false from bq h409, iteB_f, fw_no h409]
  by_cases h412 : c = 412
  · subst h412; rfl
  rw [show (c == (412 : Int)) = false from bq h412, iteB_f, fw_no h412]
  by_cases h413 : c = 413
  · subst h413; rfl
  rw [show (c == (413 : Int)) = false from bq h413, iteB_f, fw_no h413]
  by_cases h416 : c = 416
  · subst h416; rfl
  rw [show (c == (416 : Int)) = false from bq h416, iteB_f, fw_no h416]
  by_cases h431 : c = 431
  · subst h431; rfl
  rw [show (c == (431 : Int)) = false from bq h431, iteB_f, fw_no h431]
  by_cases h500 : c = 500
  · subst h500; rfl
  rw [show (c == (500 : Int)) = false from bq h500, iteB_f, fw_no h500]
  by_cases h501 : c = 501
  · subst h501; rfl
  rw [show (c == (501 : Int)) = false from bq h501, iteB_f, fw_no h501]
  by_cases h507 : c = 507
  · subst h507; rfl
  rw [show (c == (507 : Int)) = false from bq h507, iteB_f, fw_no h507]
  rfl
theorem reason_len (c : Int) : (reasonT c).length ≤ 100 := by
  have h : ∀ (ks : List Int) (ws : List (List UInt8)), (∀ w ∈ ws, w.length ≤ 100) → (findW ks ws c).length ≤ 100 := by
    intro ks
    induction ks with
    | nil => intro ws _; rw [findW]; exact Nat.zero_le _; simp
    | cons k ks ih =>
      intro ws hw
      cases ws with
      | nil => rw [findW]; exact Nat.zero_le _; simp
      | cons w ws =>
        rw [findW]
        split
        · exact hw w (by simp)
        · exact ih ws fun x hx => hw x (by simp [hx])
  exact h _ _ (by decide)
theorem reason_code (c : Int) (h : reasonT c ≠ []) : 0 ≤ c ∧ c ≤ 1000 := by
  have key : ∀ (ks : List Int) (ws : List (List UInt8)), findW ks ws c ≠ [] → c ∈ ks := by
    intro ks
    induction ks with
    | nil => intro ws k; rw [findW] at k; exact absurd rfl k; simp
    | cons k ks ih =>
      intro ws hw
      cases ws with
      | nil => rw [findW] at hw; exact absurd rfl hw; simp
      | cons w ws =>
        rw [findW] at hw
        split at hw
        · rename_i e; simp [e]
        · exact List.mem_cons_of_mem _ (ih ws hw)
  have hm := key _ _ h
  exact (show ∀ x ∈ codesR, 0 ≤ x ∧ x ≤ 1000 by decide) c hm
end Go.Proofs.YtdjgldjebcoihaaDoorX

set_option linter.unusedVariables false
set_option linter.unusedSimpArgs false
namespace Go.Proofs.YtdjgldjebcoihaaDoorX
open Go Go.RowKit Go.Proofs
set_option maxRecDepth 100000
attribute [local go_sem ↓] stepsK_build stepsK_bs appendS
attribute [local go_sem] String.reduceEq String.reduceNe reduceCtorEq Int.reduceEq Nat.reduceAdd Nat.reduceSub Nat.reduceMul Nat.reduceLT Nat.reduceLeDiff Nat.reduceEqDiff Nat.reduceBEq Int.reduceToNat Int.reduceLT Int.reduceLE Int.reduceGT Int.reduceGE Int.reduceAdd Int.reduceSub Int.reduceMul Int.reduceNeg Int.reduceBEq Int.reduceBNe Int.reducePow Int.reduceDiv Int.reduceMod Int.reduceTDiv Int.reduceTMod Int.reduceNatCast
end Go.Proofs.YtdjgldjebcoihaaDoorX

set_option linter.unusedVariables false
set_option linter.unusedSimpArgs false
namespace Go.Proofs.YtdjgldjebcoihaaDoorX
open Go Go.RowKit Go.Proofs
set_option maxRecDepth 100000
attribute [local go_sem ↓] stepsK_build stepsK_bs appendS
attribute [local go_sem] String.reduceEq String.reduceNe reduceCtorEq Int.reduceEq Nat.reduceAdd Nat.reduceSub Nat.reduceMul Nat.reduceLT Nat.reduceLeDiff Nat.reduceEqDiff Nat.reduceBEq Int.reduceToNat Int.reduceLT Int.reduceLE Int.reduceGT Int.reduceGE Int.reduceAdd Int.reduceSub Int.reduceMul Int.reduceNeg Int.reduceBEq Int.reduceBNe Int.reducePow Int.reduceDiv Int.reduceMod Int.reduceTDiv Int.reduceTMod Int.reduceNatCast
end Go.Proofs.YtdjgldjebcoihaaDoorX

/- Blanks at both ends: words, and the reference's. -/
set_option linter.unusedVariables false
set_option linter.unusedSimpArgs false
namespace Go.Proofs.YtdjgldjebcoihaaDoorX
open Go
def isBl (c : UInt8) : Bool := c == 32 || c == 9
def trimL : List UInt8 → List UInt8
  | [] => []
  | c :: l => if isBl c = true then trimL l else c :: l
def trimR : List UInt8 → List UInt8
  | [] => []
  | c :: l => if trimR l = [] then (if isBl c = true then [] else [c]) else c :: trimR l
def trimT (s : List UInt8) : List UInt8 := trimL (trimR s)
theorem bl_contains (c : UInt8) : ([32, 9] : List UInt8).contains c = isBl c := by
  simp only [List.contains_cons, List.contains_nil, Bool.or_false, isBl]
theorem trimR_snoc (c : UInt8) : ∀ l : List UInt8, trimR (l ++ [c]) = if isBl c = true then trimR l else l ++ [c]
  | [] => by
    show (if trimR [] = [] then _ else _) = _
    rw [if_pos (show trimR [] = [] from rfl)]; rfl
  | x :: l => by
    rw [show (x :: l) ++ [c] = x :: (l ++ [c]) from rfl, trimR, trimR_snoc c l]
    by_cases h : isBl c = true
    · rw [if_pos h, if_pos h, trimR]
    · rw [if_neg h, if_neg h, if_neg (by simp)]
theorem rev_ind {α : Type} {p : List α → Prop} (h0 : p []) (h1 : ∀ l a, p l → p (l ++ [a])) : ∀ l, p l := by
  intro l
  rw [← List.reverse_reverse l]
  generalize l.reverse = m
  induction m with
  | nil => exact h0
  | cons a m ih => rw [List.reverse_cons]; exact h1 _ _ ih
theorem trim_comm : ∀ l : List UInt8, trimL (trimR l) = trimR (trimL l)
  | [] => rfl
  | c :: l => by
    have ih := trim_comm l
    by_cases h : isBl c = true
    · rw [show trimL (c :: l) = trimL l by rw [trimL, if_pos h], ← ih, trimR]
      by_cases hr : trimR l = []
      · rw [if_pos hr, if_pos h, hr]
      · rw [if_neg hr, trimL, if_pos h]
    · rw [show trimL (c :: l) = c :: l by rw [trimL, if_neg h], trimR]
      by_cases hr : trimR l = []
      · rw [if_pos hr, if_neg h, trimL, if_neg h]
      · rw [if_neg hr, trimL, if_neg h]
end Go.Proofs.YtdjgldjebcoihaaDoorX

/- Blanks at both ends: strings.Trim. -/
set_option linter.unusedVariables false
set_option linter.unusedSimpArgs false
namespace Go.Proofs.YtdjgldjebcoihaaDoorX
open Go
theorem trimL_eq : ∀ l : List UInt8, Lib.trimLeftS l [32, 9] = trimL l
  | [] => rfl
  | c :: l => by
    have ih := trimL_eq l
    unfold Lib.trimLeftS at ih ⊢
    rw [List.dropWhile_cons, bl_contains, ih]
    rfl
theorem trimR_eq (l : List UInt8) : Lib.trimRightS l [32, 9] = trimR l := by
  induction l using rev_ind with
  | h0 => rfl
  | h1 l c ih =>
    unfold Lib.trimRightS at ih ⊢
    rw [List.reverse_append, List.reverse_singleton, List.singleton_append, List.dropWhile_cons, bl_contains, trimR_snoc]
    by_cases h : isBl c = true
    · rw [if_pos h, if_pos h, ih]
    · rw [if_neg h, if_neg h, List.reverse_cons, List.reverse_reverse]
theorem Trim_eq (n : Nat) (s : List UInt8) (hs : s.length ≤ 1000000000) : F47 n s [32, 9] = some (trimT s) := by
  unfold F47 Lib.trimS
  rw [if_pos ⟨by omega, by decide, by decide⟩, trimL_eq, trimR_eq]; rfl
end Go.Proofs.YtdjgldjebcoihaaDoorX

/- strings.Builder, plain. -/
set_option linter.unusedVariables false
set_option linter.unusedSimpArgs false
namespace Go.Proofs.YtdjgldjebcoihaaDoorX
open Go
theorem bld_String (n : Nat) (b : Bool) (l : List Int) (h : Bytes l) (hl : l.length ≤ 549755813888) : F31 n (b, l) = some (l.map toB, (b, l)) := by
  unfold F31
  exact if_pos ⟨hl, all_bytes h⟩
theorem bld_Write (n : Nat) (b : Bool) (l : List Int) (s : List UInt8) (hl : l.length + s.length ≤ 549755813888) : F30 n (b, l) s = some ((s.length : Int), (), true, l ++ ints s) := by
  unfold F30
  rw [show F51 n (b, l) = some (true, l) from rfl, bind_some', grd_t _ hl]
  rfl
end Go.Proofs.YtdjgldjebcoihaaDoorX

/- Texts cut at a byte. -/
set_option linter.unusedVariables false
set_option linter.unusedSimpArgs false
namespace Go.Proofs.YtdjgldjebcoihaaDoorX
open Go
def splitB (c : UInt8) : List UInt8 → List (List UInt8)
  | [] => [[]]
  | x :: l => if x = c then [] :: splitB c l else match splitB c l with
    | [] => [[x]]
    | y :: ys => (x :: y) :: ys
theorem split_ne (c : UInt8) : ∀ l, splitB c l ≠ []
  | [] => by simp [splitB]
  | x :: l => by
    rw [splitB]
    split
    · simp
    · split <;> simp
theorem idx_cases (c : UInt8) : ∀ s : List UInt8, (Lib.indexByte s c = -1 ∧ c ∉ s ∧ s.count c = 0 ∧ splitB c s = [s]) ∨
    ∃ m : Nat, m < s.length ∧ Lib.indexByte s c = (m : Int) ∧ c ∉ s.take m ∧ s = s.take m ++ c :: s.drop (m + 1) ∧ s.count c = 1 + (s.drop (m + 1)).count c ∧ splitB c s = s.take m :: splitB c (s.drop (m + 1))
  | [] => .inl ⟨rfl, by simp, rfl, rfl⟩
  | x :: l => by
    by_cases h : x = c
    · subst h
      refine .inr ⟨0, by simp, ?_, by simp, by simp, by simp; omega, by simp [splitB]⟩
      rw [Lib.indexByte, beq_self_eq_true, if_pos rfl]; rfl
    · have hb : (x == c) = false := by rw [beq_eq_false_iff_ne]; exact h
      rcases idx_cases c l with ⟨h1, h2, h3, h4⟩ | ⟨m, h1, h2, h3, h4, h5, h6⟩
      · refine .inl ⟨?_, ?_, ?_, ?_⟩
        · rw [Lib.indexByte, hb, h1]; rfl
        · simp only [List.mem_cons, not_or]; exact ⟨fun e => h e.symm, h2⟩
        · rw [List.count_cons_of_ne h, h3]
        · rw [splitB, if_neg h, h4]
      · refine .inr ⟨m + 1, by simp; omega, ?_, ?_, ?_, ?_, ?_⟩
        · rw [Lib.indexByte, hb, h2]
          simp only [Bool.false_eq_true, if_false]
          rw [if_neg (by rw [beq_iff_eq]; omega)]; omega
        · rw [List.take_succ_cons]; simp only [List.mem_cons, not_or]; exact ⟨fun e => h e.symm, h3⟩
        · rw [List.take_succ_cons, List.drop_succ_cons, List.cons_append, ← h4]
        · rw [List.count_cons_of_ne h, List.drop_succ_cons, h5]
        · rw [splitB, if_neg h, h6, List.take_succ_cons, List.drop_succ_cons]
theorem Index_eq (n : Nat) (s : List UInt8) (c : UInt8) : F78 n s [c] = some (Lib.indexByte s c) := rfl
def cutB (c : UInt8) (s : List UInt8) : List UInt8 × List UInt8 × Bool := if c ∈ s then (s.take (Lib.indexByte s c).toNat, s.drop ((Lib.indexByte s c).toNat + 1), true) else (s, [], false)
theorem Cut_eq (n : Nat) (s : List UInt8) (c : UInt8) (hs : s.length ≤ 1000000) : F44 n s [c] = some (cutB c s) := by
  unfold cutB
  rw [F44, F59, Index_eq, bind_some', show (([c] : List UInt8).length : Int) = 1 from rfl]
  rcases idx_cases c s with ⟨h1, h2, h3, h4⟩ | ⟨m, h1, h2, h3, h4, h5, h6⟩
  · rw [if_neg h2, h1]; rfl
  · have hm : c ∈ s := by rw [h4]; simp
    rw [if_pos hm, h2, decide_eq_true (by omega), iteB_t, w64 (by omega), grd_t _ (by omega), grd_t _ (by omega), bind_some', show ((m : Int) + 1).toNat = m + 1 by omega, toNat_nat]
theorem idx_app (c : UInt8) (b : List UInt8) : ∀ a : List UInt8, c ∉ a → Lib.indexByte (a ++ c :: b) c = (a.length : Int)
  | [], _ => by rw [List.nil_append, Lib.indexByte, beq_self_eq_true, if_pos rfl]; rfl
  | x :: a, h => by
    simp only [List.mem_cons, not_or] at h
    rw [List.cons_append, Lib.indexByte, show (x == c) = false by (rw [beq_eq_false_iff_ne]; exact fun e => h.1 e.symm), idx_app c b a h.2]
    simp only [Bool.false_eq_true, if_false]
    rw [if_neg (by rw [beq_iff_eq]; omega), List.length_cons]; omega
theorem cut_app (c : UInt8) (a b : List UInt8) (h : c ∉ a) : cutB c (a ++ c :: b) = (a, b, true) := by
  unfold cutB
  rw [if_pos (by simp), idx_app c b a h, toNat_nat, List.take_left']
  · rw [show a.length + 1 = (a ++ [c]).length by simp, show a ++ c :: b = (a ++ [c]) ++ b by simp, List.drop_left']; rfl
  · rfl
end Go.Proofs.YtdjgldjebcoihaaDoorX

set_option linter.unusedVariables false
set_option linter.unusedSimpArgs false
namespace Go.Proofs.YtdjgldjebcoihaaDoorX
open Go Go.RowKit Go.Proofs
set_option maxRecDepth 100000
attribute [local go_sem ↓] stepsK_build stepsK_bs appendS
attribute [local go_sem] String.reduceEq String.reduceNe reduceCtorEq Int.reduceEq Nat.reduceAdd Nat.reduceSub Nat.reduceMul Nat.reduceLT Nat.reduceLeDiff Nat.reduceEqDiff Nat.reduceBEq Int.reduceToNat Int.reduceLT Int.reduceLE Int.reduceGT Int.reduceGE Int.reduceAdd Int.reduceSub Int.reduceMul Int.reduceNeg Int.reduceBEq Int.reduceBNe Int.reducePow Int.reduceDiv Int.reduceMod Int.reduceTDiv Int.reduceTMod Int.reduceNatCast
/-! ### shadowboxref04.Kind -/
def F35 (n : Nat) (a0 : Int) : Option (Int) := iteB (decide ((48 : Int) ≤ a0)) (iteB (decide (a0 ≤ (57 : Int))) (some (1 : Int)) (iteB (decide ((97 : Int) ≤ a0)) (iteB (decide (a0 ≤ (102 : Int))) (some (2 : Int)) (iteB (decide ((103 : Int) ≤ a0)) (iteB (decide (a0 ≤ (122 : Int))) (some (3 : Int)) (iteB (decide ((65 : Int) ≤ a0)) (iteB (decide (a0 ≤ (90 : Int))) (some (4 : Int)) (some (0 : Int))) (some (0 : Int)))) (iteB (decide ((65 : Int) ≤ a0)) (iteB (decide (a0 ≤ (90 : Int))) (some (4 : Int)) (some (0 : Int))) (some (0 : Int))))) (iteB (decide ((103 : Int) ≤ a0)) (iteB (decide (a0 ≤ (122 : Int))) (some (3 : Int)) (iteB (decide ((65 : Int) ≤ a0)) (iteB (decide (a0 ≤ (90 : Int))) (some (4 : Int)) (some (0 : Int))) (some (0 : Int)))) (iteB (decide ((65 : Int) ≤ a0)) (iteB (decide (a0 ≤ (90 : Int))) (some (4 : Int)) (some (0 : Int))) (some (0 : Int)))))) (iteB (decide ((97 : Int) ≤ a0)) (iteB (decide (a0 ≤ (102 : Int))) (some (2 : Int)) (iteB (decide ((103 : Int) ≤ a0)) (iteB (decide (a0 ≤ (122 : Int))) (some (3 : Int)) (iteB (decide ((65 : Int) ≤ a0)) (iteB (decide (a0 ≤ (90 : Int))) (some (4 : Int)) (some (0 : Int))) (some (0 : Int)))) (iteB (decide ((65 : Int) ≤ a0)) (iteB (decide (a0 ≤ (90 : Int))) (some (4 : Int)) (some (0 : Int))) (some (0 : Int))))) (iteB (decide ((103 : Int) ≤ a0)) (iteB (decide (a0 ≤ (122 : Int))) (some (3 : Int)) (iteB (decide ((65 : Int) ≤ a0)) (iteB (decide (a0 ≤ (90 : Int))) (some (4 : Int)) (some (0 : Int))) (some (0 : Int)))) (iteB (decide ((65 : Int) ≤ a0)) (iteB (decide (a0 ≤ (90 : Int))) (some (4 : Int)) (some (0 : Int))) (some (0 : Int)))))
end Go.Proofs.YtdjgldjebcoihaaDoorX

/- The reference's kinds of bytes. -/
set_option linter.unusedVariables false
set_option linter.unusedSimpArgs false
namespace Go.Proofs.YtdjgldjebcoihaaDoorX
open Go
theorem kind_fin : ∀ c : Fin 256, F35 0 (c.val : Int) = some (kindOf (c.val : Int)) := by decide +kernel
theorem rKind_eq (n : Nat) (c : UInt8) : F35 n (c.toNat : Int) = some (kindOf (c.toNat : Int)) := kind_fin ⟨c.toNat, c.toNat_lt⟩
end Go.Proofs.YtdjgldjebcoihaaDoorX

set_option linter.unusedVariables false
set_option linter.unusedSimpArgs false
namespace Go.Proofs.YtdjgldjebcoihaaDoorX
open Go Go.RowKit Go.Proofs
set_option maxRecDepth 100000
attribute [local go_sem ↓] stepsK_build stepsK_bs appendS
attribute [local go_sem] String.reduceEq String.reduceNe reduceCtorEq Int.reduceEq Nat.reduceAdd Nat.reduceSub Nat.reduceMul Nat.reduceLT Nat.reduceLeDiff Nat.reduceEqDiff Nat.reduceBEq Int.reduceToNat Int.reduceLT Int.reduceLE Int.reduceGT Int.reduceGE Int.reduceAdd Int.reduceSub Int.reduceMul Int.reduceNeg Int.reduceBEq Int.reduceBNe Int.reducePow Int.reduceDiv Int.reduceMod Int.reduceTDiv Int.reduceTMod Int.reduceNatCast
def F52_L1 : Nat → (Int) → (Int) → Option (Bool)
 | 0, _, _ => none
 | m1 + 1, a0, x3 => iteB (decide (x3 < (14 : Int))) (grd (0 ≤ x3 ∧ x3 < (14 : Int)) (iteB (((([33, 35, 36, 37, 38, 39, 42, 43, 45, 46, 94, 95, 124, 126] : List UInt8).getD x3.toNat 0).toNat : Int) == a0) (some true) (F52_L1 m1 a0 (IntKind.wrap .i64 (x3 + (1 : Int)))))) (some (a0 == (96 : Int)))
def F52 (n : Nat) (a0 : Int) : Option (Bool) := (F35 n a0).bind fun v1 => iteB (v1 != (0 : Int)) (some true) (F52_L1 n a0 (0 : Int))
end Go.Proofs.YtdjgldjebcoihaaDoorX

set_option linter.unusedVariables false
set_option linter.unusedSimpArgs false
namespace Go.Proofs.YtdjgldjebcoihaaDoorX
open Go Go.RowKit Go.Proofs
set_option maxRecDepth 100000
attribute [local go_sem ↓] stepsK_build stepsK_bs appendS
attribute [local go_sem] String.reduceEq String.reduceNe reduceCtorEq Int.reduceEq Nat.reduceAdd Nat.reduceSub Nat.reduceMul Nat.reduceLT Nat.reduceLeDiff Nat.reduceEqDiff Nat.reduceBEq Int.reduceToNat Int.reduceLT Int.reduceLE Int.reduceGT Int.reduceGE Int.reduceAdd Int.reduceSub Int.reduceMul Int.reduceNeg Int.reduceBEq Int.reduceBNe Int.reducePow Int.reduceDiv Int.reduceMod Int.reduceTDiv Int.reduceTMod Int.reduceNatCast
def F32_L1 : Nat → (List UInt8) → (Int) → Option (Bool)
 | 0, _, _ => none
 | m1 + 1, a0, x1 => iteB (decide (x1 < (a0.length : Int))) (grd (0 ≤ x1 ∧ x1 < (a0.length : Int)) ((F52 m1 ((a0.getD x1.toNat 0).toNat : Int)).bind fun v4 => iteB (!v4) (some false) (F32_L1 m1 a0 (IntKind.wrap .i64 (x1 + (1 : Int)))))) (some (decide ((0 : Int) < (a0.length : Int))))
end Go.Proofs.YtdjgldjebcoihaaDoorX

set_option linter.unusedVariables false
set_option linter.unusedSimpArgs false
namespace Go.Proofs.YtdjgldjebcoihaaDoorX
open Go Go.RowKit Go.Proofs
set_option maxRecDepth 100000
attribute [local go_sem ↓] stepsK_build stepsK_bs appendS
attribute [local go_sem] String.reduceEq String.reduceNe reduceCtorEq Int.reduceEq Nat.reduceAdd Nat.reduceSub Nat.reduceMul Nat.reduceLT Nat.reduceLeDiff Nat.reduceEqDiff Nat.reduceBEq Int.reduceToNat Int.reduceLT Int.reduceLE Int.reduceGT Int.reduceGE Int.reduceAdd Int.reduceSub Int.reduceMul Int.reduceNeg Int.reduceBEq Int.reduceBNe Int.reducePow Int.reduceDiv Int.reduceMod Int.reduceTDiv Int.reduceTMod Int.reduceNatCast
def F33_L1 : Nat → (List UInt8) → (Int) → Option (Bool)
 | 0, _, _ => none
 | m1 + 1, a0, x1 => iteB (decide (x1 < (a0.length : Int))) (grd (0 ≤ x1 ∧ x1 < (a0.length : Int)) (iteB (((a0.getD x1.toNat 0).toNat : Int) != (9 : Int)) (grd (0 ≤ x1 ∧ x1 < (a0.length : Int)) (iteB (decide (((a0.getD x1.toNat 0).toNat : Int) < (32 : Int))) (some false) (grd (0 ≤ x1 ∧ x1 < (a0.length : Int)) (iteB (((a0.getD x1.toNat 0).toNat : Int) == (127 : Int)) (some false) (F33_L1 m1 a0 (IntKind.wrap .i64 (x1 + (1 : Int)))))))) (F33_L1 m1 a0 (IntKind.wrap .i64 (x1 + (1 : Int)))))) (some true)
end Go.Proofs.YtdjgldjebcoihaaDoorX

set_option linter.unusedVariables false
set_option linter.unusedSimpArgs false
namespace Go.Proofs.YtdjgldjebcoihaaDoorX
open Go Go.RowKit Go.Proofs
set_option maxRecDepth 100000
attribute [local go_sem ↓] stepsK_build stepsK_bs appendS
attribute [local go_sem] String.reduceEq String.reduceNe reduceCtorEq Int.reduceEq Nat.reduceAdd Nat.reduceSub Nat.reduceMul Nat.reduceLT Nat.reduceLeDiff Nat.reduceEqDiff Nat.reduceBEq Int.reduceToNat Int.reduceLT Int.reduceLE Int.reduceGT Int.reduceGE Int.reduceAdd Int.reduceSub Int.reduceMul Int.reduceNeg Int.reduceBEq Int.reduceBNe Int.reducePow Int.reduceDiv Int.reduceMod Int.reduceTDiv Int.reduceTMod Int.reduceNatCast
end Go.Proofs.YtdjgldjebcoihaaDoorX

/- Lines of a head: tokens, values, fields, and how they are put; the program's and the reference's. -/
set_option linter.unusedVariables false
set_option linter.unusedSimpArgs false
namespace Go.Proofs.YtdjgldjebcoihaaDoorX
open Go
def sgP : List Int := [33, 35, 36, 37, 38, 39, 42, 43, 45, 46, 94, 95, 96, 124, 126]
def sgR : List UInt8 := [33, 35, 36, 37, 38, 39, 42, 43, 45, 46, 94, 95, 124, 126]
def tokI (x : Int) : Bool := sgP.contains x || (kindOf x != 0)
theorem tok_loop (x : Int) : ∀ (d i : Nat), i + d = 15 → Ev (fun n => F60_L1 n x sgP (i : Int)) ((sgP.drop i).contains x || (kindOf x != 0)) := by
  intro d
  induction d with
  | zero =>
    intro i hi
    obtain rfl : i = 15 := by omega
    exact Ev.step (Ev.pure.congr fun n => by
      rw [F60_L1, decide_eq_false (by omega), iteB_f]; rfl)
  | succ d ih =>
    intro i hi
    have hl : sgP.length = 15 := rfl
    rw [drop_cons sgP i 0 (by omega), List.contains_cons]
    have hg : sgP.getD i default = sgP.getD i 0 := rfl
    by_cases h : sgP.getD i 0 = x
    · refine Ev.step (Ev.pure.congr fun n => ?_)
      rw [F60_L1, decide_eq_true (by omega), iteB_t, toNat_nat, grd_t _ (by omega), hg, h, beq_self_eq_true, iteB_t]; rfl
    · rw [bq (show ¬ x = sgP.getD i 0 from fun e => h e.symm), Bool.false_or]
      refine Ev.step ((ih (i + 1) (by omega)).congr fun n => ?_)
      rw [F60_L1, decide_eq_true (by omega), iteB_t, toNat_nat, grd_t _ (by omega), hg, bq h, iteB_f, g64 i (by omega)]
theorem ev_tok (x : Int) : Ev (fun n => F60 n x) (tokI x) :=
  (tok_loop x 15 0 rfl).congr fun n => rfl
theorem sign_loop (x : Int) : ∀ (d i : Nat), i + d = 14 → Ev (fun n => F52_L1 n x (i : Int)) (((ints sgR).drop i).contains x || (x == 96)) := by
  intro d
  induction d with
  | zero =>
    intro i hi
    obtain rfl : i = 14 := by omega
    exact Ev.step (Ev.pure.congr fun n => by
      rw [F52_L1, decide_eq_false (by omega), iteB_f]; rfl)
  | succ d ih =>
    intro i hi
    have hl : sgR.length = 14 := rfl
    rw [drop_bt sgR i (by omega), List.contains_cons]
    by_cases h : bt sgR i = x
    · refine Ev.step (Ev.pure.congr fun n => ?_)
      rw [F52_L1, decide_eq_true (by omega), iteB_t, toNat_nat, grd_t _ (by omega)]
      show iteB (bt sgR i == x) _ _ = _
      rw [h, beq_self_eq_true, iteB_t]; rfl
    · rw [bq (show ¬ x = bt sgR i from fun e => h e.symm), Bool.false_or]
      refine Ev.step ((ih (i + 1) (by omega)).congr fun n => ?_)
      rw [F52_L1, decide_eq_true (by omega), iteB_t, toNat_nat, grd_t _ (by omega)]
      show iteB (bt sgR i == x) _ _ = _
      rw [bq h, iteB_f, g64 i (by omega)]
theorem tok_fin : ∀ c : Fin 256, (if kindOf (c.val : Int) ≠ 0 then true else (((ints sgR).drop 0).contains (c.val : Int) || ((c.val : Int) == 96))) = tokI (c.val : Int) := by decide +kernel
theorem ev_sign (c : UInt8) : Ev (fun n => F52 n (c.toNat : Int)) (tokI (c.toNat : Int)) := by
  have h := tok_fin ⟨c.toNat, c.toNat_lt⟩
  dsimp only at h
  rw [← h]
  by_cases hk : kindOf (c.toNat : Int) ≠ 0
  · rw [if_pos hk]
    refine Ev.pure.congr fun n => ?_
    rw [F52, rKind_eq, bind_some', show (kindOf (c.toNat : Int) != 0) = true by rw [bne_iff_ne]; exact hk, iteB_t]
  · rw [if_neg hk]
    refine (sign_loop (c.toNat : Int) 14 0 rfl).congr fun n => ?_
    rw [F52, rKind_eq, bind_some', show (kindOf (c.toNat : Int) != 0) = false by rw [bne_eq_false_iff_eq]; exact Decidable.not_not.1 hk, iteB_f]
    rfl
def tokT (s : List UInt8) : Bool := (ints s).all tokI && !(s == [])
theorem Token_loop (s : List UInt8) (hs : s.length ≤ 1000000000) : ∀ (d i : Nat), i + d = s.length →
    Ev (fun n => F45_L1 n s (i : Int)) (((ints s).drop i).all tokI && !(s == [])) ∧ Ev (fun n => F32_L1 n s (i : Int)) (((ints s).drop i).all tokI && !(s == [])) := by
  intro d
  induction d with
  | zero =>
    intro i hi
    rw [List.drop_of_length_le (by rw [ints_len]; omega)]
    refine ⟨Ev.step (Ev.pure.congr fun n => ?_), Ev.step (Ev.pure.congr fun n => ?_)⟩
    · rw [F45_L1, decide_eq_false (by omega), iteB_f]; rfl
    · rw [F32_L1, decide_eq_false (by omega), iteB_f]
      cases s with
      | nil => rfl
      | cons a r => rw [decide_eq_true (by simp)]; rfl
  | succ d ih =>
    intro i hi
    obtain ⟨⟨N1, i1⟩, ⟨N2, i2⟩⟩ := ih (i + 1) (by omega)
    obtain ⟨M1, j1⟩ := ev_tok (bt s i)
    obtain ⟨M2, j2⟩ := ev_sign (s.getD i 0)
    rw [drop_bt s i (by omega), List.all_cons]
    refine ⟨Ev.step ⟨N1 + M1, fun n hn => ?_⟩, Ev.step ⟨N2 + M2, fun n hn => ?_⟩⟩
    · have q1 := i1 n (by omega)
      have q2 := j1 n (by omega)
      dsimp only at q1 q2
      show F45_L1 (n + 1) s (i : Int) = _
      rw [F45_L1, decide_eq_true (by omega), iteB_t, toNat_nat, grd_t _ (by omega), g64 i (by omega)]
      show (F60 n (bt s i)).bind _ = _
      rw [q2, bind_some']
      cases tokI (bt s i) with
      | true => rw [Bool.not_true, iteB_f, q1]; rfl
      | false => rfl
    · have q1 := i2 n (by omega)
      have q2 := j2 n (by omega)
      dsimp only at q1 q2
      show F32_L1 (n + 1) s (i : Int) = _
      rw [F32_L1, decide_eq_true (by omega), iteB_t, toNat_nat, grd_t _ (by omega), g64 i (by omega)]
      rw [q2, bind_some']
      show iteB (!tokI (bt s i)) _ _ = some ((tokI (bt s i) && _) && _)
      cases tokI (bt s i) with
      | true => rw [Bool.not_true, iteB_f, q1]; rfl
      | false => rfl
theorem ev_Token (s : List UInt8) (hs : s.length ≤ 1000000000) : Ev (fun n => F45 n s) (tokT s) := ((Token_loop s hs s.length 0 (by omega)).1).congr fun n => rfl
def valI (x : Int) : Bool := if x = 9 then true else if x < 32 then false else if x = 127 then false else true
def valT (s : List UInt8) : Bool := (ints s).all valI
theorem Value_loop (s : List UInt8) (hs : s.length ≤ 1000000000) : ∀ (d i : Nat), i + d = s.length →
    Ev (fun n => F46_L1 n s (i : Int)) (((ints s).drop i).all valI) ∧ Ev (fun n => F33_L1 n s (i : Int)) (((ints s).drop i).all valI) := by
  intro d
  induction d with
  | zero =>
    intro i hi
    rw [List.drop_of_length_le (by rw [ints_len]; omega)]
    exact ⟨Ev.step (Ev.pure.congr fun n => by rw [F46_L1, decide_eq_false (by omega), iteB_f]; rfl), Ev.step (Ev.pure.congr fun n => by rw [F33_L1, decide_eq_false (by omega), iteB_f]; rfl)⟩
  | succ d ih =>
    intro i hi
    obtain ⟨⟨N1, i1⟩, ⟨N2, i2⟩⟩ := ih (i + 1) (by omega)
    rw [drop_bt s i (by omega), List.all_cons]
    have key : ∀ (x : Int) (A : Option Bool) (q : Bool), A = some q → iteB (x != 9) (iteB (decide (x < 32)) (some false) (iteB (x == 127) (some false) A)) A = some (valI x && q) := by
      intro x A q hA
      subst hA
      unfold valI
      by_cases h9 : x = 9
      · rw [show (x != 9) = false by rw [h9]; rfl, iteB_f, if_pos h9]; rfl
      · rw [show (x != 9) = true by rw [bne, bq h9]; rfl, iteB_t, if_neg h9]
        by_cases h3 : x < 32
        · rw [decide_eq_true h3, iteB_t, if_pos h3]; rfl
        · rw [decide_eq_false h3, iteB_f, if_neg h3]
          by_cases h1 : x = 127
          · rw [bqt h1, iteB_t, if_pos h1]; rfl
          · rw [bq h1, iteB_f, if_neg h1]; rfl
    refine ⟨Ev.step ⟨N1, fun n hn => ?_⟩, Ev.step ⟨N2, fun n hn => ?_⟩⟩
    · have q1 := i1 n (by omega)
      dsimp only at q1
      show F46_L1 (n + 1) s (i : Int) = _
      rw [F46_L1, decide_eq_true (by omega), iteB_t, toNat_nat, grd_t _ (by omega), g64 i (by omega)]
      exact key (bt s i) _ _ q1
    · have q1 := i2 n (by omega)
      dsimp only at q1
      show F33_L1 (n + 1) s (i : Int) = _
      rw [F33_L1, decide_eq_true (by omega), iteB_t, toNat_nat, g64 i (by omega)]
      simp only [grd_t _ (show 0 ≤ (i : Int) ∧ (i : Int) < (s.length : Int) by omega)]
      exact key (bt s i) _ _ q1
theorem ev_Value (s : List UInt8) (hs : s.length ≤ 1000000000) : Ev (fun n => F46 n s) (valT s) := ((Value_loop s hs s.length 0 (by omega)).1).congr fun n => rfl
def lineT (s : List UInt8) : (List UInt8 × List UInt8) × Bool :=
  if (cutB 58 s).2.2 = true ∧ tokT (cutB 58 s).1 = true ∧ valT (cutB 58 s).2.1 = true then (((cutB 58 s).1, trimT (cutB 58 s).2.1), true) else (([], []), false)
theorem cutB_len (c : UInt8) (s : List UInt8) : (cutB c s).1.length ≤ s.length ∧ (cutB c s).2.1.length ≤ s.length := by
  unfold cutB
  split
  · simp only [List.length_take, List.length_drop]; omega
  · simp
theorem ev_Line (s : List UInt8) (hs : s.length ≤ 1000000) : Ev (fun n => F27 n s) (lineT s) := by
  obtain ⟨l1, l2⟩ := cutB_len 58 s
  obtain ⟨N1, e1⟩ := ev_Token (cutB 58 s).1 (by omega)
  obtain ⟨N2, e2⟩ := ev_Value (cutB 58 s).2.1 (by omega)
  refine ⟨N1 + N2, fun n hn => ?_⟩
  have q1 := e1 n (by omega)
  have q2 := e2 n (by omega)
  dsimp only at q1 q2
  show F27 n s = _
  rw [F27, Cut_eq n s 58 hs, bind_some']
  unfold lineT
  cases h1 : (cutB 58 s).2.2 with
  | false => rw [if_neg (by simp)]; rfl
  | true =>
    rw [Bool.not_true, iteB_f, q1, bind_some']
    cases h2 : tokT (cutB 58 s).1 with
    | false => rw [if_neg (by simp)]; rfl
    | true =>
      rw [Bool.not_true, iteB_f, q2, bind_some']
      cases h3 : valT (cutB 58 s).2.1 with
      | false => rw [if_neg (by simp)]; rfl
      | true => rw [Bool.not_true, iteB_f, Trim_eq n _ (by omega), bind_some', if_pos ⟨rfl, rfl, rfl⟩]
end Go.Proofs.YtdjgldjebcoihaaDoorX

set_option linter.unusedVariables false
set_option linter.unusedSimpArgs false
namespace Go.Proofs.YtdjgldjebcoihaaDoorX
open Go Go.RowKit Go.Proofs
set_option maxRecDepth 100000
attribute [local go_sem ↓] stepsK_build stepsK_bs appendS
attribute [local go_sem] String.reduceEq String.reduceNe reduceCtorEq Int.reduceEq Nat.reduceAdd Nat.reduceSub Nat.reduceMul Nat.reduceLT Nat.reduceLeDiff Nat.reduceEqDiff Nat.reduceBEq Int.reduceToNat Int.reduceLT Int.reduceLE Int.reduceGT Int.reduceGE Int.reduceAdd Int.reduceSub Int.reduceMul Int.reduceNeg Int.reduceBEq Int.reduceBNe Int.reducePow Int.reduceDiv Int.reduceMod Int.reduceTDiv Int.reduceTMod Int.reduceNatCast
def F21_L1 : Nat → (List ((List UInt8) × (List UInt8))) → (List UInt8) → (Int) → Option (List UInt8)
 | 0, _, _, _ => none
 | m1 + 1, a0, x1, x2 => iteB (decide (x2 < (a0.length : Int))) (grd (0 ≤ x2 ∧ x2 < (a0.length : Int)) (grd (x1.length + ((a0.getD x2.toNat default).1).length ≤ 9223372036854775807) (grd ((x1.length + ((a0.getD x2.toNat default).1).length) + 2 ≤ 9223372036854775807) (grd (0 ≤ x2 ∧ x2 < (a0.length : Int)) (grd ((x1.length + ((a0.getD x2.toNat default).1).length + 2) + ((a0.getD x2.toNat default).2).length ≤ 9223372036854775807) (grd ((x1.length + ((a0.getD x2.toNat default).1).length + ((a0.getD x2.toNat default).2).length + 2) + 2 ≤ 9223372036854775807) (F21_L1 m1 a0 ((((x1 ++ ((a0.getD x2.toNat default).1)) ++ ([58, 32] : List UInt8)) ++ ((a0.getD x2.toNat default).2)) ++ ([13, 10] : List UInt8)) (IntKind.wrap .i64 (x2 + (1 : Int)))))))))) (some x1)
def F21 (n : Nat) (a0 : List ((List UInt8) × (List UInt8))) : Option (List UInt8) := F21_L1 n a0 [] (0 : Int)
end Go.Proofs.YtdjgldjebcoihaaDoorX

/- The reference's line, and fields that are put. -/
set_option linter.unusedVariables false
set_option linter.unusedSimpArgs false
namespace Go.Proofs.YtdjgldjebcoihaaDoorX
open Go
/-! ### Fields that are put -/
abbrev Fld := List UInt8 × List UInt8
def put1 (f : Fld) : List UInt8 := f.1 ++ [58, 32] ++ f.2 ++ [13, 10]
def putT (l : List Fld) : List UInt8 := l.flatMap put1
theorem put1_len (f : Fld) : (put1 f).length = f.1.length + f.2.length + 4 := by simp [put1]; omega
theorem ints_app (a b : List UInt8) : ints (a ++ b) = ints a ++ ints b := by simp [ints]
theorem toB_ints (s : List UInt8) : (ints s).map toB = s := (of_ints rfl).symm
theorem Put_loop (l : List Fld) (hl : l.length ≤ 1000000) : ∀ (d i : Nat) (b : Bool) (t : List UInt8), i + d = l.length → t.length + (putT (l.drop i)).length ≤ 1000000 →
    Ev (fun n => F17_L1 n l (i : Int) b (ints t)) (t ++ putT (l.drop i)) ∧ Ev (fun n => F21_L1 n l t (i : Int)) (t ++ putT (l.drop i)) := by
  intro d
  induction d with
  | zero =>
    intro i b t hi ht
    rw [List.drop_of_length_le (by omega), show putT [] = [] from rfl, List.append_nil]
    refine ⟨Ev.step (Ev.pure.congr fun n => ?_), Ev.step (Ev.pure.congr fun n => ?_)⟩
    · rw [F17_L1, decide_eq_false (by omega), iteB_f, bld_String n b _ (ints_bytes t) (by rw [ints_len]; omega), bind_some', toB_ints]
    · rw [F21_L1, decide_eq_false (by omega), iteB_f]
  | succ d ih =>
    intro i b t hi ht
    have hd : l.drop i = l.getD i default :: l.drop (i + 1) := drop_cons l i default (by omega)
    rw [hd] at ht ⊢
    generalize hf : l.getD i default = f at ht ⊢
    have hp : putT (f :: l.drop (i + 1)) = put1 f ++ putT (l.drop (i + 1)) := rfl
    rw [hp] at ht ⊢
    rw [List.length_append, put1_len] at ht
    obtain ⟨⟨N1, i1⟩, ⟨N2, i2⟩⟩ := ih (i + 1) true (t ++ put1 f) (by omega) (by rw [List.length_append, put1_len]; omega)
    rw [List.append_assoc] at i1 i2
    refine ⟨Ev.step ⟨N1, fun n hn => ?_⟩, Ev.step ⟨N2, fun n hn => ?_⟩⟩
    · have q1 := i1 n hn
      dsimp only at q1
      show F17_L1 (n + 1) l (i : Int) b (ints t) = _
      rw [F17_L1, decide_eq_true (by omega), iteB_t, toNat_nat, hf, g64 i (by omega), grd_t _ (by omega), grd_t _ (by omega), grd_t _ (by omega), grd_t _ (by omega)]
      show (F30 n (b, ints t) (put1 f)).bind _ = _
      rw [bld_Write n b _ _ (by rw [ints_len, put1_len]; omega), bind_some']
      dsimp only
      rw [← ints_app, q1]
    · have q1 := i2 n hn
      dsimp only at q1
      show F21_L1 (n + 1) l t (i : Int) = _
      rw [F21_L1, decide_eq_true (by omega), iteB_t, toNat_nat, hf, g64 i (by omega), grd_t _ (by omega), grd_t _ (by omega), grd_t _ (by omega), grd_t _ (by omega), grd_t _ (by omega), grd_t _ (by omega)]
      rw [show ((t ++ f.1 ++ [58, 32]) ++ f.2) ++ [13, 10] = t ++ put1 f by simp [put1, List.append_assoc]]
      exact q1
end Go.Proofs.YtdjgldjebcoihaaDoorX

/- Small letters, plainly. -/
set_option linter.unusedVariables false
set_option linter.unusedSimpArgs false
namespace Go.Proofs.YtdjgldjebcoihaaDoorX
open Go
def lowI (x : Int) : Int := if kindOf x = 4 then x + 32 else x
def lowT (s : List UInt8) : List UInt8 := ((ints s).map lowI).map toB
end Go.Proofs.YtdjgldjebcoihaaDoorX

set_option linter.unusedVariables false
set_option linter.unusedSimpArgs false
namespace Go.Proofs.YtdjgldjebcoihaaDoorX
open Go Go.RowKit Go.Proofs
set_option maxRecDepth 100000
attribute [local go_sem ↓] stepsK_build stepsK_bs appendS
attribute [local go_sem] String.reduceEq String.reduceNe reduceCtorEq Int.reduceEq Nat.reduceAdd Nat.reduceSub Nat.reduceMul Nat.reduceLT Nat.reduceLeDiff Nat.reduceEqDiff Nat.reduceBEq Int.reduceToNat Int.reduceLT Int.reduceLE Int.reduceGT Int.reduceGE Int.reduceAdd Int.reduceSub Int.reduceMul Int.reduceNeg Int.reduceBEq Int.reduceBNe Int.reducePow Int.reduceDiv Int.reduceMod Int.reduceTDiv Int.reduceTMod Int.reduceNatCast
end Go.Proofs.YtdjgldjebcoihaaDoorX

/- hex.Decimal: what it answers. -/
set_option linter.unusedVariables false
set_option linter.unusedSimpArgs false
namespace Go.Proofs.YtdjgldjebcoihaaDoorX
open Go
def dgR (n : Nat) : List Int := if n < 10 then [48 + (n : Int)] else (48 + ((n % 10 : Nat) : Int)) :: dgR (n / 10)
theorem dgR_lt {n : Nat} (h : n < 10) : dgR n = [48 + (n : Int)] := by rw [dgR, if_pos h]
theorem dgR_ge {n : Nat} (h : ¬ n < 10) : dgR n = (48 + ((n % 10 : Nat) : Int)) :: dgR (n / 10) := by rw [dgR, if_neg h]
theorem dgR_len : ∀ (k n : Nat), n < 10 ^ (k + 1) → (dgR n).length ≤ k + 1
  | 0, n, h => by rw [dgR_lt (by omega)]; simp
  | k + 1, n, h => by
    by_cases h1 : n < 10
    · rw [dgR_lt h1]; simp
    · rw [dgR_ge h1, List.length_cons]
      have := dgR_len k (n / 10) (by rw [Nat.pow_succ] at h; omega)
      omega
theorem dgR_pos (n : Nat) : 0 < (dgR n).length := by
  by_cases h : n < 10
  · rw [dgR_lt h]; simp
  · rw [dgR_ge h]; simp
def decI (n : Int) : List Int := (if n < 0 then dgR n.natAbs ++ [45] else dgR n.natAbs).reverse
def decT (n : Int) : List UInt8 := (decI n).map toB
def rvI (l0 : List Int) (i : Nat) (l : List Int) : Prop := l.length = l0.length ∧ ∀ k, k < l0.length → l.getD k 0 = if k < i ∨ l0.length - i ≤ k then l0.getD (l0.length - 1 - k) 0 else l0.getD k 0
theorem rv_end {l0 l : List Int} {i : Nat} (h : rvI l0 i l) (hi : l0.length ≤ 2 * i + 1) : l = l0.reverse := by
  obtain ⟨h1, h2⟩ := h
  apply List.ext_getElem
  · rw [h1, List.length_reverse]
  · intro k hk1 hk2
    have hk : k < l0.length := by omega
    have h3 := h2 k hk
    rw [List.getD_eq_getElem?_getD, List.getElem?_eq_getElem hk1] at h3
    rw [List.getElem_reverse]
    rw [show l[k] = (some l[k]).getD 0 from rfl, h3]
    split
    · rw [List.getD_eq_getElem?_getD, List.getElem?_eq_getElem (by omega)]; rfl
    · have e : l0.length - 1 - k = k := by omega
      rw [List.getD_eq_getElem?_getD, List.getElem?_eq_getElem (by omega)]
      simp only [e]; rfl
theorem rv_step {l0 l : List Int} {i j : Nat} (h : rvI l0 i l) (hj : i + j + 1 = l0.length) (hij : i < j) : rvI l0 (i + 1) ((l.set i (l.getD j 0)).set j (l.getD i 0)) := by
  obtain ⟨h1, h2⟩ := h
  refine ⟨by simp [h1], fun k hk => ?_⟩
  have gi := h2 i (by omega)
  have gj := h2 j (by omega)
  rw [if_neg (by omega)] at gi gj
  rw [List.getD_eq_getElem?_getD, List.getElem?_set]
  by_cases hkj : j = k
  · subst hkj
    rw [if_pos rfl, List.length_set, if_pos (by omega), Option.getD_some, gi, if_pos (by omega), show l0.length - 1 - j = i by omega]
  · rw [if_neg hkj, List.getElem?_set]
    by_cases hki : i = k
    · subst hki
      rw [if_pos rfl, if_pos (by omega), Option.getD_some, gj, if_pos (by omega), show l0.length - 1 - i = j by omega]
    · rw [if_neg hki, ← List.getD_eq_getElem?_getD, h2 k hk]
      by_cases hc : k < i ∨ l0.length - i ≤ k
      · rw [if_pos hc, if_pos (by omega)]
      · rw [if_neg hc, if_neg (by omega)]
theorem ev_rev (l0 : List Int) (hl : l0.length ≤ 1000) : ∀ (d i : Nat) (l : List Int), l0.length ≤ 2 * i + d → i ≤ l0.length → rvI l0 i l →
    Ev (fun n => F16_L4 n (i : Int) ((l0.length : Int) - 1 - i) l) (l0.reverse.map toB) := by
  intro d
  induction d with
  | zero =>
    intro i l hd hi h
    refine Ev.step (Ev.pure.congr fun n => ?_)
    have d1 : decide ((i : Int) < (l0.length : Int) - 1 - i) = false := decide_eq_false (by omega)
    simp only [F16_L4, d1, iteB_f]
    rw [rv_end h (by omega)]
  | succ d ih =>
    intro i l hd hi h
    refine Ev.step ?_
    by_cases hlt : (i : Int) < (l0.length : Int) - 1 - i
    · obtain ⟨j, hj⟩ : ∃ j : Nat, (l0.length : Int) - 1 - i = j := ⟨((l0.length : Int) - 1 - i).toNat, by omega⟩
      have d1 : decide ((i : Int) < (j : Int)) = true := decide_eq_true (by omega)
      have hll := h.1
      have w1 : IntKind.wrap .i64 ((i : Int) + 1) = ((i + 1 : Nat) : Int) := by rw [w64 (by omega)]; omega
      have w2 : IntKind.wrap .i64 ((j : Int) - 1) = (l0.length : Int) - 1 - ((i + 1 : Nat) : Int) := by rw [w64 (by omega)]; omega
      have e := ih (i + 1) _ (by omega) (by omega) (rv_step (j := j) h (by omega) (by omega))
      rw [hj]
      refine e.congr fun n => ?_
      simp only [F16_L4, d1, iteB_t, toNat_nat, w1, w2]
      have g1 : (0 ≤ (j : Int) ∧ (j : Int) < (l.length : Int)) := by omega
      have g2 : (0 ≤ (i : Int) ∧ (i : Int) < (l.length : Int)) := by omega
      have g3 : j < l.length := by omega
      have g4 : i < l.length := by omega
      rw [grd_t _ g1, grd_t _ g3, grd_t _ g2, grd_t _ g4, grd_t _ g2, grd_t _ g4, grd_t _ g1, grd_t _ g3]
      rfl
    · refine Ev.pure.congr fun n => ?_
      have d1 : decide ((i : Int) < (l0.length : Int) - 1 - i) = false := decide_eq_false hlt
      simp only [F16_L4, d1, iteB_f]
      rw [rv_end h (by omega)]
theorem ev_J3 (l : List Int) (h0 : 0 < l.length) (hl : l.length ≤ 1000) : Ev (fun n => F16_J3 n l) (l.reverse.map toB) := by
  have w1 : IntKind.wrap .i64 ((l.length : Int) - 1) = (l.length : Int) - 1 - ((0 : Nat) : Int) := by rw [w64 (by omega)]; omega
  refine (ev_rev l hl l.length 0 l (by omega) (by omega) ⟨rfl, fun k hk => by rw [if_neg (by omega)]⟩).congr fun n => ?_
  simp only [F16_J3, w1]; rfl
theorem digitAt (r : Nat) (h : r < 10) : ((([48, 49, 50, 51, 52, 53, 54, 55, 56, 57, 97, 98, 99, 100, 101, 102] : List UInt8).getD r 0).toNat : Int) = 48 + r := by
  have : ∀ r : Fin 10, ((([48, 49, 50, 51, 52, 53, 54, 55, 56, 57, 97, 98, 99, 100, 101, 102] : List UInt8).getD r.val 0).toNat : Int) = 48 + r.val := by decide
  exact this ⟨r, h⟩
theorem ev_digs (a : Int) : ∀ (k m : Nat) (l : List Int), m < 10 ^ (k + 1) → m < 10000000000000000000 → l.length + k ≤ 100 → Ev (fun n => F16_L2 n a (m : Int) l) ((if a < 0 then l ++ dgR m ++ [45] else l ++ dgR m).reverse.map toB) := by
  intro k
  induction k with
  | zero =>
    intro m l hm hb hl
    have hm' : m < 10 := by omega
    refine Ev.step ?_
    have e1 : (m : Int).tmod 10 = m := by rw [Int.tmod_eq_emod_of_nonneg (by omega)]; omega
    have e2 : (m : Int).tdiv 10 = 0 := by rw [Int.tdiv_eq_ediv_of_nonneg (by omega)]; omega
    have e3 : (IntKind.wrap .u64 0 == (0 : Int)) = true := by rw [wu64 (by omega)]; rfl
    rw [dgR_lt hm']
    by_cases ha : a < 0
    · rw [if_pos ha]
      refine (ev_J3 (l ++ [48 + (m : Int)] ++ [45]) (by simp) (by simp; omega)).congr fun n => ?_
      simp only [F16_L2, e1, e2, e3, toNat_nat, digitAt m hm', decide_eq_true ha, iteB_t]
      rw [grd_t _ (by omega), grd_t _ (by omega), grd_t _ (by omega)]
    · rw [if_neg ha]
      refine (ev_J3 (l ++ [48 + (m : Int)]) (by simp) (by simp; omega)).congr fun n => ?_
      simp only [F16_L2, e1, e2, e3, toNat_nat, digitAt m hm', decide_eq_false ha, iteB_t, iteB_f]
      rw [grd_t _ (by omega), grd_t _ (by omega)]
  | succ k ih =>
    intro m l hm hb hl
    by_cases hm' : m < 10
    · have := ih m l (by have : 10 ^ 1 ≤ 10 ^ (k + 1) := Nat.pow_le_pow_right (by omega) (by omega); omega) hb (by omega)
      exact this
    refine Ev.step ?_
    have e1 : (m : Int).tmod 10 = ((m % 10 : Nat) : Int) := by rw [Int.tmod_eq_emod_of_nonneg (by omega)]; omega
    have e2 : (m : Int).tdiv 10 = ((m / 10 : Nat) : Int) := by rw [Int.tdiv_eq_ediv_of_nonneg (by omega)]; omega
    have e4 : IntKind.wrap .u64 ((m / 10 : Nat) : Int) = ((m / 10 : Nat) : Int) := wu64 (by omega)
    have e3 : (((m / 10 : Nat) : Int) == (0 : Int)) = false := by rw [beq_eq_false_iff_ne]; omega
    have := ih (m / 10) (l ++ [48 + ((m % 10 : Nat) : Int)]) (by rw [Nat.pow_succ] at hm; omega) (by omega) (by simp; omega)
    rw [dgR_ge hm']
    rw [show (if a < 0 then l ++ (48 + ((m % 10 : Nat) : Int)) :: dgR (m / 10) ++ [45] else l ++ (48 + ((m % 10 : Nat) : Int)) :: dgR (m / 10)) = (if a < 0 then l ++ [48 + ((m % 10 : Nat) : Int)] ++ dgR (m / 10) ++ [45] else l ++ [48 + ((m % 10 : Nat) : Int)] ++ dgR (m / 10)) by simp]
    refine this.congr fun n => ?_
    simp only [F16_L2, e1, e2, e4, e3, toNat_nat, digitAt (m % 10) (by omega), iteB_f]
    rw [grd_t _ (by omega), grd_t _ (by omega)]
theorem ev_Decimal (a : Int) (h : -9223372036854775808 ≤ a ∧ a ≤ 9223372036854775807) : Ev (fun n => F16 n a) (decT a) := by
  have hd := ev_digs a 19 a.natAbs [] (by omega) (by omega) (by simp)
  simp only [List.nil_append] at hd
  unfold decT decI
  refine hd.congr fun n => ?_
  have hw : ∀ x : Int, IntKind.wrap .u64 x = x % 18446744073709551616 := fun x => rfl
  by_cases ha : a < 0
  · have e : IntKind.wrap .u64 (0 - IntKind.wrap .u64 a) = (a.natAbs : Int) := by rw [hw, hw]; omega
    simp only [F16, F16_J1, decide_eq_true ha, iteB_t, e]
  · have e : IntKind.wrap .u64 a = (a.natAbs : Int) := by rw [hw]; omega
    simp only [F16, F16_J1, decide_eq_false ha, iteB_f, e]
end Go.Proofs.YtdjgldjebcoihaaDoorX

set_option linter.unusedVariables false
set_option linter.unusedSimpArgs false
namespace Go.Proofs.YtdjgldjebcoihaaDoorX
open Go Go.RowKit Go.Proofs
set_option maxRecDepth 100000
attribute [local go_sem ↓] stepsK_build stepsK_bs appendS
attribute [local go_sem] String.reduceEq String.reduceNe reduceCtorEq Int.reduceEq Nat.reduceAdd Nat.reduceSub Nat.reduceMul Nat.reduceLT Nat.reduceLeDiff Nat.reduceEqDiff Nat.reduceBEq Int.reduceToNat Int.reduceLT Int.reduceLE Int.reduceGT Int.reduceGE Int.reduceAdd Int.reduceSub Int.reduceMul Int.reduceNeg Int.reduceBEq Int.reduceBNe Int.reducePow Int.reduceDiv Int.reduceMod Int.reduceTDiv Int.reduceTMod Int.reduceNatCast
end Go.Proofs.YtdjgldjebcoihaaDoorX

set_option linter.unusedVariables false
set_option linter.unusedSimpArgs false
namespace Go.Proofs.YtdjgldjebcoihaaDoorX
open Go Go.RowKit Go.Proofs
set_option maxRecDepth 100000
attribute [local go_sem ↓] stepsK_build stepsK_bs appendS
attribute [local go_sem] String.reduceEq String.reduceNe reduceCtorEq Int.reduceEq Nat.reduceAdd Nat.reduceSub Nat.reduceMul Nat.reduceLT Nat.reduceLeDiff Nat.reduceEqDiff Nat.reduceBEq Int.reduceToNat Int.reduceLT Int.reduceLE Int.reduceGT Int.reduceGE Int.reduceAdd Int.reduceSub Int.reduceMul Int.reduceNeg Int.reduceBEq Int.reduceBNe Int.reducePow Int.reduceDiv Int.reduceMod Int.reduceTDiv Int.reduceTMod Int.reduceNatCast
end Go.Proofs.YtdjgldjebcoihaaDoorX

/- Responses that are put: the program's and the reference's. -/
set_option linter.unusedVariables false
set_option linter.unusedSimpArgs false
namespace Go.Proofs.YtdjgldjebcoihaaDoorX
open Go
/-! ### Small letters, and texts that are alike but for great ones -/
def lowB (c : UInt8) : UInt8 := toB (lowI (ofB c))
theorem lowB_nat (c : UInt8) : (lowB c).toNat = if 65 ≤ c.toNat ∧ c.toNat ≤ 90 then c.toNat + 32 else c.toNat := by
  have hc := c.toNat_lt
  have key : ∀ x : Fin 256, (toB (lowI (x.val : Int))).toNat = if 65 ≤ x.val ∧ x.val ≤ 90 then x.val + 32 else x.val := by decide +kernel
  exact key ⟨c.toNat, hc⟩
theorem lowT_map (s : List UInt8) : lowT s = s.map lowB := by
  unfold lowT ints
  rw [List.map_map, List.map_map]
  rfl
theorem foldEq_low (x y : UInt8) : Lib.foldEq x y = (lowB x == lowB y) := by
  have h : (lowB x = lowB y) ↔ (x.toNat = y.toNat ∨ (65 ≤ x.toNat ∧ x.toNat ≤ 90 ∧ y.toNat = x.toNat + 32) ∨ (65 ≤ y.toNat ∧ y.toNat ≤ 90 ∧ x.toNat = y.toNat + 32)) := by
    rw [← UInt8.toNat_inj, lowB_nat, lowB_nat]
    split <;> split <;> omega
  unfold Lib.foldEq
  rw [Bool.eq_iff_iff, decide_eq_true_eq, beq_iff_eq, h]
theorem fold_low : ∀ s t : List UInt8, Lib.equalFold s t = (s.map lowB == t.map lowB)
  | [], [] => rfl
  | [], _ :: _ => rfl
  | _ :: _, [] => rfl
  | x :: s, y :: t => by
    rw [Lib.equalFold, foldEq_low, fold_low s t]
    rfl
def CL : List UInt8 := [67, 111, 110, 116, 101, 110, 116, 45, 76, 101, 110, 103, 116, 104]
def clT : List UInt8 := [99, 111, 110, 116, 101, 110, 116, 45, 108, 101, 110, 103, 116, 104]
theorem fold_cl (s : List UInt8) : Lib.equalFold s CL = (lowT s == clT) := by
  rw [fold_low, lowT_map, show CL.map lowB = clT by decide +kernel]
theorem tok_ascii {s : List UInt8} (h : tokT s = true) : (s.all fun b => decide (b.toNat < 128)) = true := by
  unfold tokT at h
  rw [Bool.and_eq_true] at h
  have key : ∀ x : Fin 256, tokI (x.val : Int) = true → x.val < 128 := by decide +kernel
  rw [List.all_eq_true]
  intro c hc
  rw [decide_eq_true_eq]
  have := List.all_eq_true.1 h.1 (ofB c) (List.mem_map_of_mem hc)
  exact key ⟨c.toNat, c.toNat_lt⟩ this
theorem line_tok {s : List UInt8} (h : (lineT s).2 = true) : tokT (lineT s).1.1 = true := by
  unfold lineT at h ⊢
  split at h
  · rename_i k
    rw [if_pos k]; exact k.2.1
  · cases h
/-! ### Fields that may not be put -/
def fldBad (f : Fld) : Bool := !(lineT ((f.1 ++ [58]) ++ f.2)).2 || (!(((lineT ((f.1 ++ [58]) ++ f.2)).1.1 == f.1) && ((lineT ((f.1 ++ [58]) ++ f.2)).1.2 == f.2)) || (lowT f.1 == clT))
theorem ev_odd (f : Fld) (hf : f.1.length + f.2.length ≤ 100000) : Ev (fun n => F26 n f) (fldBad f) := by
  have e := ev_Line ((f.1 ++ [58]) ++ f.2) (by simp; omega)
  unfold fldBad
  refine ((e.bind (g := fun n v3 => iteB (!v3.2) (some true) (iteB (!((v3.1.1 == f.1) && (v3.1.2 == f.2))) (some true) ((F28 n f.1 CL).bind fun v6 => some v6))) ?_)).congr fun n => by rw [F26, grd_t _ (by omega), grd_t _ (by omega)]; rfl
  generalize hv : lineT ((f.1 ++ [58]) ++ f.2) = v
  cases h2 : v.2 with
  | false => exact Ev.pure
  | true =>
    cases h3 : (v.1.1 == f.1) && (v.1.2 == f.2) with
    | false => exact Ev.pure
    | true =>
      have h4 := tok_ascii (line_tok (hv ▸ h2))
      rw [hv] at h4
      rw [Bool.and_eq_true, beq_iff_eq] at h3
      rw [h3.1] at h4
      refine Ev.pure.congr fun n => ?_
      show iteB false (some true) (iteB false (some true) ((F28 n f.1 CL).bind fun v6 => some v6)) = some (false || (false || (lowT f.1 == clT)))
      rw [iteB_f, iteB_f, Bool.false_or, Bool.false_or, F28, if_pos ⟨by omega, h4, by decide⟩, bind_some', fold_cl]
theorem ev_findF (l : List Fld) (hl : l.length ≤ 100000) (hf : ∀ f ∈ l, f.1.length + f.2.length ≤ 100000) : ∀ (d i : Nat), i + d = l.length → ∃ v : Int, Ev (fun n => F27000050_L1 n l (i : Int)) v ∧ decide ((0 : Int) ≤ v) = (l.drop i).any fldBad
  | 0, i, hi => by
    rw [List.drop_of_length_le (by omega)]
    exact ⟨-1, Ev.step (Ev.pure.congr fun n => by rw [F27000050_L1, decide_eq_false (by omega), iteB_f]), rfl⟩
  | d + 1, i, hi => by
    have hm : l.getD i default ∈ l := by
      rw [List.getD_eq_getElem?_getD, List.getElem?_eq_getElem (by omega)]
      exact List.getElem_mem _
    rw [drop_cons l i default (by omega), List.any_cons]
    have e := ev_odd (l.getD i default) (hf _ hm)
    have u : ∀ n, F27000050_L1 (n + 1) l (i : Int) = (F26 n (l.getD i default)).bind fun v4 => iteB v4 (some (i : Int)) (F27000050_L1 n l ((i + 1 : Nat) : Int)) := by
      intro n
      rw [F27000050_L1, decide_eq_true (by omega), iteB_t, grd_t _ (by omega), toNat_nat, g64 i (by omega)]
    cases hb : fldBad (l.getD i default) with
    | true =>
      rw [hb] at e
      exact ⟨(i : Int), Ev.step ((e.bind (g := fun n v4 => iteB v4 (some (i : Int)) (F27000050_L1 n l ((i + 1 : Nat) : Int))) Ev.pure).congr fun n => by rw [u]), by rw [Bool.true_or, decide_eq_true (by omega)]⟩
    | false =>
      rw [hb] at e
      obtain ⟨v, e2, h2⟩ := ev_findF l hl hf d (i + 1) (by omega)
      exact ⟨v, Ev.step ((e.bind (g := fun n v4 => iteB v4 (some (i : Int)) (F27000050_L1 n l ((i + 1 : Nat) : Int))) (e2.congr fun n => rfl)).congr fun n => by rw [u]), by rw [Bool.false_or, h2]⟩
theorem ev_anyBad (l : List Fld) (hl : l.length ≤ 100000) (hf : ∀ f ∈ l, f.1.length + f.2.length ≤ 100000) : Ev (fun n => F27000029 n l) (l.any fldBad) := by
  obtain ⟨v, e, h⟩ := ev_findF l hl hf l.length 0 (by omega)
  rw [List.drop_zero] at h
  rw [← h]
  exact (e.bind (g := fun n v1 => some (decide ((0 : Int) ≤ v1))) Ev.pure).congr fun n => by rw [F27000029, F27000050]; rfl
/-! ### Responses -/
abbrev Resp := Int × List Fld × List Int
def noBody (c : Int) : Bool := if c = 204 then true else (c == 304)
theorem empty_eq (n : Nat) (c : Int) : F15 n c = some (noBody c) := by
  rw [F15]
  unfold noBody
  by_cases h : c = 204
  · rw [bqt h, iteB_t, if_pos h]
  · rw [bq h, iteB_f, if_neg h]
def headP (c : Int) (l : List Fld) : List UInt8 := (((((([72, 84, 84, 80, 47, 49, 46, 49, 32] : List UInt8) ++ decT c) ++ ([32] : List UInt8)) ++ reasonT c) ++ ([13, 10] : List UInt8)) ++ putT l) ++ ([13, 10] : List UInt8)
def fldsT (r : Resp) : List Fld := if noBody r.1 = true then r.2.1 else r.2.1 ++ [(CL, decT (r.2.2.length : Int))]
def replyT (r : Resp) (bare : Bool) : List Int := if reasonT r.1 = [] then [] else if r.2.1.any fldBad = true then [] else if (bare || noBody r.1) = true then (headP r.1 (fldsT r)).map ofB else (headP r.1 (fldsT r)).map ofB ++ r.2.2
theorem ev_right (r : Resp) (hl : r.2.1.length ≤ 100000) (hf : ∀ f ∈ r.2.1, f.1.length + f.2.length ≤ 100000) : Ev (fun n => F13 n r) (!(reasonT r.1 == []) && !(r.2.1.any fldBad)) := by
  have e := ev_anyBad r.2.1 hl hf
  have u : ∀ n, F13 n r = iteB (!(reasonT r.1 == [])) ((F27000029 n r.2.1).bind fun v3 => some (!v3)) (some false) := by
    intro n
    rw [F13, Reason_eq, bind_some']
  cases h : (!(reasonT r.1 == [])) with
  | false => exact Ev.pure.congr fun n => by rw [u, h, iteB_f]; rfl
  | true => exact ((e.bind (g := fun n v3 => some (!v3)) Ev.pure).congr fun n => by rw [u, h, iteB_t])
theorem dec_len (c : Int) (h : 0 ≤ c) (hc : c ≤ 1000000000000000) : (decT c).length ≤ 20 := by
  obtain ⟨m, rfl⟩ := Int.eq_ofNat_of_zero_le h
  have hx : Int.natAbs (m : Int) = m := Int.natAbs_natCast m
  unfold decT decI
  rw [if_neg (by omega), hx, List.length_map, List.length_reverse]
  have := dgR_len 17 m (by omega)
  omega
theorem ev_hPut (l : List Fld) (hl : l.length ≤ 1000000) (hp : (putT l).length ≤ 1000000) : Ev (fun n => F17 n l) (putT l) ∧ Ev (fun n => F21 n l) (putT l) := by
  obtain ⟨e1, e2⟩ := Put_loop l hl l.length 0 false [] (by omega) (by simpa using hp)
  exact ⟨e1.congr fun n => rfl, e2.congr fun n => rfl⟩
theorem putT_app (a b : List Fld) : putT (a ++ b) = putT a ++ putT b := by unfold putT; rw [List.flatMap_append]
theorem ev_J (r : Resp) (bare : Bool) (l : List Fld) (hr : reasonT r.1 ≠ []) (hl : l.length ≤ 1000000) (hp : (putT l).length ≤ 1000000) (hb : r.2.2.length ≤ 100000) : Ev (fun n => F7_J1 n bare r l) (if (bare || noBody r.1) = true then (headP r.1 l).map ofB else (headP r.1 l).map ofB ++ r.2.2) := by
  have hc := reason_code r.1 hr
  have hrl := reason_len r.1
  have hd := dec_len r.1 hc.1 (by omega)
  obtain ⟨N1, e1⟩ := ev_Decimal r.1 (by omega)
  obtain ⟨N2, e2⟩ := (ev_hPut l hl hp).1
  refine ⟨N1 + N2, fun n hn => ?_⟩
  have q1 := e1 n (by omega)
  have q2 := e2 n (by omega)
  dsimp only at q1 q2
  show F7_J1 n bare r l = _
  rw [F7_J1, q1, bind_some', grd_t _ (by omega), grd_t _ (by omega), Reason_eq, bind_some', grd_t _ (by omega), grd_t _ (by omega), q2, bind_some', grd_t _ (by omega), grd_t _ (by omega), empty_eq, bind_some', grd_t _ (by omega)]
  cases bare with
  | true => rfl
  | false =>
    cases noBody r.1 <;> rfl
theorem ev_Put (r : Resp) (bare : Bool) (hl : r.2.1.length ≤ 100000) (hf : ∀ f ∈ r.2.1, f.1.length + f.2.length ≤ 100000) (hp : (putT r.2.1).length ≤ 100000) (hb : r.2.2.length ≤ 100000) : Ev (fun n => F7 n r bare) (replyT r bare) := by
  obtain ⟨N1, e1⟩ := ev_right r (by omega) hf
  unfold replyT
  by_cases hr : reasonT r.1 = []
  · rw [if_pos hr]
    refine ⟨N1, fun n hn => ?_⟩
    have q1 := e1 n (by omega)
    dsimp only at q1
    show F7 n r bare = _
    rw [F7]
    show (F13 n r).bind _ = _
    rw [q1, hr]; rfl
  · rw [if_neg hr]
    have hrb : (reasonT r.1 == []) = false := beq_eq_false_iff_ne.2 hr
    by_cases ha : r.2.1.any fldBad = true
    · rw [if_pos ha]
      refine ⟨N1, fun n hn => ?_⟩
      have q1 := e1 n (by omega)
      dsimp only at q1
      show F7 n r bare = _
      rw [F7]
      show (F13 n r).bind _ = _
      rw [q1, hrb, ha]; rfl
    · rw [if_neg ha]
      have haf : r.2.1.any fldBad = false := by simpa using ha
      have hdl := dec_len (r.2.2.length : Int) (by omega) (by omega)
      have hp2 : (putT (fldsT r)).length ≤ 1000000 := by
        unfold fldsT
        split
        · omega
        · rw [putT_app, List.length_append]
          have : (putT [(CL, decT (r.2.2.length : Int))]).length = 14 + (decT (r.2.2.length : Int)).length + 4 := by
            show (put1 (CL, decT (r.2.2.length : Int)) ++ []).length = _
            rw [List.append_nil, put1_len]; rfl
          omega
      have hl2 : (fldsT r).length ≤ 1000000 := by
        unfold fldsT
        split
        · omega
        · rw [List.length_append]; simp; omega
      obtain ⟨N2, e2⟩ := ev_J r bare (fldsT r) hr hl2 hp2 hb
      obtain ⟨N3, e3⟩ := ev_Decimal (r.2.2.length : Int) (by omega)
      refine ⟨N1 + N2 + N3, fun n hn => ?_⟩
      have q1 := e1 n (by omega)
      have q2 := e2 n (by omega)
      have q3 := e3 n (by omega)
      dsimp only at q1 q2 q3
      show F7 n r bare = _
      rw [F7]
      show (F13 n r).bind _ = _
      rw [q1, hrb, haf, bind_some']
      show ((F14 n r.2.1).bind _) = _
      rw [F14, if_pos (by omega), bind_some', empty_eq, bind_some']
      unfold fldsT at q2 ⊢
      cases hn : noBody r.1 with
      | true =>
        rw [hn] at q2
        exact q2
      | false =>
        rw [hn] at q2
        rw [Bool.not_false, iteB_t, q3, bind_some', grd_t _ (by omega)]
        exact q2
end Go.Proofs.YtdjgldjebcoihaaDoorX

/- hex.ReadDecimal. -/
set_option linter.unusedVariables false
set_option linter.unusedSimpArgs false
namespace Go.Proofs.YtdjgldjebcoihaaDoorX
open Go
def decP : List UInt8 → Int → Int × Bool
  | [], n => (n, true)
  | c :: l, n => if kindOf (c.toNat : Int) = 1 then decP l (n * 10 + ((c.toNat : Int) - 48)) else (0, false)
theorem kind_one {c : Int} (h : kindOf c = 1) : 48 ≤ c ∧ c ≤ 57 := by
  unfold kindOf at h
  split at h
  · assumption
  · split at h
    · omega
    · split at h
      · omega
      · split at h <;> omega
theorem pow10 (i : Nat) (h : i ≤ 17) : 1 ≤ (10 : Int) ^ i ∧ (10 : Int) ^ i ≤ 100000000000000000 ∧ (10 : Int) ^ (i + 1) = 10 ^ i * 10 := by
  have h1 : (10 : Nat) ^ i ≤ 10 ^ 17 := Nat.pow_le_pow_right (by omega) h
  have h2 : 1 ≤ (10 : Nat) ^ i := Nat.pos_of_ne_zero (by simp)
  have h3 : ((10 : Nat) ^ i : Nat) = ((10 : Int) ^ i) := by simp
  refine ⟨by omega, by omega, Int.pow_succ _ _⟩
theorem ev_dec_l (l : List UInt8) (hl : l.length ≤ 18) : ∀ (d i : Nat) (x : Int), i + d = l.length → 0 ≤ x ∧ x < (10 : Int) ^ i → Ev (fun k => F43_L1 k l x (i : Int)) (decP (l.drop i) x) := by
  intro d
  induction d with
  | zero =>
    intro i x hi hx
    rw [List.drop_of_length_le (by omega)]
    refine Ev.step (Ev.pure.congr fun k => ?_)
    rw [F43_L1, decide_eq_false (by omega), iteB_f]; rfl
  | succ d ih =>
    intro i x hi hx
    rw [drop_cons l i 0 (by omega), decP]
    obtain ⟨p1, p2, p3⟩ := pow10 i (by omega)
    have hb := u8_lt (l.getD i 0)
    have w1 : IntKind.wrap .i64 ((i : Int) + 1) = ((i + 1 : Nat) : Int) := by rw [w64 (by omega)]; omega
    generalize hc : l.getD i 0 = c at *
    by_cases hk : kindOf (c.toNat : Int) = 1
    · rw [if_pos hk]
      have hk' := kind_one hk
      have e := ih (i + 1) (x * 10 + ((c.toNat : Int) - 48)) (by omega) (by rw [p3]; omega)
      refine Ev.step (e.congr fun k => ?_)
      rw [F43_L1, decide_eq_true (by omega), iteB_t, grd_t _ (by omega), toNat_nat, hc, F58, bind_some', hk]
      show iteB false _ _ = _
      rw [iteB_f, grd_t _ (by omega), wu8 (by omega), w64 (n := (c.toNat : Int) - 48) (by omega), w64 (n := x * 10) (by omega), w64 (n := x * 10 + _) (by omega), w1]
    · rw [if_neg hk]
      refine Ev.step (Ev.pure.congr fun k => ?_)
      rw [F43_L1, decide_eq_true (by omega), iteB_t, grd_t _ (by omega), toNat_nat, hc, F58, bind_some', show (kindOf (c.toNat : Int) != 1) = true by rw [bne_iff_ne]; exact hk, iteB_t]
def readD (l : List UInt8) : Int × Bool := if l = [] ∨ 18 < l.length then (0, false) else decP l 0
theorem ev_ReadDecimal (l : List UInt8) : Ev (fun k => F43 k l) (readD l) := by
  unfold readD
  cases l with
  | nil => rw [if_pos (Or.inl rfl)]; exact Ev.pure.congr fun k => rfl
  | cons a l =>
    by_cases h : 18 < (a :: l).length
    · rw [if_pos (Or.inr h)]
      refine Ev.pure.congr fun k => ?_
      rw [F43, show ((a :: l) == []) = false by rfl, iteB_f, decide_eq_true (by omega), iteB_t]
    · rw [if_neg (by simp only [reduceCtorEq, false_or]; exact h)]
      have e := ev_dec_l (a :: l) (by omega) (a :: l).length 0 0 (by omega) (by decide)
      refine e.congr fun k => ?_
      rw [F43, show ((a :: l) == []) = false by rfl, iteB_f, decide_eq_false (by omega), iteB_f]; rfl
end Go.Proofs.YtdjgldjebcoihaaDoorX

/- strings.Split at a text of two bytes: that it is told, and how long the pieces are. -/
set_option linter.unusedVariables false
set_option linter.unusedSimpArgs false
namespace Go.Proofs.YtdjgldjebcoihaaDoorX
open Go
theorem index_fit : ∀ (s sub : List UInt8), 0 ≤ Lib.index s sub → Lib.index s sub + (sub.length : Int) ≤ (s.length : Int)
  | [], sub, h => by
    rw [Lib.index] at h ⊢
    cases sub with
    | nil => exact Int.le_refl _
    | cons c r => rw [if_neg (by simp)] at h; exact absurd h (by decide)
  | b :: l, sub, h => by
    rw [Lib.index] at h ⊢
    split at h
    · rename_i hp
      rw [if_pos hp]
      have := (List.isPrefixOf_iff_prefix.1 hp).length_le
      omega
    · rename_i hp
      rw [if_neg hp]
      split at h
      · exact absurd h (by decide)
      · rename_i hq
        rw [if_neg hq]
        have hg := Lib.index_ge l sub
        have hne : Lib.index l sub ≠ -1 := fun e => hq (by rw [e]; rfl)
        have := index_fit l sub (by omega)
        rw [List.length_cons]
        omega
def tot (l : List (List UInt8)) : Nat := (l.map List.length).sum
theorem take_set1 {α : Type} (l : List α) (i : Nat) (x : α) (h : i < l.length) : (l.set i x).take (i + 1) = l.take i ++ [x] := by
  rw [List.take_set, List.take_succ_eq_append_getElem h, List.set_append_right _ _ (by rw [List.length_take]; omega)]
  rw [List.length_take, Nat.min_eq_left (by omega), Nat.sub_self]; rfl
theorem ev_splitEnd (n : Nat) (rest : List UInt8) (i : Nat) (arr : List (List UInt8)) (hi : i < arr.length) (ha : arr.length ≤ 2000000) : F56_J2 n rest (i : Int) arr = some (arr.take i ++ [rest]) := by
  have w : IntKind.wrap .i64 ((i : Int) + 1) = ((i + 1 : Nat) : Int) := by rw [w64 (by omega)]; omega
  rw [F56_J2, grd_t _ (by omega), toNat_nat, grd_t _ hi, w, grd_t _ (by omega), toNat_nat, take_set1 _ _ _ hi]
end Go.Proofs.YtdjgldjebcoihaaDoorX

/- Responses that are read: that it is told, and what follows. -/
set_option linter.unusedVariables false
set_option linter.unusedSimpArgs false
namespace Go.Proofs.YtdjgldjebcoihaaDoorX
open Go
theorem putT_snoc (l : List Fld) (f : Fld) : (putT (l ++ [f])).length = (putT l).length + (f.1.length + f.2.length + 4) := by
  rw [putT_app, List.length_append, show putT [f] = put1 f by simp [putT], put1_len]
theorem put_in : ∀ (l : List Fld) (f : Fld), f ∈ l → f.1.length + f.2.length ≤ (putT l).length
  | [], f, h => by cases h
  | g :: l, f, h => by
    rw [show putT (g :: l) = put1 g ++ putT l from rfl, List.length_append, put1_len]
    rcases List.mem_cons.1 h with rfl | h
    · omega
    · have := put_in l f h
      omega
end Go.Proofs.YtdjgldjebcoihaaDoorX

/- Digits that are told are read. -/
set_option linter.unusedVariables false
set_option linter.unusedSimpArgs false
namespace Go.Proofs.YtdjgldjebcoihaaDoorX
open Go
theorem decP_all : ∀ (l : List UInt8) (x : Int), (decP l x).2 = true → ∀ c ∈ l, kindOf (c.toNat : Int) = 1
  | [], _, _, c, hc => by simp at hc
  | a :: l, x, h, c, hc => by
    rw [decP] at h
    by_cases k : kindOf (a.toNat : Int) = 1
    · rw [if_pos k] at h
      rcases List.mem_cons.1 hc with rfl | hc
      · exact k
      · exact decP_all l _ h c hc
    · rw [if_neg k] at h; cases h
theorem decP_snoc (c : UInt8) : ∀ (l : List UInt8) (x : Int), decP (l ++ [c]) x = if (decP l x).2 = true then decP [c] (decP l x).1 else (0, false)
  | [], x => by rw [List.nil_append]; rfl
  | a :: l, x => by
    rw [List.cons_append, decP, decP]
    by_cases k : kindOf (a.toNat : Int) = 1
    · rw [if_pos k, if_pos k]; exact decP_snoc c l _
    · rw [if_neg k, if_neg k]; rfl
theorem digit_fin : ∀ r : Fin 10, kindOf ((toB (48 + (r.val : Int))).toNat : Int) = 1 ∧ ((toB (48 + (r.val : Int))).toNat : Int) - 48 = r.val ∧ toB (48 + (r.val : Int)) ≠ 45 := by decide +kernel
theorem digit_nat (r : Nat) (h : r < 10) : kindOf ((toB (48 + (r : Int))).toNat : Int) = 1 ∧ ((toB (48 + (r : Int))).toNat : Int) - 48 = r ∧ toB (48 + (r : Int)) ≠ 45 := digit_fin ⟨r, h⟩
theorem decP_dg : ∀ (n m : Nat), m ≤ n → decP ((dgR m).reverse.map toB) 0 = ((m : Int), true)
  | n, m, h => by
    by_cases h1 : m < 10
    · have hd := digit_nat m h1
      rw [dgR_lt h1]
      show decP [toB (48 + (m : Int))] 0 = _
      rw [decP, if_pos hd.1, decP, hd.2.1]
      simp
    · match n, h with
      | 0, h => omega
      | n + 1, h =>
        have ih := decP_dg n (m / 10) (by omega)
        have hd := digit_nat (m % 10) (by omega)
        rw [dgR_ge h1, List.reverse_cons, List.map_append]
        show decP (_ ++ [toB (48 + ((m % 10 : Nat) : Int))]) 0 = _
        rw [decP_snoc, ih, if_pos rfl, decP, if_pos hd.1, decP, hd.2.1]
        congr 1
        omega
theorem decT_nat (m : Nat) : decT (m : Int) = (dgR m).reverse.map toB := by
  unfold decT decI
  rw [if_neg (by omega), show ((m : Int)).natAbs = m by omega]
theorem read_dec (m : Nat) (h : m < 1000000000000000000) : readD (decT (m : Int)) = ((m : Int), true) := by
  have hl := dgR_len 17 m (by omega)
  have hp := dgR_pos m
  rw [decT_nat]
  unfold readD
  rw [if_neg, decP_dg m m (Nat.le_refl _)]
  simp only [not_or]
  constructor
  · intro e; have := congrArg List.length e; simp at this; rw [this] at hp; simp at hp
  · simp; omega
theorem dec_digits (m : Nat) : ∀ c ∈ decT (m : Int), 48 ≤ c.toNat ∧ c.toNat ≤ 57 := by
  intro c hc
  rw [decT_nat] at hc
  have := kind_one (decP_all _ 0 (by rw [decP_dg m m (Nat.le_refl _)]) c hc)
  omega
theorem dec_three (m : Nat) (h : 100 ≤ m) (h2 : m ≤ 999) : (decT (m : Int)).length = 3 := by
  rw [decT_nat, dgR_ge (by omega), dgR_ge (by omega), dgR_lt (by omega)]
  rfl
end Go.Proofs.YtdjgldjebcoihaaDoorX

/- Lines with ends between: where they are found, and how they are split. -/
set_option linter.unusedVariables false
set_option linter.unusedSimpArgs false
namespace Go.Proofs.YtdjgldjebcoihaaDoorX
open Go
def joinC : List UInt8 → List (List UInt8) → List UInt8
  | a, [] => a
  | a, l :: ls => a ++ (13 :: 10 :: joinC l ls)
theorem index_cons (b : UInt8) (l sub : List UInt8) : Lib.index (b :: l) sub = if sub.isPrefixOf (b :: l) then 0 else if Lib.index l sub == -1 then -1 else Lib.index l sub + 1 := by rw [Lib.index]
theorem index_skip (c : UInt8) (q r : List UInt8) : ∀ a : List UInt8, c ∉ a → Lib.index (a ++ r) (c :: q) = if Lib.index r (c :: q) = -1 then -1 else (a.length : Int) + Lib.index r (c :: q)
  | [], _ => by
    rw [List.nil_append]
    split
    · assumption
    · simp
  | x :: a, h => by
    have hx : x ≠ c := fun e => h (by rw [e]; exact List.mem_cons_self)
    have ih := index_skip c q r a (fun m => h (List.mem_cons_of_mem _ m))
    have hp : ((c :: q).isPrefixOf (x :: (a ++ r))) = false := by
      rw [List.isPrefixOf, show (c == x) = false from beq_eq_false_iff_ne.2 (fun e => hx e.symm), Bool.false_and]
    rw [List.cons_append, index_cons, hp, if_neg (by decide), ih]
    have hge := Lib.index_ge r (c :: q)
    by_cases hr : Lib.index r (c :: q) = -1
    · rw [if_pos hr, if_pos hr]; rfl
    · rw [if_neg hr, if_neg hr, if_neg (by rw [beq_iff_eq]; omega), List.length_cons]
      omega
theorem index_miss (c : UInt8) (q a : List UInt8) (h : c ∉ a) : Lib.index a (c :: q) = -1 := by
  have := index_skip c q [] a h
  rw [List.append_nil] at this
  rw [this]
  rfl
theorem index_at (q r : List UInt8) : Lib.index (q ++ r) q = 0 := by
  cases q with
  | nil => cases r <;> rfl
  | cons c q => rw [List.cons_append, index_cons, if_pos (by rw [← List.cons_append]; exact List.isPrefixOf_iff_prefix.2 (List.prefix_append _ _))]
theorem index_more (q t : List UInt8) : ∀ a : List UInt8, 0 ≤ Lib.index a q → Lib.index (a ++ t) q = Lib.index a q
  | [], h => by
    cases q with
    | nil => cases t <;> rfl
    | cons c q => rw [show Lib.index [] (c :: q) = -1 from rfl] at h; exact absurd h (by decide)
  | b :: a, h => by
    rw [List.cons_append, index_cons, index_cons b a]
    rw [index_cons] at h
    by_cases hp : q.isPrefixOf (b :: a) = true
    · have : q.isPrefixOf (b :: (a ++ t)) = true := by
        rw [List.isPrefixOf_iff_prefix] at hp ⊢
        exact hp.trans (by rw [← List.cons_append]; exact List.prefix_append _ _)
      rw [if_pos hp, if_pos this]
    · rw [if_neg hp] at h ⊢
      have hne : ¬ (Lib.index a q == -1) = true := by
        intro e
        rw [if_pos e] at h
        exact absurd h (by decide)
      have hge := Lib.index_ge a q
      have h0 : 0 ≤ Lib.index a q := by
        have : Lib.index a q ≠ -1 := fun e => hne (by rw [e]; rfl)
        omega
      have ih := index_more q t a h0
      have hfit := index_fit a q h0
      have hp2 : ¬ q.isPrefixOf (b :: (a ++ t)) = true := by
        intro e
        apply hp
        rw [List.isPrefixOf_iff_prefix] at e ⊢
        rw [← List.cons_append] at e
        exact List.prefix_of_prefix_length_le e (List.prefix_append _ _) (by rw [List.length_cons]; omega)
      rw [if_neg hp2, ih]
def okL (l : List UInt8) : Prop := l ≠ [] ∧ (13 : UInt8) ∉ l
def Q4 : List UInt8 := [13, 10, 13, 10]
theorem index_join (t : List UInt8) : ∀ (ls : List (List UInt8)) (a : List UInt8), (13 : UInt8) ∉ a → (∀ l ∈ ls, okL l) → Lib.index (joinC a ls ++ (Q4 ++ t)) Q4 = ((joinC a ls).length : Int)
  | [], a, ha, _ => by
    rw [show joinC a [] = a from rfl]
    have h0 := index_at Q4 t
    have := index_skip 13 [10, 13, 10] (Q4 ++ t) a ha
    show Lib.index (a ++ (Q4 ++ t)) (13 :: [10, 13, 10]) = _
    rw [this, show Lib.index (Q4 ++ t) (13 :: [10, 13, 10]) = 0 from h0, if_neg (by decide)]
    omega
  | l :: ls, a, ha, hl => by
    obtain ⟨h1, h2⟩ := hl l List.mem_cons_self
    have ih := index_join t ls l h2 (fun x hx => hl x (List.mem_cons_of_mem _ hx))
    rw [show joinC a (l :: ls) = a ++ (13 :: 10 :: joinC l ls) from rfl, List.append_assoc, List.cons_append, List.cons_append]
    obtain ⟨c, r, hc⟩ : ∃ c r, joinC l ls ++ (Q4 ++ t) = c :: r ∧ c ≠ 13 := by
      cases l with
      | nil => exact absurd rfl h1
      | cons c l =>
        have hne : c ≠ 13 := fun e => h2 (by rw [e]; exact List.mem_cons_self)
        cases ls with
        | nil => exact ⟨c, _, rfl, hne⟩
        | cons m ls => exact ⟨c, _, rfl, hne⟩
    rw [hc.1] at ih ⊢
    have hi2 : Lib.index (10 :: (c :: r)) Q4 = Lib.index (c :: r) Q4 + 1 := by
      rw [index_cons, show Q4.isPrefixOf (10 :: c :: r) = false from rfl, if_neg (by decide), if_neg (by rw [beq_iff_eq]; omega)]
    have hi : Lib.index (13 :: 10 :: (c :: r)) Q4 = Lib.index (c :: r) Q4 + 2 := by
      have hp : Q4.isPrefixOf (13 :: 10 :: c :: r) = false := by
        show (([13, 10, 13, 10] : List UInt8)).isPrefixOf (13 :: 10 :: c :: r) = false
        rw [List.isPrefixOf, List.isPrefixOf, List.isPrefixOf, show ((13 : UInt8) == c) = false from beq_eq_false_iff_ne.2 (fun e => hc.2 e.symm)]; rfl
      rw [index_cons, hp, if_neg (by decide), hi2, if_neg (by rw [beq_iff_eq]; omega)]
      omega
    have := index_skip 13 [10, 13, 10] (13 :: 10 :: c :: r) a ha
    show Lib.index (a ++ (13 :: 10 :: c :: r)) (13 :: [10, 13, 10]) = _
    rw [this, show Lib.index (13 :: 10 :: c :: r) (13 :: [10, 13, 10]) = Lib.index (c :: r) Q4 + 2 from hi, ih, if_neg (by omega), List.length_append, List.length_cons, List.length_cons]
    omega
theorem count_join : ∀ (ls : List (List UInt8)) (a : List UInt8), (13 : UInt8) ∉ a → (∀ l ∈ ls, okL l) → Lib.count (joinC a ls) [13, 10] = ls.length ∧ Lib.index (joinC a ls) [13, 10] = if ls = [] then -1 else (a.length : Int)
  | [], a, ha, _ => by
    rw [show joinC a [] = a from rfl]
    have := index_miss 13 [10] a ha
    exact ⟨Lib.count_miss this, by rw [if_pos rfl]; exact this⟩
  | l :: ls, a, ha, hl => by
    obtain ⟨ih, _⟩ := count_join ls l (hl l List.mem_cons_self).2 (fun x hx => hl x (List.mem_cons_of_mem _ hx))
    have hi : Lib.index (joinC a (l :: ls)) [13, 10] = ((a.length : Nat) : Int) := by
      show Lib.index (a ++ (13 :: 10 :: joinC l ls)) (13 :: [10]) = _
      rw [index_skip 13 [10] _ a ha, show Lib.index (13 :: 10 :: joinC l ls) (13 :: [10]) = 0 from index_at [13, 10] (joinC l ls), if_neg (by decide)]
      omega
    refine ⟨?_, by rw [if_neg (by simp)]; exact hi⟩
    rw [Lib.count_hit (by simp) hi, show (joinC a (l :: ls)).drop (a.length + ([13, 10] : List UInt8).length) = joinC l ls by
      show (a ++ (13 :: 10 :: joinC l ls)).drop (a.length + 2) = _
      rw [List.drop_append, List.drop_of_length_le (by omega), List.nil_append, show a.length + 2 - a.length = 2 by omega]; rfl, ih, List.length_cons]
    omega
theorem ev_splitJL (s : List UInt8) (hs : s.length ≤ 1000000) (x5 : Int) (N : Nat) (hN : N ≤ s.length + 1) (h5 : (if (IntKind.wrap .i64 ((s.length : Int) + (1 : Int))) < x5 then (IntKind.wrap .i64 ((s.length : Int) + (1 : Int))) else x5) = (N : Int)) :
    ∀ (ls : List (List UInt8)) (a : List UInt8) (i : Nat) (arr : List (List UInt8)), (13 : UInt8) ∉ a → (∀ l ∈ ls, okL l) → i + ls.length + 1 = N → arr.length = N → (joinC a ls).length ≤ s.length → Ev (fun n => F56_L3 n [13, 10] (0 : Int) s x5 (joinC a ls) (i : Int) arr) (arr.take i ++ (a :: ls)) := by
  intro ls
  induction ls with
  | nil =>
    intro a i arr ha hl hi hn hr
    rw [List.length_nil] at hi
    refine Ev.step (Ev.pure.congr fun n => ?_)
    rw [F56_L3, h5, w64 (n := (N : Int) - 1) (by omega), decide_eq_false (by omega), iteB_f, ev_splitEnd n _ i arr (by omega) (by omega)]
    rfl
  | cons l ls ih =>
    intro a i arr ha hl hi hn hr
    rw [List.length_cons] at hi
    have hj : joinC a (l :: ls) = a ++ (13 :: 10 :: joinC l ls) := rfl
    have hjl : (joinC a (l :: ls)).length = a.length + ((joinC l ls).length + 2) := by rw [hj, List.length_append, List.length_cons, List.length_cons]
    have hidx := (count_join (l :: ls) a ha hl).2
    rw [if_neg (by simp)] at hidx
    have hd : (joinC a (l :: ls)).drop (a.length + 2) = joinC l ls := by
      rw [hj, List.drop_append, List.drop_of_length_le (by omega), List.nil_append, show a.length + 2 - a.length = 2 by omega]; rfl
    have ht : (joinC a (l :: ls)).take a.length = a := by rw [hj, List.take_append, List.take_of_length_le (Nat.le_refl _), Nat.sub_self]; simp
    generalize hz : joinC a (l :: ls) = z at *
    have hix : ∀ n, F75 n z [13, 10] = some (a.length : Int) := by
      intro n
      rw [F75, F78]
      · rw [if_pos (by omega), hidx]; rfl
      · intro c e; simp at e
    have w0 : IntKind.wrap .i64 ((a.length : Int) + 0) = (a.length : Int) := by rw [w64 (by omega)]; omega
    have w1 : IntKind.wrap .i64 ((a.length : Int) + ((([13, 10] : List UInt8).length : Nat) : Int)) = ((a.length + 2 : Nat) : Int) := by rw [w64 (by simp; omega)]; rfl
    have e := ih l (i + 1) (arr.set i a) (hl l List.mem_cons_self).2 (fun x hx => hl x (List.mem_cons_of_mem _ hx)) (by omega) (by rw [List.length_set]; exact hn) (by omega)
    rw [take_set1 _ _ _ (by omega), List.append_assoc] at e
    refine Ev.step (e.congr fun n => ?_)
    rw [F56_L3, h5, w64 (n := (N : Int) - 1) (by omega), decide_eq_true (by omega), iteB_t, hix, bind_some', decide_eq_false (by omega), iteB_f, w0, w1, grd_t _ (by omega), grd_t _ (by omega), toNat_nat, grd_t _ (by omega), grd_t _ (by omega), g64 i (by omega), toNat_nat, toNat_nat, hd, ht]
theorem ev_splitJ (ls : List (List UInt8)) (a : List UInt8) (ha : (13 : UInt8) ∉ a) (hl : ∀ l ∈ ls, okL l) (hs : (joinC a ls).length ≤ 1000000) : Ev (fun n => F41 n (joinC a ls) [13, 10]) (a :: ls) := by
  have hc := (count_join ls a ha hl).1
  have hcb : Lib.countB (bs (joinC a ls)) (bs [13, 10]) = ls.length := by
    show Lib.count (bs (joinC a ls)).data.toList (bs [13, 10]).data.toList = _
    exact hc
  have hlen : ls.length ≤ (joinC a ls).length := by
    have := Lib.countB_le (bs [13, 10]) (by rw [bs_size]; decide) (joinC a ls).length (bs (joinC a ls)) (by rw [bs_size]; omega)
    rw [hcb, bs_size] at this
    exact this
  generalize hz : joinC a ls = s at *
  have hct : ∀ n, F74 n s [13, 10] = some ((ls.length : Nat) : Int) := by
    intro n
    rw [F74]
    · rw [if_pos ⟨by omega, by decide⟩, hcb]
    · intro c e; simp at e
  have w1 : IntKind.wrap .i64 ((ls.length : Int) + 1) = ((ls.length + 1 : Nat) : Int) := by rw [w64 (by omega)]; omega
  have w2 : IntKind.wrap .i64 ((s.length : Int) + (1 : Int)) = ((s.length + 1 : Nat) : Int) := by rw [w64 (by omega)]; omega
  have h5 : (if (IntKind.wrap .i64 ((s.length : Int) + (1 : Int))) < ((ls.length + 1 : Nat) : Int) then (IntKind.wrap .i64 ((s.length : Int) + (1 : Int))) else ((ls.length + 1 : Nat) : Int)) = ((ls.length + 1 : Nat) : Int) := by
    rw [w2, if_neg (by omega)]
  have e := ev_splitJL s hs ((ls.length + 1 : Nat) : Int) (ls.length + 1) (by omega) h5 ls a 0 (List.replicate (ls.length + 1) []) ha hl (by omega) (by simp) (by rw [hz]; exact Nat.le_refl _)
  rw [hz] at e
  refine (e.bind (g := fun n v1 => some v1) Ev.pure).congr fun n => ?_
  rw [F41, F56]
  show (iteB false (some []) (iteB false none (iteB true ((F74 n s [13, 10]).bind fun v4 => F56_J1 n s [13, 10] (0 : Int) (IntKind.wrap .i64 (v4 + (1 : Int)))) (F56_J1 n s [13, 10] (0 : Int) (-1 : Int))))).bind _ = _
  rw [iteB_f, iteB_f, iteB_t, hct, bind_some', w1, F56_J1, h5, grd_t _ (by omega), toNat_nat]
  rfl
end Go.Proofs.YtdjgldjebcoihaaDoorX

/- Responses that are put are read: the head. -/
set_option linter.unusedVariables false
set_option linter.unusedSimpArgs false
namespace Go.Proofs.YtdjgldjebcoihaaDoorX
open Go
def L0 (c : Int) : List UInt8 := ((([72, 84, 84, 80, 47, 49, 46, 49, 32] : List UInt8) ++ decT c) ++ ([32] : List UInt8)) ++ reasonT c
def fl (f : Fld) : List UInt8 := f.1 ++ (58 :: 32 :: f.2)
theorem put1_fl (f : Fld) : put1 f = fl f ++ [13, 10] := by unfold put1 fl; simp [List.append_assoc]
theorem join_put : ∀ (l : List Fld) (a : List UInt8), (a ++ [13, 10]) ++ putT l = joinC a (l.map fl) ++ [13, 10]
  | [], a => by simp [putT, joinC]
  | f :: l, a => by
    rw [show putT (f :: l) = put1 f ++ putT l from rfl, put1_fl, join_put l (fl f), List.map_cons, show joinC a (fl f :: l.map fl) = a ++ (13 :: 10 :: joinC (fl f) (l.map fl)) from rfl]
    simp [List.append_assoc]
def Z (c : Int) (l : List Fld) : List UInt8 := joinC (L0 c) (l.map fl)
theorem head_Z (c : Int) (l : List Fld) : headP c l = Z c l ++ Q4 := by
  have h : headP c l = ((L0 c ++ [13, 10]) ++ putT l) ++ [13, 10] := rfl
  rw [h, join_put, List.append_assoc]; rfl
def okF (f : Fld) : Prop := tokT f.1 = true ∧ valT f.2 = true ∧ trimT f.2 = f.2
theorem tok_finB : ∀ c : Fin 256, tokI (c.val : Int) = true → c.val ≠ 13 ∧ c.val ≠ 58 := by decide +kernel
theorem val_finB : ∀ c : Fin 256, valI (c.val : Int) = true → c.val ≠ 13 := by decide +kernel
theorem tok_mem {s : List UInt8} (h : tokT s = true) : (13 : UInt8) ∉ s ∧ (58 : UInt8) ∉ s := by
  have hall : ∀ c ∈ s, tokI (c.toNat : Int) = true := by
    unfold tokT at h
    rw [Bool.and_eq_true] at h
    intro c hc
    exact List.all_eq_true.1 h.1 _ (List.mem_map_of_mem hc)
  constructor
  · intro hc
    exact (tok_finB ⟨13, by decide⟩ (hall 13 hc)).1 rfl
  · intro hc
    exact (tok_finB ⟨58, by decide⟩ (hall 58 hc)).2 rfl
theorem val_mem {s : List UInt8} (h : valT s = true) : (13 : UInt8) ∉ s := by
  intro hc
  have := List.all_eq_true.1 h ((13 : UInt8).toNat : Int) (List.mem_map_of_mem hc)
  exact val_finB ⟨13, by decide⟩ this rfl
theorem cut_uniq {c : UInt8} {a b : List UInt8} (h : (cutB c (a ++ c :: b)).1 = a) : c ∉ a := by
  intro hc
  unfold cutB at h
  rw [if_pos (by simp)] at h
  have h1 : (Lib.indexByte (a ++ c :: b) c).toNat < a.length := by
    obtain ⟨p, q, rfl, hp⟩ : ∃ p q, a = p ++ c :: q ∧ c ∉ p := List.eq_append_cons_of_mem hc
    rw [List.append_assoc, List.cons_append, idx_app c _ p hp, List.length_append, List.length_cons]
    omega
  have := congrArg List.length h
  rw [List.length_take, List.length_append] at this
  omega
theorem bad_ok {f : Fld} (h : fldBad f = false) : okF f ∧ f.1 ≠ CL := by
  unfold fldBad at h
  rw [Bool.or_eq_false_iff, Bool.or_eq_false_iff] at h
  have h23 := h.2.1
  rw [Bool.not_eq_false', Bool.and_eq_true, beq_iff_eq, beq_iff_eq] at h23
  obtain ⟨h2, h3⟩ := h23
  have h4 := beq_eq_false_iff_ne.1 h.2.2
  have h1 : (lineT ((f.1 ++ [58]) ++ f.2)).2 = true := by
    cases hq : (lineT ((f.1 ++ [58]) ++ f.2)).2 with
    | true => rfl
    | false => rw [hq] at h; exact absurd h.1 (by decide)
  have e : (f.1 ++ [58]) ++ f.2 = f.1 ++ 58 :: f.2 := by simp
  rw [e] at h1 h2 h3
  have hl : lineT (f.1 ++ 58 :: f.2) = (((cutB 58 (f.1 ++ 58 :: f.2)).1, trimT (cutB 58 (f.1 ++ 58 :: f.2)).2.1), true) := by
    unfold lineT at h1 ⊢
    split at h1
    · rename_i hh; rw [if_pos hh]
    · cases h1
  have hv : tokT (cutB 58 (f.1 ++ 58 :: f.2)).1 = true ∧ valT (cutB 58 (f.1 ++ 58 :: f.2)).2.1 = true := by
    unfold lineT at h1
    split at h1
    · rename_i hh; exact hh.2
    · cases h1
  rw [hl] at h2 h3
  have hno : (58 : UInt8) ∉ f.1 := cut_uniq h2
  rw [cut_app 58 f.1 f.2 hno] at hv h3
  refine ⟨⟨hv.1, hv.2, h3⟩, ?_⟩
  intro e
  apply h4
  rw [e]; decide
theorem okF_line {f : Fld} (h : okF f) : lineT (fl f) = (f, true) ∧ okL (fl f) := by
  obtain ⟨h1, h2, h3⟩ := h
  have hm := tok_mem h1
  constructor
  · unfold lineT fl
    rw [cut_app 58 f.1 (32 :: f.2) hm.2, if_pos ⟨rfl, h1, by show ((valI 32) && (ints f.2).all valI) = true; rw [show valI 32 = true from by decide]; exact h2⟩]
    have : trimT (32 :: f.2) = f.2 := by
      show trimL (trimR (32 :: f.2)) = _
      rw [trim_comm, show trimL (32 :: f.2) = trimL f.2 by rw [trimL, if_pos (by decide)], ← trim_comm]
      exact h3
    rw [this]
  · refine ⟨by unfold fl; simp, ?_⟩
    unfold fl
    rw [List.mem_append, List.mem_cons, List.mem_cons]
    rintro (e | e | e | e)
    · exact hm.1 e
    · cases e
    · cases e
    · exact val_mem h2 e
theorem trim_none : ∀ l : List UInt8, (∀ c ∈ l, isBl c = false) → trimT l = l := by
  have hL : ∀ l : List UInt8, (∀ c ∈ l, isBl c = false) → trimL l = l := by
    intro l h
    cases l with
    | nil => rfl
    | cons c l => rw [trimL, if_neg (by rw [h c List.mem_cons_self]; decide)]
  have hR : ∀ l : List UInt8, (∀ c ∈ l, isBl c = false) → trimR l = l := by
    intro l
    induction l with
    | nil => intro _; rfl
    | cons c l ih =>
      intro h
      rw [trimR, ih fun x hx => h x (List.mem_cons_of_mem _ hx)]
      split
      · rename_i e; rw [if_neg (by rw [h c List.mem_cons_self]; decide), e]
      · rfl
  intro l h
  unfold trimT
  rw [hR l h, hL l h]
theorem ok_len (n : Nat) : okF (CL, decT (n : Int)) := by
  have hd := dec_digits n
  refine ⟨by show tokT CL = true; decide +kernel, ?_, trim_none _ ?_⟩
  · show (ints (decT (n : Int))).all valI = true
    rw [List.all_eq_true]
    intro x hx
    obtain ⟨c, hc, rfl⟩ := List.mem_map.1 hx
    have := hd c hc
    unfold valI ofB
    rw [if_neg (by omega), if_neg (by omega), if_neg (by omega)]
  · intro c hc
    have := hd c hc
    unfold isBl
    rw [Bool.or_eq_false_iff, beq_eq_false_iff_ne, beq_eq_false_iff_ne]
    constructor <;> (intro e; subst e; exact absurd this (by decide))
theorem reason_code3 (c : Int) (h : reasonT c ≠ []) : 100 ≤ c ∧ c ≤ 999 := by
  have key : ∀ (ks : List Int) (ws : List (List UInt8)), findW ks ws c ≠ [] → c ∈ ks := by
    intro ks
    induction ks with
    | nil => intro ws k; rw [findW] at k; exact absurd rfl k; simp
    | cons k ks ih =>
      intro ws hw
      cases ws with
      | nil => rw [findW] at hw; exact absurd rfl hw; simp
      | cons w ws =>
        rw [findW] at hw
        split at hw
        · rename_i e; simp [e]
        · exact List.mem_cons_of_mem _ (ih ws hw)
  have hm := key _ _ h
  exact (show ∀ x ∈ codesR, 100 ≤ x ∧ x ≤ 999 by decide) c hm
theorem reason_no (c : Int) : (13 : UInt8) ∉ reasonT c := by
  have h : ∀ (ks : List Int) (ws : List (List UInt8)), (∀ w ∈ ws, (13 : UInt8) ∉ w) → (13 : UInt8) ∉ findW ks ws c := by
    intro ks
    induction ks with
    | nil => intro ws _; rw [findW]; exact List.not_mem_nil; simp
    | cons k ks ih =>
      intro ws hw
      cases ws with
      | nil => rw [findW]; exact List.not_mem_nil; simp
      | cons w ws =>
        rw [findW]
        split
        · exact hw w (by simp)
        · exact ih ws fun x hx => hw x (by simp [hx])
  exact h _ _ (by decide)
theorem L0_no (m : Nat) : (13 : UInt8) ∉ L0 (m : Int) := by
  unfold L0
  rw [List.mem_append, List.mem_append, List.mem_append]
  rintro (((e | e) | e) | e)
  · exact absurd e (by decide)
  · have := dec_digits m 13 e
    exact absurd this (by decide)
  · exact absurd e (by decide)
  · exact reason_no _ e
theorem ev_firstX (c : Int) (h : reasonT c ≠ []) : Ev (fun n => F42 n (L0 c)) c := by
  have hc := reason_code3 c h
  obtain ⟨m, rfl⟩ := Int.eq_ofNat_of_zero_le (show 0 ≤ c by omega)
  have h3 := dec_three m (by omega) (by omega)
  have hz : L0 (m : Int) = ([72, 84, 84, 80, 47, 49, 46, 49, 32] : List UInt8) ++ (decT (m : Int) ++ (32 :: reasonT (m : Int))) := by
    unfold L0; simp [List.append_assoc]
  rw [hz]
  generalize hw : decT (m : Int) ++ (32 :: reasonT (m : Int)) = w
  have hwl : 3 ≤ w.length := by rw [← hw, List.length_append]; omega
  have hwt : w.take 3 = decT (m : Int) := by rw [← hw, ← h3, List.take_append_length]
  have hl : ((([72, 84, 84, 80, 47, 49, 46, 49, 32] : List UInt8) ++ w).length : Int) = 9 + (w.length : Int) := by rw [List.length_append]; rfl
  have hcut : ∀ n, F57 n (([72, 84, 84, 80, 47, 49, 46, 49, 32] : List UInt8) ++ w) ([72, 84, 84, 80, 47, 49, 46, 49, 32] : List UInt8) = some (w, true) := by
    intro n
    rw [F57, F76, F84]
    show ((iteB (decide ((9 : Int) ≤ ((([72, 84, 84, 80, 47, 49, 46, 49, 32] : List UInt8) ++ w).length : Int))) (grd (0 ≤ (9 : Int) ∧ (9 : Int) ≤ ((([72, 84, 84, 80, 47, 49, 46, 49, 32] : List UInt8) ++ w).length : Int)) (some ([72, 84, 84, 80, 47, 49, 46, 49, 32] == ([72, 84, 84, 80, 47, 49, 46, 49, 32] : List UInt8)))) (some false)).bind fun v1 => iteB (!v1) (some (([72, 84, 84, 80, 47, 49, 46, 49, 32] : List UInt8) ++ w, false)) (grd (0 ≤ (9 : Int) ∧ (9 : Int) ≤ ((([72, 84, 84, 80, 47, 49, 46, 49, 32] : List UInt8) ++ w).length : Int)) (some (w, true)))).bind _ = _
    rw [hl, decide_eq_true (by omega), iteB_t, grd_t _ (by omega), beq_self_eq_true, bind_some', Bool.not_true, iteB_f, grd_t _ (by omega)]
    rfl
  have e := ev_ReadDecimal (w.take 3)
  rw [hwt, read_dec m (by omega)] at e
  refine (e.bind (g := fun n v5 => some v5.1) Ev.pure).congr fun n => ?_
  rw [F42, hcut, bind_some']
  show iteB false _ (iteB (decide ((w.length : Int) < (3 : Int))) (some (0 : Int)) (grd ((3 : Int) ≤ (w.length : Int)) ((F43 n (w.take 3)).bind fun v5 => some v5.1))) = _
  rw [iteB_f, decide_eq_false (by omega), iteB_f, grd_t _ (by omega), hwt]
theorem ev_headX (a : List UInt8) (c : Int) (fs : List Fld) (hf : ∀ f ∈ fs, okF f ∧ (fl f).length ≤ 1000000) (hl : fs.length ≤ 10000) {v : Resp × Int × Bool} (he : Ev (fun n => F23_L1 n (a :: fs.map fl) c (fs.length : Int) fs) v) : ∀ (k i : Nat), i + k = fs.length → Ev (fun n => F23_L1 n (a :: fs.map fl) c (i : Int) (fs.take i)) v := by
  intro k
  induction k with
  | zero =>
    intro i hi
    rw [List.take_of_length_le (by omega), show i = fs.length by omega]
    exact he
  | succ k ih =>
    intro i hi
    have hd : (a :: fs.map fl).drop 1 = fs.map fl := rfl
    have hg : (fs.map fl).getD i default = fl (fs.getD i default) := by
      rw [List.getD_eq_getElem?_getD, List.getElem?_map, List.getD_eq_getElem?_getD, List.getElem?_eq_getElem (by omega)]; rfl
    have hm : fs.getD i default ∈ fs := by
      rw [List.getD_eq_getElem?_getD, List.getElem?_eq_getElem (by omega)]
      exact List.getElem_mem _
    have htk : fs.take (i + 1) = fs.take i ++ [fs.getD i default] := by
      rw [List.take_succ_eq_append_getElem (by omega), List.getD_eq_getElem?_getD, List.getElem?_eq_getElem (by omega)]; rfl
    have hlen : ((a :: fs.map fl).drop 1).length = fs.length := by rw [hd, List.length_map]
    have u : ∀ n, F23_L1 (n + 1) (a :: fs.map fl) c (i : Int) (fs.take i) = (F27 n (fl (fs.getD i default))).bind fun v9 => iteB (!v9.2) (some (((0 : Int), [], []), (0 : Int), false)) (F23_L1 n (a :: fs.map fl) c ((i + 1 : Nat) : Int) (fs.take i ++ [(v9.1.1, v9.1.2)])) := by
      intro n
      rw [F23_L1, decide_eq_true (by omega), iteB_t, grd_t _ (by omega), toNat_nat, g64 i (by omega), hd, hg]
      simp only [grd_t _ (show (fs.take i).length + 1 ≤ 549755813888 by rw [List.length_take]; omega)]
    have e := ev_Line (fl (fs.getD i default)) (hf _ hm).2
    rw [(okF_line (hf _ hm).1).1] at e
    have e2 := ih (i + 1) (by omega)
    rw [htk] at e2
    exact Ev.step ((e.bind (g := fun n (v9 : Fld × Bool) => iteB (!v9.2) (some (((0 : Int), [], []), (0 : Int), false)) (F23_L1 n (a :: fs.map fl) c ((i + 1 : Nat) : Int) (fs.take i ++ [(v9.1.1, v9.1.2)]))) (e2.congr fun n => rfl)).congr u)
theorem ev_headEndX (a : List UInt8) (r : Resp) (hl : r.2.1.length ≤ 9000) (hb : r.2.2.length ≤ 100000) : Ev (fun n => F23_L1 n (a :: (fldsT r).map fl) r.1 ((fldsT r).length : Int) (fldsT r)) ((r.1, r.2.1, []), (if noBody r.1 = true then 0 else (r.2.2.length : Int)), true) := by
  have hlen : ((a :: (fldsT r).map fl).drop 1).length = (fldsT r).length := by rw [List.drop_succ_cons, List.drop_zero, List.length_map]
  have hfl : (fldsT r).length ≤ 9001 := by
    unfold fldsT
    split
    · omega
    · rw [List.length_append]; simp; omega
  generalize hacc : fldsT r = acc at *
  have u : ∀ n, F23_L1 (n + 1) (a :: acc.map fl) r.1 (acc.length : Int) acc = (F15 n r.1).bind fun v12 => iteB v12 (some ((r.1, acc, []), (0 : Int), true)) (iteB ((acc.length : Int) == (0 : Int)) (some (((0 : Int), [], []), (0 : Int), false)) (grd (0 ≤ (IntKind.wrap .i64 ((acc.length : Int) - (1 : Int))) ∧ (IntKind.wrap .i64 ((acc.length : Int) - (1 : Int))) < (acc.length : Int)) (grd ((IntKind.wrap .i64 ((acc.length : Int) - (1 : Int))).toNat < acc.length) (grd (0 ≤ (IntKind.wrap .i64 ((acc.length : Int) - (1 : Int))) ∧ (IntKind.wrap .i64 ((acc.length : Int) - (1 : Int))) ≤ (acc.length : Int)) ((F43 n ((acc.getD ((IntKind.wrap .i64 ((acc.length : Int) - (1 : Int))).toNat) default).2)).bind fun v18 => iteB v18.2 (some ((r.1, (acc).take ((IntKind.wrap .i64 ((acc.length : Int) - (1 : Int))).toNat), []), v18.1, (((acc.getD ((IntKind.wrap .i64 ((acc.length : Int) - (1 : Int))).toNat) default).1) == ([67, 111, 110, 116, 101, 110, 116, 45, 76, 101, 110, 103, 116, 104] : List UInt8)))) (some ((r.1, (acc).take ((IntKind.wrap .i64 ((acc.length : Int) - (1 : Int))).toNat), []), v18.1, false))))))) := by
    intro n
    rw [F23_L1, decide_eq_false (by omega), iteB_f]
  cases hn : noBody r.1 with
  | true =>
    rw [if_pos rfl]
    have : acc = r.2.1 := by rw [← hacc]; unfold fldsT; rw [if_pos hn]
    exact Ev.step (Ev.pure.congr fun n => by rw [u, empty_eq, hn, bind_some', iteB_t, this])
  | false =>
    rw [if_neg (by decide)]
    have hac : acc = r.2.1 ++ [(CL, decT (r.2.2.length : Int))] := by rw [← hacc]; unfold fldsT; rw [if_neg (by rw [hn]; decide)]
    have hal : acc.length = r.2.1.length + 1 := by rw [hac, List.length_append]; rfl
    have w : IntKind.wrap .i64 ((acc.length : Int) - (1 : Int)) = ((r.2.1.length : Nat) : Int) := by rw [w64 (by omega)]; omega
    have hg : acc.getD r.2.1.length default = (CL, decT (r.2.2.length : Int)) := by rw [hac, List.getD_eq_getElem?_getD, List.getElem?_append_right (Nat.le_refl _), Nat.sub_self]; rfl
    have ht : acc.take r.2.1.length = r.2.1 := by rw [hac, List.take_append_length]
    have e := ev_ReadDecimal (decT (r.2.2.length : Int))
    rw [read_dec _ (by omega)] at e
    refine Ev.step ((e.bind (r := (((r.1, r.2.1, []) : Resp), (r.2.2.length : Int), true)) (g := fun n (v18 : Int × Bool) => iteB v18.2 (some (((r.1, r.2.1, []) : Resp), v18.1, true)) (some (((r.1, r.2.1, []) : Resp), v18.1, false))) (Ev.pure.congr fun n => rfl)).congr fun n => ?_)
    rw [u, empty_eq, hn, bind_some', iteB_f, bq (by omega), iteB_f, w, grd_t _ (by omega), toNat_nat, grd_t _ (by omega), grd_t _ (by omega), hg, ht]
    rfl
def okR (r : Resp) : Prop := reasonT r.1 ≠ [] ∧ r.2.1.any fldBad = false ∧ r.2.1.length ≤ 9000 ∧ (putT r.2.1).length ≤ 100000 ∧ r.2.2.length ≤ 100000
theorem okR_flds {r : Resp} (h : okR r) : ∀ f ∈ fldsT r, okF f ∧ (fl f).length ≤ 1000000 := by
  obtain ⟨h1, h2, h3, h4, h5⟩ := h
  have hr : ∀ f ∈ r.2.1, okF f ∧ (fl f).length ≤ 1000000 := by
    intro f hf
    have hb : fldBad f = false := by
      cases hh : fldBad f with
      | false => rfl
      | true => rw [List.any_eq_true.2 ⟨f, hf, hh⟩] at h2; cases h2
    have := put_in _ _ hf
    exact ⟨(bad_ok hb).1, by unfold fl; rw [List.length_append, List.length_cons, List.length_cons]; omega⟩
  unfold fldsT
  split
  · exact hr
  · intro f hf
    rcases List.mem_append.1 hf with hf | hf
    · exact hr f hf
    · obtain rfl := List.mem_singleton.1 hf
      have := dec_len (r.2.2.length : Int) (by omega) (by omega)
      exact ⟨ok_len _, by unfold fl; rw [List.length_append, List.length_cons, List.length_cons]; show CL.length + ((decT (r.2.2.length : Int)).length + 1 + 1) ≤ 1000000; rw [show CL.length = 14 from rfl]; omega⟩
theorem join_len : ∀ (l : List Fld) (a : List UInt8), (joinC a (l.map fl)).length = a.length + (putT l).length := by
  intro l a
  have := congrArg List.length (join_put l a)
  simp only [List.length_append] at this
  omega
theorem flds_put {r : Resp} (h : okR r) : (putT (fldsT r)).length ≤ 100100 := by
  obtain ⟨h1, h2, h3, h4, h5⟩ := h
  unfold fldsT
  split
  · omega
  · have := dec_len (r.2.2.length : Int) (by omega) (by omega)
    rw [putT_snoc]
    show (putT r.2.1).length + (CL.length + (decT (r.2.2.length : Int)).length + 4) ≤ 100100
    rw [show CL.length = 14 from rfl]; omega
theorem Z_len {r : Resp} (h : okR r) : (Z r.1 (fldsT r)).length ≤ 101000 := by
  have hp := flds_put h
  have hc := reason_code3 _ h.1
  have := dec_len r.1 (by omega) (by omega)
  have hr := reason_len r.1
  unfold Z
  rw [join_len]
  unfold L0
  simp only [List.length_append, List.length_cons, List.length_nil]
  omega
theorem ev_headZ (r : Resp) (h : okR r) : Ev (fun n => F23 n (Z r.1 (fldsT r))) ((r.1, r.2.1, []), (if noBody r.1 = true then 0 else (r.2.2.length : Int)), true) := by
  have hc := reason_code3 _ h.1
  obtain ⟨m, hm⟩ := Int.eq_ofNat_of_zero_le (show 0 ≤ r.1 by omega)
  have hl0 : (13 : UInt8) ∉ L0 r.1 := by rw [hm]; exact L0_no m
  have hfl := okR_flds h
  have hn : (fldsT r).length ≤ 9001 := by
    have := h.2.2.1
    unfold fldsT
    split
    · omega
    · rw [List.length_append]; simp; omega
  have hzl := Z_len h
  obtain ⟨N1, e1⟩ := ev_splitJ ((fldsT r).map fl) (L0 r.1) hl0 (by
    intro l hl
    obtain ⟨f, hf, rfl⟩ := List.mem_map.1 hl
    exact (okF_line (hfl f hf).1).2) (by unfold Z at hzl; omega)
  obtain ⟨N2, e2⟩ := ev_firstX r.1 h.1
  obtain ⟨N3, e3⟩ := ev_headX (L0 r.1) r.1 (fldsT r) hfl (by omega) (ev_headEndX (L0 r.1) r h.2.2.1 h.2.2.2.2) (fldsT r).length 0 (by omega)
  refine ⟨N1 + N2 + N3, fun n hn => ?_⟩
  have q1 := e1 n (by omega)
  have q2 := e2 n (by omega)
  have q3 := e3 n (by omega)
  dsimp only at q1 q2 q3
  show F23 n (Z r.1 (fldsT r)) = _
  unfold Z
  rw [F23, q1, bind_some', grd_t _ (by rw [List.length_cons]; omega)]
  show (F42 n (L0 r.1)).bind _ = _
  rw [q2, bind_some', grd_t _ (by rw [List.length_cons]; omega)]
  exact q3
end Go.Proofs.YtdjgldjebcoihaaDoorX

/- Responses that are put are read: where the head ends. -/
set_option linter.unusedVariables false
set_option linter.unusedSimpArgs false
namespace Go.Proofs.YtdjgldjebcoihaaDoorX
open Go
def bodyP (r : Resp) (bare : Bool) : List Int := if (bare || noBody r.1) = true then [] else r.2.2
theorem reply_ok {r : Resp} (h : okR r) (bare : Bool) : replyT r bare = (Z r.1 (fldsT r) ++ Q4).map ofB ++ bodyP r bare := by
  unfold replyT bodyP
  rw [if_neg h.1, if_neg (by rw [h.2.1]; decide), head_Z]
  split
  · rw [List.append_nil]
  · rfl
theorem toB_ofBs (l : List UInt8) : (l.map ofB).map toB = l := toB_ints l
theorem reply_B {r : Resp} (h : okR r) (bare : Bool) (t : List Int) : (replyT r bare ++ t).map toB = Z r.1 (fldsT r) ++ (Q4 ++ ((bodyP r bare).map toB ++ t.map toB)) := by
  rw [reply_ok h, List.map_append, List.map_append, toB_ofBs, List.append_assoc, List.append_assoc]
theorem reply_idx {r : Resp} (h : okR r) (t : List UInt8) : Lib.index (Z r.1 (fldsT r) ++ (Q4 ++ t)) Q4 = ((Z r.1 (fldsT r)).length : Int) := by
  have hc := reason_code3 _ h.1
  obtain ⟨m, hm⟩ := Int.eq_ofNat_of_zero_le (show 0 ≤ r.1 by omega)
  have hl0 : (13 : UInt8) ∉ L0 r.1 := by rw [hm]; exact L0_no m
  refine index_join t ((fldsT r).map fl) (L0 r.1) hl0 ?_
  intro l hl
  obtain ⟨f, hf, rfl⟩ := List.mem_map.1 hl
  exact (okF_line (okR_flds h f hf).1).2
theorem reply_same (r : Resp) (bare : Bool) (x : List Int) (hx : noBody r.1 = false → x.length = r.2.2.length) (hb : (bare || noBody r.1) = false → x = r.2.2) : replyT (r.1, r.2.1, x) bare = replyT r bare := by
  have hf : fldsT (r.1, r.2.1, x) = fldsT r := by
    unfold fldsT
    dsimp only
    cases hn : noBody r.1 with
    | true => rfl
    | false => rw [if_neg (by decide), if_neg (by decide), hx hn]
  unfold replyT
  rw [hf]
  dsimp only
  cases hn : (bare || noBody r.1) with
  | true => rfl
  | false => rw [hb hn]
theorem reply_len {r : Resp} (h : okR r) (bare : Bool) : (replyT r bare).length = (Z r.1 (fldsT r)).length + 4 + (bodyP r bare).length := by
  rw [reply_ok h, List.length_append, List.length_map, List.length_append]; rfl
theorem cut_idx {r : Resp} (h : okR r) (k : Nat) (hk : k ≤ (replyT r false).length) : (k < (Z r.1 (fldsT r)).length + 4 → Lib.index (((replyT r false).take k).map toB) Q4 = -1) ∧ ((Z r.1 (fldsT r)).length + 4 ≤ k → ∃ t, ((replyT r false).take k).map toB = Z r.1 (fldsT r) ++ (Q4 ++ t)) := by
  have hB := reply_B h false []
  rw [List.append_nil, List.map_nil, List.append_nil] at hB
  have hidx := reply_idx h ((bodyP r false).map toB)
  rw [← hB] at hidx
  constructor
  · intro hlt
    have hge := Lib.index_ge (((replyT r false).take k).map toB) Q4
    by_cases h0 : 0 ≤ Lib.index (((replyT r false).take k).map toB) Q4
    · have hm := index_more Q4 (((replyT r false).drop k).map toB) _ h0
      rw [← List.map_append, List.take_append_drop, hidx] at hm
      have hfit := index_fit _ _ h0
      rw [← hm, List.length_map, List.length_take, show Q4.length = 4 from rfl] at hfit
      omega
    · omega
  · intro hle
    refine ⟨((bodyP r false).map toB).take (k - ((Z r.1 (fldsT r)).length + 4)), ?_⟩
    rw [List.map_take, hB, ← List.append_assoc, List.take_append, List.take_of_length_le (by rw [List.length_append, show Q4.length = 4 from rfl]; exact hle), List.append_assoc, List.length_append, show Q4.length = 4 from rfl]
end Go.Proofs.YtdjgldjebcoihaaDoorX

/- Responses that are not too great. -/
set_option linter.unusedVariables false
set_option linter.unusedSimpArgs false
namespace Go.Proofs.YtdjgldjebcoihaaDoorX
open Go
theorem own_loop (r : Resp) : ∀ (k i : Nat) (x : Int) (acc : List Fld), i + k = r.2.1.length → acc = r.2.1.take i → 10 * (i : Int) ≤ x → x ≤ 10000 → ∃ v, Ev (fun n => F6_L1 n r x (i : Int) acc) v ∧ (v.2 = true → v.1 = r ∧ x + ((putT (r.2.1.drop i)).length : Int) + 6 * (k : Int) ≤ 3000)
  | 0, i, x, acc, hi, ha, h0, h1 => by
    refine ⟨((r.1, acc, r.2.2), decide (x < 3000)), Ev.step (Ev.pure.congr fun n => by rw [F6_L1, decide_eq_false (by omega), iteB_f]), fun h => ?_⟩
    have hx : x < 3000 := of_decide_eq_true h
    rw [List.drop_of_length_le (by omega)]
    refine ⟨?_, ?_⟩
    · rw [ha, List.take_of_length_le (by omega)]
    · show x + (0 : Int) + 0 ≤ 3000
      omega
  | k + 1, i, x, acc, hi, ha, h0, h1 => by
    by_cases hx : x < 3000
    · have hal : acc.length = i := by rw [ha, List.length_take]; omega
      have htk : acc ++ [r.2.1.getD i default] = r.2.1.take (i + 1) := by
        rw [ha, List.take_succ_eq_append_getElem (by omega), List.getD_eq_getElem?_getD, List.getElem?_eq_getElem (by omega)]; rfl
      obtain ⟨p, hp0, hp1, hp⟩ : ∃ p : Nat, p ≤ 3000 ∧ (p < 3000 → p = (r.2.1.getD i default).1.length) ∧ (if (3000 : Int) < (((r.2.1.getD i default).1).length : Int) then (3000 : Int) else (((r.2.1.getD i default).1).length : Int)) = (p : Int) := by
        split
        · exact ⟨3000, by omega, by omega, rfl⟩
        · exact ⟨_, by omega, fun _ => rfl, rfl⟩
      obtain ⟨q, hq0, hq1, hq⟩ : ∃ q : Nat, q ≤ 3000 ∧ (q < 3000 → q = (r.2.1.getD i default).2.length) ∧ (if (3000 : Int) < (((r.2.1.getD i default).2).length : Int) then (3000 : Int) else (((r.2.1.getD i default).2).length : Int)) = (q : Int) := by
        split
        · exact ⟨3000, by omega, by omega, rfl⟩
        · exact ⟨_, by omega, fun _ => rfl, rfl⟩
      have hw : IntKind.wrap .i64 (IntKind.wrap .i64 (IntKind.wrap .i64 (x + 10) + (p : Int)) + (q : Int)) = x + 10 + p + q := by
        rw [w64 (n := x + 10) (by omega), w64 (n := x + 10 + p) (by omega), w64 (by omega)]
      have u : ∀ n, F6_L1 (n + 1) r x (i : Int) acc = F6_L1 n r (x + 10 + p + q) ((i + 1 : Nat) : Int) (acc ++ [r.2.1.getD i default]) := by
        intro n
        rw [F6_L1, decide_eq_true (by omega), iteB_t, decide_eq_true hx, iteB_t, grd_t _ (by omega), grd_t _ (by omega), grd_t _ (by omega), grd_t _ (by omega), toNat_nat, hp, hq, hw, g64 i (by omega)]
      obtain ⟨v, e, h⟩ := own_loop r k (i + 1) (x + 10 + p + q) (acc ++ [r.2.1.getD i default]) (by omega) htk (by omega) (by omega)
      refine ⟨v, Ev.step (e.congr fun n => u n), fun hv => ?_⟩
      obtain ⟨h2, h3⟩ := h hv
      refine ⟨h2, ?_⟩
      rw [drop_cons r.2.1 i default (by omega), show putT (r.2.1.getD i default :: r.2.1.drop (i + 1)) = put1 (r.2.1.getD i default) ++ putT (r.2.1.drop (i + 1)) from rfl, List.length_append, put1_len]
      have := hp1 (by omega)
      have := hq1 (by omega)
      omega
    · refine ⟨((r.1, acc, r.2.2), decide (x < 3000)), Ev.step (Ev.pure.congr fun n => by rw [F6_L1, decide_eq_true (by omega), iteB_t, decide_eq_false hx, iteB_f]), fun h => ?_⟩
      exact absurd (of_decide_eq_true h) hx
theorem ev_own (r : Resp) : ∃ v, Ev (fun n => F6 n r) v ∧ (v.2 = true → v.1 = r ∧ r.2.1.length ≤ 3000 ∧ (putT r.2.1).length ≤ 3000 ∧ r.2.2.length ≤ 3000) := by
  obtain ⟨p, hp0, hp1, hp⟩ : ∃ p : Nat, p ≤ 3000 ∧ (p < 3000 → p = r.2.2.length) ∧ (if (3000 : Int) < (r.2.2.length : Int) then (3000 : Int) else (r.2.2.length : Int)) = (p : Int) := by
    split
    · exact ⟨3000, by omega, by omega, rfl⟩
    · exact ⟨_, by omega, fun _ => rfl, rfl⟩
  by_cases h30 : p < 3000
  · obtain ⟨v, e, h⟩ := own_loop r r.2.1.length 0 (p : Int) [] (by omega) rfl (by omega) (by omega)
    refine ⟨v, e.congr fun n => by rw [F6, hp]; rfl, fun hv => ?_⟩
    obtain ⟨h2, h3⟩ := h hv
    rw [List.drop_zero] at h3
    have := hp1 h30
    exact ⟨h2, by omega, by omega, by omega⟩
  · obtain rfl : p = 3000 := by omega
    refine ⟨((r.1, [], r.2.2), false), Ev.congr (g := fun n => F6_L1 n r (3000 : Int) (0 : Int) []) (Ev.step (Ev.pure.congr fun n => ?_)) (fun n => by rw [F6, hp]; rfl), fun h => by cases h⟩
    rw [F6_L1]
    cases decide ((0 : Int) < (r.2.1.length : Int)) <;> rfl
end Go.Proofs.YtdjgldjebcoihaaDoorX

/- Responses that are put are read, whole or in part. -/
set_option linter.unusedVariables false
set_option linter.unusedSimpArgs false
namespace Go.Proofs.YtdjgldjebcoihaaDoorX
open Go
theorem ix_Q {b : List Int} (hb : b.length ≤ 100000) (hB : Bytes b) (n : Nat) : F22 n b [13, 10, 13, 10] = some (Lib.index (b.map toB) Q4) := by
  rw [F22, if_pos ⟨by omega, by decide, by decide, all_bytes hB, by decide⟩]
  rfl
def okS (r : Resp) : Prop := okR r ∧ r.2.1.length ≤ 3000 ∧ (putT r.2.1).length ≤ 3000 ∧ r.2.2.length ≤ 3000 ∧ Bytes r.2.2
theorem okS_len {r : Resp} (h : okS r) : (Z r.1 (fldsT r)).length ≤ 4000 := by
  obtain ⟨h, h1, h2, h3, h4⟩ := h
  have hp : (putT (fldsT r)).length ≤ 3100 := by
    unfold fldsT
    split
    · omega
    · have := dec_len (r.2.2.length : Int) (by omega) (by omega)
      rw [putT_snoc]
      show (putT r.2.1).length + (CL.length + (decT (r.2.2.length : Int)).length + 4) ≤ 3100
      rw [show CL.length = 14 from rfl]; omega
  have hc := reason_code3 _ h.1
  have := dec_len r.1 (by omega) (by omega)
  have hr := reason_len r.1
  unfold Z
  rw [join_len]
  unfold L0
  simp only [List.length_append, List.length_cons, List.length_nil]
  omega
theorem reply_bytes {r : Resp} (h : okS r) (bare : Bool) : Bytes (replyT r bare) := by
  rw [reply_ok h.1]
  refine (ints_bytes _).append ?_
  unfold bodyP
  split
  · exact Bytes.nil
  · exact h.2.2.2.2
theorem bodyP_len {r : Resp} (h : okS r) (bare : Bool) : (bodyP r bare).length ≤ 3000 := by
  unfold bodyP
  split
  · exact Nat.zero_le _
  · exact h.2.2.2.1
theorem put_R {r : Resp} (h : okS r) (bare : Bool) (x : List Int) (hx : noBody r.1 = false → x.length = r.2.2.length) (hb : (bare || noBody r.1) = false → x = r.2.2) (hl : x.length ≤ 100000) : Ev (fun n => F7 n (r.1, r.2.1, x) bare) (replyT r bare) := by
  have e := ev_Put (r.1, r.2.1, x) bare (by show r.2.1.length ≤ 100000; have := h.2.1; omega) (fun f hf => by have := put_in _ _ hf; have := h.2.2.1; dsimp only at *; omega) (by show (putT r.2.1).length ≤ 100000; have := h.2.2.1; omega) hl
  rw [reply_same r bare x hx hb] at e
  exact e
theorem ev_ReadF (r : Resp) (h : okS r) (bare : Bool) (t : List Int) (ht : t.length ≤ 1000) (hT : Bytes t) : Ev (fun n => F11 n (replyT r bare ++ t) bare) ((r.1, r.2.1, bodyP r bare), ((replyT r bare).length : Int), 0) := by
  have hzl := okS_len h
  have hbl := bodyP_len h bare
  have hlen := reply_len h.1 bare
  have hBB : Bytes (replyT r bare ++ t) := (reply_bytes h bare).append hT
  have hmap := reply_B h.1 bare t
  have hidx := reply_idx h.1 ((bodyP r bare).map toB ++ t.map toB)
  rw [← hmap] at hidx
  have htk : (replyT r bare ++ t).take (replyT r bare).length = replyT r bare := List.take_append_length
  have hZ : ((replyT r bare ++ t).take (Z r.1 (fldsT r)).length).map toB = Z r.1 (fldsT r) := by
    rw [List.map_take, hmap, List.take_append_length]
  have hdr : (replyT r bare).drop ((Z r.1 (fldsT r)).length + 4) = bodyP r bare := by
    rw [reply_ok h.1, List.drop_append, List.drop_of_length_le (by rw [List.length_map, List.length_append, show Q4.length = 4 from rfl]; exact Nat.le_refl _), List.nil_append, List.length_map, List.length_append, show Q4.length = 4 from rfl, Nat.sub_self, List.drop_zero]
  have hix := ix_Q (b := replyT r bare ++ t) (by rw [List.length_append]; omega) hBB
  rw [hidx] at hix
  have hbt : ((replyT r bare ++ t).length : Int) = ((replyT r bare).length : Int) + (t.length : Int) := by rw [List.length_append]; omega
  obtain ⟨N1, e1⟩ := ev_headZ r h.1
  generalize hm : (Z r.1 (fldsT r)).length = m at *
  generalize hb : replyT r bare ++ t = b at *
  have w4 : IntKind.wrap .i64 ((m : Int) + 4) = ((m + 4 : Nat) : Int) := by rw [w64 (by omega)]; omega
  have u : ∀ n, N1 ≤ n → F11 n b bare = (some ((r.1, r.2.1, []), (if noBody r.1 = true then 0 else (r.2.2.length : Int)), true) : Option (Resp × Int × Bool)).bind fun v24 => iteB (!v24.2.2) (some (((0 : Int), [], []), (0 : Int), (11 : Int))) (iteB bare (grd (0 ≤ (if (65536 : Int) < v24.2.1 then (65536 : Int) else v24.2.1) ∧ (if (65536 : Int) < v24.2.1 then (65536 : Int) else v24.2.1) ≤ (if (65536 : Int) < v24.2.1 then (65536 : Int) else v24.2.1) ∧ (if (65536 : Int) < v24.2.1 then (65536 : Int) else v24.2.1) ≤ 1099511627776) (F11_J2 n b bare v24 (((m + 4 : Nat) : Int)) (List.replicate (if (65536 : Int) < v24.2.1 then (65536 : Int) else v24.2.1).toNat (0 : Int)))) (iteB (decide ((IntKind.wrap .i64 ((b.length : Int) - ((m + 4 : Nat) : Int))) < v24.2.1)) (some (((0 : Int), [], []), (0 : Int), (10 : Int))) (grd (0 ≤ ((m + 4 : Nat) : Int) ∧ ((m + 4 : Nat) : Int) ≤ (IntKind.wrap .i64 (((m + 4 : Nat) : Int) + v24.2.1)) ∧ (IntKind.wrap .i64 (((m + 4 : Nat) : Int) + v24.2.1)) ≤ (b.length : Int)) ((F24 n ((b.take (IntKind.wrap .i64 (((m + 4 : Nat) : Int) + v24.2.1)).toNat).drop (m + 4))).bind fun v31 => F11_J2 n b bare v24 (IntKind.wrap .i64 (((m + 4 : Nat) : Int) + v24.2.1)) v31)))) := by
    intro n hn
    have q1 := e1 n hn
    dsimp only at q1
    rw [F11, hix, bind_some', decide_eq_false (by omega), iteB_f, decide_eq_false (by omega), iteB_f, iteB_f, grd_t _ (by omega), toNat_nat, hZ, q1, w4]
    rfl
  cases hbare : bare with
  | true =>
    subst hbare
    have hP : bodyP r true = [] := rfl
    rw [hP] at hlen ⊢
    rw [List.length_nil, Nat.add_zero] at hlen
    obtain ⟨K, hK, hKn⟩ : ∃ K : Nat, (if noBody r.1 = true then 0 else (r.2.2.length : Int)) = (K : Int) ∧ K ≤ 3000 ∧ (noBody r.1 = false → K = r.2.2.length) := by
      have := h.2.2.2.1
      cases hn : noBody r.1 with
      | true => exact ⟨0, rfl, by omega, fun e => by cases e⟩
      | false => exact ⟨r.2.2.length, rfl, by omega, fun _ => rfl⟩
    obtain ⟨N2, e2⟩ := put_R h true (List.replicate K 0) (fun e => by rw [List.length_replicate]; exact hKn.2 e) (fun e => by cases e) (by rw [List.length_replicate]; omega)
    refine ⟨N1 + N2, fun n hn => ?_⟩
    have q2 := e2 n (by omega)
    dsimp only at q2
    show F11 n b true = _
    rw [u n (by omega), bind_some']
    dsimp only
    rw [hK, if_neg (show ¬ (65536 : Int) < (K : Int) by omega), Bool.not_true, iteB_f, iteB_t, grd_t _ (by omega), toNat_nat, F11_J2]
    dsimp only
    rw [q2, bind_some', grd_t _ (by omega), toNat_nat, ← hlen, htk, F25, bind_some', beq_self_eq_true, Bool.not_true, iteB_f, iteB_t]
  | false =>
    subst hbare
    have hbn : (bodyP r false).length = (if noBody r.1 = true then 0 else r.2.2.length) := by
      unfold bodyP
      rw [Bool.false_or]
      split <;> rfl
    have hK : (if noBody r.1 = true then 0 else (r.2.2.length : Int)) = (((bodyP r false).length : Nat) : Int) := by
      rw [hbn]; split <;> rfl
    have w5 : IntKind.wrap .i64 ((b.length : Int) - ((m + 4 : Nat) : Int)) = (b.length : Int) - ((m + 4 : Nat) : Int) := w64 (by omega)
    have w6 : IntKind.wrap .i64 (((m + 4 : Nat) : Int) + ((bodyP r false).length : Int)) = (((replyT r false).length : Nat) : Int) := by rw [w64 (by omega)]; omega
    obtain ⟨N2, e2⟩ := put_R h false (bodyP r false) (fun e => by rw [hbn, e, if_neg (by decide)]) (fun e => by unfold bodyP; rw [e, if_neg (by decide)]) (by omega)
    refine ⟨N1 + N2, fun n hn => ?_⟩
    have q2 := e2 n (by omega)
    dsimp only at q2
    show F11 n b false = _
    rw [u n (by omega), bind_some']
    dsimp only
    rw [hK, w5, w6, Bool.not_true, iteB_f, iteB_f, decide_eq_false (by omega), iteB_f, grd_t _ (by omega), toNat_nat, htk, hdr, F24, if_pos (by omega), bind_some', F11_J2]
    dsimp only
    rw [q2, bind_some', grd_t _ (by omega), toNat_nat, htk, F25, bind_some', beq_self_eq_true, Bool.not_true, iteB_f, iteB_f]
theorem ev_ReadC (r : Resp) (h : okS r) (k : Nat) (hk : k < (replyT r false).length) : Ev (fun n => F11 n ((replyT r false).take k) false) ((0, [], []), 0, 10) := by
  have hzl := okS_len h
  have hbl := bodyP_len h false
  have hlen := reply_len h.1 false
  have hBB : Bytes ((replyT r false).take k) := (reply_bytes h false).take k
  have hbk : ((replyT r false).take k).length = k := by rw [List.length_take]; omega
  obtain ⟨c1, c2⟩ := cut_idx h.1 k (by omega)
  have hix := ix_Q (b := (replyT r false).take k) (by omega) hBB
  by_cases hlt : k < (Z r.1 (fldsT r)).length + 4
  · rw [c1 hlt] at hix
    refine Ev.pure.congr fun n => ?_
    rw [F11, hix, bind_some', decide_eq_false (by omega), iteB_f, decide_eq_true (by omega), iteB_t, decide_eq_false (by omega), iteB_f, iteB_t]
  · obtain ⟨t, ht⟩ := c2 (by omega)
    have hidx := reply_idx h.1 t
    rw [← ht] at hidx
    rw [hidx] at hix
    have hZ : (((replyT r false).take k).take (Z r.1 (fldsT r)).length).map toB = Z r.1 (fldsT r) := by
      rw [List.map_take, ht, List.take_append_length]
    obtain ⟨N1, e1⟩ := ev_headZ r h.1
    have hbn : (bodyP r false).length = (if noBody r.1 = true then 0 else r.2.2.length) := by
      unfold bodyP
      rw [Bool.false_or]
      split <;> rfl
    have hK : (if noBody r.1 = true then 0 else (r.2.2.length : Int)) = (((bodyP r false).length : Nat) : Int) := by
      rw [hbn]; split <;> rfl
    rw [hK] at e1
    generalize hm : (Z r.1 (fldsT r)).length = m at *
    generalize hb : (replyT r false).take k = b at *
    have w4 : IntKind.wrap .i64 ((m : Int) + 4) = ((m + 4 : Nat) : Int) := by rw [w64 (by omega)]; omega
    have w5 : IntKind.wrap .i64 ((b.length : Int) - ((m + 4 : Nat) : Int)) = (b.length : Int) - ((m + 4 : Nat) : Int) := w64 (by omega)
    refine ⟨N1, fun n hn => ?_⟩
    have q1 := e1 n hn
    dsimp only at q1
    show F11 n b false = _
    rw [F11, hix, bind_some', decide_eq_false (by omega), iteB_f, decide_eq_false (by omega), iteB_f, iteB_f, grd_t _ (by omega), toNat_nat, hZ, q1, bind_some', w4]
    dsimp only
    rw [w5, Bool.not_true, iteB_f, iteB_f, decide_eq_true (by omega), iteB_t]
theorem reply_not {r : Resp} (h : ¬ (reasonT r.1 ≠ [] ∧ r.2.1.any fldBad = false)) (bare : Bool) : replyT r bare = [] := by
  unfold replyT
  by_cases h1 : reasonT r.1 = []
  · rw [if_pos h1]
  · rw [if_neg h1]
    cases h2 : r.2.1.any fldBad with
    | true => rw [if_pos rfl]
    | false => exact absurd ⟨h1, h2⟩ h
theorem reply_200 : replyT ((200 : Int), [], []) false = 72 :: 84 :: 84 :: 80 :: 47 :: 49 :: 46 :: 49 :: 32 :: 50 :: 48 :: 48 :: 32 :: 79 :: 75 :: 13 :: 10 :: 67 :: 111 :: 110 :: 116 :: 101 :: 110 :: 116 :: 45 :: 76 :: 101 :: 110 :: 103 :: 116 :: 104 :: 58 :: 32 :: 48 :: 13 :: 10 :: 13 :: 10 :: ([] : List Int) := by
  have hd : dgR 200 = [48, 48, 50] := by
    rw [dgR_ge (by decide), dgR_ge (by decide), dgR_lt (by decide)]; rfl
  have hdec : decT 200 = [50, 48, 48] := by
    unfold decT decI
    rw [if_neg (by decide), show Int.natAbs 200 = 200 from rfl, hd]; rfl
  have hdec0 : decT ((([] : List Int).length : Nat) : Int) = [48] := by
    unfold decT decI
    rw [if_neg (by decide), show Int.natAbs ((([] : List Int).length : Nat) : Int) = 0 from rfl, dgR_lt (by decide)]; rfl
  unfold replyT
  rw [if_neg (by decide), if_neg (by decide), if_neg (by decide)]
  unfold headP fldsT
  rw [if_neg (by decide), hdec]
  dsimp only
  rw [hdec0]
  decide
theorem ok_200 : okS ((200 : Int), [], []) := ⟨⟨by decide, rfl, by decide, by decide, by decide⟩, by decide, by decide, by decide, Bytes.nil⟩
theorem same_loop (a b : Resp) (h : a.2.1 = b.2.1) : ∀ (k i : Nat), i + k = a.2.1.length → a.2.1.length ≤ 1000000 → Ev (fun n => F12_L1 n a b (i : Int)) true := by
  intro k
  induction k with
  | zero =>
    intro i hi hl
    refine Ev.step (Ev.pure.congr fun n => ?_)
    rw [F12_L1, decide_eq_false (by omega), iteB_f]
  | succ k ih =>
    intro i hi hl
    refine Ev.step ((ih (i + 1) (by omega) hl).congr fun n => ?_)
    rw [F12_L1, ← h, decide_eq_true (by omega), iteB_t, grd_t _ (by omega), grd_t _ (by omega), beq_self_eq_true, beq_self_eq_true, g64 i (by omega)]
    rfl
theorem ev_same (a b : Resp) (h1 : a.1 = b.1) (h : a.2.1 = b.2.1) (h3 : a.2.2 = b.2.2) (hl : a.2.1.length ≤ 1000000) : Ev (fun n => F12 n a b) true := by
  refine (same_loop a b h a.2.1.length 0 (by omega) hl).congr fun n => ?_
  rw [F12, show (a.1 != b.1) = false by rw [h1]; simp, iteB_f, show ((a.2.1.length : Int) != (b.2.1.length : Int)) = false by rw [h]; simp, iteB_f, h3, beq_self_eq_true, Bool.not_true, iteB_f]
  rfl
end Go.Proofs.YtdjgldjebcoihaaDoorX

/- ReplyBack: the law. -/
set_option linter.unusedVariables false
set_option linter.unusedSimpArgs false
namespace Go.Proofs.YtdjgldjebcoihaaDoorX
open Go
theorem at_bd (a : Int) (L : Nat) (h0 : 0 < L) (hL : L ≤ 100000) : 0 ≤ (IntKind.wrap .i64 ((a.tmod (L : Int)) + (L : Int))).tmod (L : Int) ∧ (IntKind.wrap .i64 ((a.tmod (L : Int)) + (L : Int))).tmod (L : Int) < (L : Int) := by
  have h1 : a.tmod (L : Int) < (L : Int) := Int.tmod_lt_of_pos a (by omega)
  have h2 : -(L : Int) < a.tmod (L : Int) := Int.lt_tmod_of_pos a (by omega)
  rw [w64 (by omega)]
  exact ⟨Int.tmod_nonneg _ (by omega), Int.tmod_lt_of_pos _ (by omega)⟩
theorem ev_J1B (r : Resp) (h : okS r) (a : Int) (x : List Int) (hx : x = bodyP r false) : Ev (fun n => F4_J1 n a (replyT r false) (replyT r true) ((r.1, r.2.1, bodyP r false), ((replyT r false).length : Int), 0) ((r.1, r.2.1, bodyP r true), ((replyT r true).length : Int), 0) r x) true := by
  have hl := h.2.1
  have hlen := reply_len h.1 false
  have hzl := okS_len h
  have hbl := bodyP_len h false
  obtain ⟨N1, e1⟩ := ev_same (r.1, r.2.1, bodyP r false) (r.1, r.2.1, x) rfl rfl hx.symm (by show r.2.1.length ≤ 1000000; omega)
  obtain ⟨N2, e2⟩ := ev_same (r.1, r.2.1, bodyP r true) (r.1, r.2.1, []) rfl rfl rfl (by show r.2.1.length ≤ 1000000; omega)
  obtain ⟨b1, b2⟩ := at_bd a (replyT r false).length (by omega) (by omega)
  obtain ⟨N3, e3⟩ := ev_ReadC r h ((IntKind.wrap .i64 ((a.tmod ((replyT r false).length : Int)) + ((replyT r false).length : Int))).tmod ((replyT r false).length : Int)).toNat (by omega)
  refine ⟨N1 + N2 + N3, fun n hn => ?_⟩
  have q1 := e1 n (by omega)
  have q2 := e2 n (by omega)
  have q3 := e3 n (by omega)
  dsimp only at q1 q2 q3
  show F4_J1 n a (replyT r false) (replyT r true) _ _ r x = _
  rw [F4_J1]
  dsimp only
  rw [show ((0 : Int) != 0) = false from rfl, iteB_f, iteB_f, show (((replyT r false).length : Int) != ((replyT r false).length : Int)) = false by simp, iteB_f, show (((replyT r true).length : Int) != ((replyT r true).length : Int)) = false by simp, iteB_f, q1, bind_some', Bool.not_true, iteB_f, q2, bind_some', Bool.not_true, iteB_f, grd_t _ (by omega), grd_t _ (by omega), grd_t _ (by omega), q3, bind_some']
  rfl
theorem law_main (v0 : Resp) (v1 : List Int) (v2 : Int) (h0 : okT24 v0) (h1 : okT23 v1) (h2 : okT3 v2) : ∃ n, F4 n v0 v1 v2 = some true := by
  have hB : Bytes v0.2.2 := fun x hx => h0.2.2.2 x hx
  have hT : Bytes v1 := fun x hx => h1.2 x hx
  have key : Ev (fun n => F4 n v0 v1 v2) true := by
    obtain ⟨w, ⟨N1, e1⟩, hw⟩ := ev_own v0
    have u : ∀ n, N1 ≤ n → F4 n v0 v1 v2 = iteB (!w.2) (some true) (iteB (decide ((300 : Int) < (v1.length : Int))) (some true) ((F7 n v0 false).bind fun v4 => (F7 n v0 true).bind fun v5 => iteB ((v4.length : Int) == (0 : Int)) ((F11 n [(72 : Int), (84 : Int), (84 : Int), (80 : Int), (47 : Int), (49 : Int), (46 : Int), (49 : Int), (32 : Int), (50 : Int), (48 : Int), (48 : Int), (32 : Int), (79 : Int), (75 : Int), (13 : Int), (10 : Int), (67 : Int), (111 : Int), (110 : Int), (116 : Int), (101 : Int), (110 : Int), (116 : Int), (45 : Int), (76 : Int), (101 : Int), (110 : Int), (103 : Int), (116 : Int), (104 : Int), (58 : Int), (32 : Int), (48 : Int), (13 : Int), (10 : Int), (13 : Int), (10 : Int)] false).bind fun v7 => iteB ((v5.length : Int) == (0 : Int)) (iteB (v7.2.2 == (0 : Int)) (iteB (v7.1.1 == (200 : Int)) (some (v7.2.1 == (38 : Int))) (some false)) (some false)) (some false)) (grd (v4.length ≤ 549755813888) (grd ((v4.length + v1.length) ≤ 549755813888) ((F11 n (v4 ++ v1) false).bind fun v13 => grd (v5.length ≤ 549755813888) (grd ((v5.length + v1.length) ≤ 549755813888) ((F11 n (v5 ++ v1) true).bind fun v16 => iteB (v0.1 == (204 : Int)) (F4_J1 n v2 v4 v5 v13 v16 v0 []) (iteB (v0.1 == (304 : Int)) (F4_J1 n v2 v4 v5 v13 v16 v0 []) (F4_J1 n v2 v4 v5 v13 v16 v0 v0.2.2))))))))) := by
      intro n hn
      have q1 := e1 n hn
      dsimp only at q1
      rw [F4]
      show (F6 n v0).bind _ = _
      rw [q1, bind_some']
    cases hf : w.2 with
    | false =>
      refine ⟨N1, fun n hn => ?_⟩
      show F4 n v0 v1 v2 = _
      rw [u n hn, hf, Bool.not_false, iteB_t]
    | true =>
      by_cases h3 : (300 : Int) < (v1.length : Int)
      · refine ⟨N1, fun n hn => ?_⟩
        show F4 n v0 v1 v2 = _
        rw [u n hn, hf, Bool.not_true, iteB_f, decide_eq_true h3, iteB_t]
      · obtain ⟨hwr, hl, hp, hb⟩ := hw hf
        have hff : ∀ f ∈ v0.2.1, f.1.length + f.2.length ≤ 100000 := fun f hm => by have := put_in _ _ hm; omega
        obtain ⟨N2, e2⟩ := ev_Put v0 false (by omega) hff (by omega) (by omega)
        obtain ⟨N3, e3⟩ := ev_Put v0 true (by omega) hff (by omega) (by omega)
        by_cases hok : reasonT v0.1 ≠ [] ∧ v0.2.1.any fldBad = false
        · have hS : okS v0 := ⟨⟨hok.1, hok.2, by omega, by omega, by omega⟩, hl, hp, hb, hB⟩
          have hlen := reply_len hS.1 false
          have hlen2 := reply_len hS.1 true
          have hzl := okS_len hS
          have hbl := bodyP_len hS false
          have hbl2 := bodyP_len hS true
          obtain ⟨N4, e4⟩ := ev_ReadF v0 hS false v1 (by omega) hT
          obtain ⟨N5, e5⟩ := ev_ReadF v0 hS true v1 (by omega) hT
          obtain ⟨N6, e6⟩ := ev_J1B v0 hS v2 (bodyP v0 false) rfl
          refine ⟨N1 + N2 + N3 + N4 + N5 + N6, fun n hn => ?_⟩
          have q2 := e2 n (by omega)
          have q3 := e3 n (by omega)
          have q4 := e4 n (by omega)
          have q5 := e5 n (by omega)
          have q6 := e6 n (by omega)
          dsimp only at q2 q3 q4 q5 q6
          show F4 n v0 v1 v2 = _
          rw [u n (by omega), hf, Bool.not_true, iteB_f, decide_eq_false h3, iteB_f, q2, bind_some', q3, bind_some', bq (by omega), iteB_f, grd_t _ (by omega), grd_t _ (by omega), q4, bind_some', grd_t _ (by omega), grd_t _ (by omega), q5, bind_some']
          have hbp : bodyP v0 false = if (v0.1 == 204) = true then [] else if (v0.1 == 304) = true then [] else v0.2.2 := by
            unfold bodyP noBody
            by_cases a : v0.1 = 204
            · rw [a]; rfl
            · rw [if_neg a, Bool.false_or, show (v0.1 == 204) = false from bq a]; rfl
          cases a : (v0.1 == 204) with
          | true => rw [a, if_pos rfl] at hbp; rw [hbp] at q6; rw [iteB_t, ← hbp]; rw [hbp]; rw [show bodyP v0 true = [] from rfl] at *; exact q6
          | false =>
            cases b : (v0.1 == 304) with
            | true => rw [a, b, if_neg (by decide), if_pos rfl] at hbp; rw [iteB_f, iteB_t]; rw [hbp] at q6 ⊢; exact q6
            | false => rw [a, b, if_neg (by decide), if_neg (by decide)] at hbp; rw [iteB_f, iteB_f]; rw [hbp] at q6 ⊢; exact q6
        · have hn1 := reply_not hok false
          have hn2 := reply_not hok true
          obtain ⟨N4, e4⟩ := ev_ReadF ((200 : Int), [], []) ok_200 false [] (by decide) Bytes.nil
          refine ⟨N1 + N2 + N3 + N4, fun n hn => ?_⟩
          have q2 := e2 n (by omega)
          have q3 := e3 n (by omega)
          have q4 := e4 n (by omega)
          dsimp only at q2 q3 q4
          rw [List.append_nil, reply_200] at q4
          rw [hn1] at q2
          rw [hn2] at q3
          show F4 n v0 v1 v2 = _
          rw [u n (by omega), hf, Bool.not_true, iteB_f, decide_eq_false h3, iteB_f, q2, bind_some', q3, bind_some', show ((([] : List Int).length : Int) == 0) = true from rfl, iteB_t, q4, bind_some']
          rfl
  obtain ⟨N, h⟩ := key
  exact ⟨N, h N (Nat.le_refl _)⟩
end Go.Proofs.YtdjgldjebcoihaaDoorX

/- Rows whose functions read a library's variables: the world's shape is kept. Of no program. -/
set_option linter.unusedVariables false
set_option linter.unusedSimpArgs false
namespace Go.Proofs.YtdjgldjebcoihaaDoorX
open Go Go.RowKit
theorem handed_and_shaped {H : Type} {enc : TypeId × Value → H} {a : Assume} {C : Checked} {os : Os} {f : FuncId} {fn : Func} {s : ChangeSpec} {conds : List PathCond} {apart fresh handsOn again : Bool} {X : World → Array Value → Prop}
    (hX : ∀ (w w' : World) (args : Array Value), w.heap = w'.heap → X w args → X w' args)
    (own : ownKnob C.prog.godebug = none) (started : os.Started) (noInit : C.prog.inits.idxOf? f = none) (hfn : C.prog.funcs[f]? = some fn)
    (witness : ∃ (w : World) (tape : Tape) (i : Input), w.os = os ∧ (w.forCall tape i).Shaped C.prog ∧ i.vars = [] ∧ Input.okWide C.prog (w.forCall tape i) .any w.heap.size f i ∧
      ((s.pre enc C.prog fn conds apart (w.forCall tape i).memory i.args ∧ X (w.forCall tape i).memory i.args) ∧ sizedMet enc C.prog fn (OpenSpec.ofChange s) apart (w.forCall tape i).memory i.args) ∧ a.holds C.prog (lone (Frame.enter C.prog f i.args .normal) [] (w.forCall tape i)))
    (contract : ∀ (W : World) (base : Nat) (args : Array Value) (ds gs : List (DataW H)) (before : List MemPlace),
      (∀ (j : Nat) t v, fn.params[j]? = some t → args[j]? = some v → Value.okWide C.prog W .any base t v) →
      DataW.Whole enc C.prog fn.params.toList s.vars apart W args.toList ds gs before →
      conds.all (PathCond.test C.prog ⟨fn.params.toList, ds, s.plain.varTypes C.prog, gs⟩) = true →
      (DataW.weightsEach C.prog (fn.params.toList ++ s.plain.varTypes C.prog) (ds ++ gs)).all (· ≤ reachBytes) = true → X W args → W.ShapedOpen C.prog →
      a.holds C.prog (lone (Frame.enter C.prog f args .normal) [] W) →
      Calls C.prog f args W fun e W' => ∃ v, e = .returned v ∧ s.post enc C.prog fn apart fresh handsOn again W args v W') :
    ReturnsInHanded a C os f .any (fun w args => (s.pre enc C.prog fn conds apart w args ∧ X w args) ∧ sizedMet enc C.prog fn (OpenSpec.ofChange s) apart w args) (s.post enc C.prog fn apart fresh handsOn again) := by
  refine returnsInHanded_of_calls own started noInit witness ?_
  intro w tape i _ hsh _ hok hpre hholds
  obtain ⟨_, _, _, fn', hfn', _, _, _, _, hval⟩ := hok
  have e : fn' = fn := Option.some.inj (hfn'.symm.trans hfn)
  subst e
  obtain ⟨⟨⟨ds, gs, before, hw, hc⟩, hx⟩, hz⟩ := hpre
  have hw' := DataW.Whole.of_heap (w' := w.forCall tape i) (by rfl) hw
  refine (contract (w.forCall tape i) w.heap.size i.args ds gs before hval hw' hc (hz.weights hw) (hX _ _ _ (by rfl) hx) hsh hholds).mono fun e W' ⟨v, he, hp⟩ => ?_
  subst he
  exact ChangeSpec.post_blind hp
end Go.Proofs.YtdjgldjebcoihaaDoorX

set_option linter.unusedVariables false
namespace Go.Proofs.YtdjgldjebcoihaaDoorX
open Go Go.RowKit Go.Proofs
set_option maxRecDepth 100000
theorem shapedRow (xs : List T) (h : ShapesW Tryd.prog [25, 23, 3] xs) : FnC Tryd.prog 4 xs (tb true) := shapedReplyBack law_main xs h
end Go.Proofs.YtdjgldjebcoihaaDoorX
namespace Go.Proofs.YtdjgldjebcoihaaDoor.replyBack
open Go.ChangeShapes Go.WideShapes Go.ChangeAt Go.RowKit
set_option linter.unusedVariables false
theorem own : ownKnob Tryd.prog.godebug = none := by kernel_rfl
set_option maxRecDepth 100000 in
theorem lifted (os : Os) (started : os.Started) (H : Type) (enc : TypeId × Value → H) :
    ReturnsInHanded {} Tryd.checked os 4 .any (fun w args => (Rows.replyBackSpec.pre enc Tryd.prog Tryd.f4 [] false w args ∧ laidMetH Tryd.prog Rows.replyBackRow.laid w) ∧ sizedMet enc Tryd.prog Tryd.f4 (OpenSpec.ofChange Rows.replyBackSpec) false w args) (Rows.replyBackSpec.post enc Tryd.prog Tryd.f4 false true false false) := by
  refine YtdjgldjebcoihaaDoorX.handed_and_shaped (C := Tryd.checked) (X := fun w _ => laidMetH Tryd.prog Rows.replyBackRow.laid w) (fun _ _ _ hh h => h.of_heap hh) own started (by kernel_rfl) Tryd.func4
    (ChangeSpec.witness_shaped (enc := enc) (C := Tryd.checked) (os := os) (X := fun w _ => laidMetH Tryd.prog Rows.replyBackRow.laid w) false (World.laidAll Tryd.prog os Rows.replyBackRow.laid) #[.agg #[.int .i64 0, .slice none 0 0, .slice none 0 0], .slice none 0 0, .int .i64 0] 8 (World.laidAll_os _ _ _)
      (World.shaped_of_ZipB (by kernel_rfl) (by kernel_rfl)) (by kernel_rfl) (by kernel_rfl) (by kernel_rfl)
      (by rw [MakeChecks.laidMetH_plain _ _ _ (by kernel_rfl)]; exact laidMet_laidAll _ (by kernel_rfl) (by kernel_rfl))) ?_
  intro W base args ds gs before hval0 hW _ _ hL hsh _
  exact YtdjgldjebcoihaaDoorX.row_contract (P := Tryd.prog) (fn := Tryd.f4) (s := Rows.replyBackSpec) (ts := [25, 23, 3]) (tb := 4) (L := [25, 23, 3, 24, 5, 22, 42, 41, 9]) (by kernel_rfl) (by kernel_rfl) (by kernel_rfl) (by kernel_rfl) (by kernel_rfl) (by kernel_rfl) rfl
    (fun H ds h => by
      match ds, h with
      | [d0, d1, d2], _ => rfl) YtdjgldjebcoihaaDoorX.shapedRow W (fun g hg => by
    have e : g = 0 := by simpa [YtdjgldjebcoihaaDoorX.globsI] using hg
    subst e
    exact cell_of_shapedOpen_int (P := Tryd.prog) (g := 0) (t := 3) (zero := #[.int .i64 0]) hsh (of_decide_eq_true (by kernel_rfl)) (by kernel_rfl) rfl (by kernel_rfl) (by kernel_rfl) Tryd.underlying3) base args ds gs before hval0 hW
theorem over : Rows.replyBackRow.holds Tryd.pinned (OpenSpec.ofChange Rows.replyBackSpec) :=
  OpenClaim.holds_of_wide 4 Tryd.f4 rfl rfl rfl rfl rfl rfl rfl ⟨rfl, rfl, rfl, rfl, rfl⟩ rfl rfl rfl rfl rfl (by kernel_rfl) Tryd.func4 (by kernel_rfl)
    (of_decide_eq_true (by kernel_rfl)) (by unfold Func.isWrapper; first | (rw [if_pos (by decide +kernel)]; kernel_rfl) | (rw [if_neg (by decide +kernel)]; exact ⟨rfl, rfl⟩))
    (fun os started H enc _ => lifted os started H enc)
theorem proved : Rows.ReplyBackCardSaid :=
  Claim7.holds_tied_plain_at .later [] [.data, .data, .data, .pinned, .pinned] true (true, "9f903d9744eead5d891a575418bd49f4fe7da4948cfcbb1d1a1f46a6d277e3c8") false
    over (fun _ h => by cases h) (by kernel_rfl) (fun _ h => by cases h) replyBack_row_tie rfl ⟨rfl, rfl⟩ (by kernel_rfl) rfl
    (fun f fn hf hfn => by
      obtain rfl : f = 4 := Option.some.inj ((show Tryd.prog.funcNamed "shadowbox/shadowboxlaw43.ReplyBack" = some 4 by kernel_rfl).symm.trans hf) |>.symm
      obtain rfl : fn = Tryd.f4 := (Option.some.inj (Tryd.func4.symm.trans hfn)).symm
      exact ⟨by kernel_rfl, fun j t ht => by
        rw [Tryd.params4] at ht
        have hm : t ∈ [25, 23, 3] := by simpa using Array.mem_of_getElem? ht
        have hall : ([25, 23, 3].all fun u => !Tryd.prog.wantsStandIn u) = true := by kernel_rfl
        exact (show Tryd.prog.wantsStandIn t = false by simpa using List.all_eq_true.1 hall t hm)⟩)
    (by kernel_rfl)
#print axioms proved
end Go.Proofs.YtdjgldjebcoihaaDoor.replyBack
namespace Go.Proofs.YtdjgldjebcoihaaDoor
theorem replyBack_holds : Rows.ReplyBackCardSaid := replyBack.proved
end Go.Proofs.YtdjgldjebcoihaaDoor
