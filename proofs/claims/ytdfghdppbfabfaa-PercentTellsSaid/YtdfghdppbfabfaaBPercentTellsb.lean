/- PercentTells: for every string s, of which the first 1000 bytes are taken, either answer about slashes, and every byte: the program's and the document's Encode, Decode, Path and Plain tell the same; no condition. -/
import Derived.Test.YtdfghdppbfabfaaBPercentTellsa
import Derived.Laws.BitsLemmas
import Derived.Lib.Bytealg
import Derived.Test.YtdfghdppbfabfaaRows
import Derived.WalkKit
import Derived.ProofKit
import Derived.OpenShut
import Derived.ShutString
import Derived.ChangeOld
import Derived.Below
import Derived.SizedLaws
set_option linter.unusedVariables false
set_option linter.unusedSimpArgs false

namespace Go.Proofs.Ytdfghdppbfabfaa.P
open Go.RowKit Go.Proofs.YtdfghdppbfabfaaW.PrintWords Go.Proofs.YtdfghdppbfabfaaW.PrintLast Go.Proofs.YtdfghdppbfabfaaW.PrintMore
attribute [local go_sem] max2_int min2_int max_two min_two max_three min_three max_four min_four   -- for this text's walks alone
set_option linter.unusedVariables false
set_option linter.unusedSimpArgs false

--IMPORT Derived.Laws.BitsLemmas
attribute [local go_sem] IntKind.wrap_u8
/-! ### shadowboxref28_Encode: function 38 -/
def shadowboxref28_Encode.l0 : Nat → ByteArray → Bool → ByteArray → Int → Option (ByteArray)
  | 0, _, _, _, _ => none
  | k + 1, x0, x1, x5, x6 => if x6 < (x0.size : Int) then (if 0 ≤ x6 then ((shadowboxref28_Plain.f k (bt x0 x6)).bind fun t547 => (if t547 = true then (if x6 ≤ (wrap64 (x6 + 1)) then (if (wrap64 (x6 + 1)) ≤ (x0.size : Int) then (if x5.size + (x0.extract (x6 : Int).toNat ((wrap64 (x6 + 1)) : Int).toNat).size ≤ 9223372036854775807 then (shadowboxref28_Encode.l0 k x0 x1 (x5 ++ (x0.extract (x6 : Int).toNat ((wrap64 (x6 + 1)) : Int).toNat)) (wrap64 (x6 + 1))) else (none)) else (none)) else (none)) else (if x1 = true then (if (bt x0 x6) = 47 then (if x6 ≤ (wrap64 (x6 + 1)) then (if (wrap64 (x6 + 1)) ≤ (x0.size : Int) then (if x5.size + (x0.extract (x6 : Int).toNat ((wrap64 (x6 + 1)) : Int).toNat).size ≤ 9223372036854775807 then (shadowboxref28_Encode.l0 k x0 x1 (x5 ++ (x0.extract (x6 : Int).toNat ((wrap64 (x6 + 1)) : Int).toNat)) (wrap64 (x6 + 1))) else (none)) else (none)) else (none)) else (if x5.size + 1 ≤ 9223372036854775807 then (if 0 ≤ ((Int.tdiv (bt x0 x6) 16) % 256) then (if ((Int.tdiv (bt x0 x6) 16) % 256) ≤ ((((Int.tdiv (bt x0 x6) 16) % 256) + 1) % 256) then (if ((((Int.tdiv (bt x0 x6) 16) % 256) + 1) % 256) ≤ 16 then (if (x5 ++ (⟨#[37]⟩ : ByteArray)).size + ((⟨#[48, 49, 50, 51, 52, 53, 54, 55, 56, 57, 65, 66, 67, 68, 69, 70]⟩ : ByteArray).extract (((Int.tdiv (bt x0 x6) 16) % 256) : Int).toNat (((((Int.tdiv (bt x0 x6) 16) % 256) + 1) % 256) : Int).toNat).size ≤ 9223372036854775807 then (if 0 ≤ (Int.tmod (bt x0 x6) 16) then (if (Int.tmod (bt x0 x6) 16) ≤ (((Int.tmod (bt x0 x6) 16) + 1) % 256) then (if (((Int.tmod (bt x0 x6) 16) + 1) % 256) ≤ 16 then (if ((x5 ++ (⟨#[37]⟩ : ByteArray)) ++ ((⟨#[48, 49, 50, 51, 52, 53, 54, 55, 56, 57, 65, 66, 67, 68, 69, 70]⟩ : ByteArray).extract (((Int.tdiv (bt x0 x6) 16) % 256) : Int).toNat (((((Int.tdiv (bt x0 x6) 16) % 256) + 1) % 256) : Int).toNat)).size + ((⟨#[48, 49, 50, 51, 52, 53, 54, 55, 56, 57, 65, 66, 67, 68, 69, 70]⟩ : ByteArray).extract ((Int.tmod (bt x0 x6) 16) : Int).toNat ((((Int.tmod (bt x0 x6) 16) + 1) % 256) : Int).toNat).size ≤ 9223372036854775807 then (shadowboxref28_Encode.l0 k x0 x1 (((x5 ++ (⟨#[37]⟩ : ByteArray)) ++ ((⟨#[48, 49, 50, 51, 52, 53, 54, 55, 56, 57, 65, 66, 67, 68, 69, 70]⟩ : ByteArray).extract (((Int.tdiv (bt x0 x6) 16) % 256) : Int).toNat (((((Int.tdiv (bt x0 x6) 16) % 256) + 1) % 256) : Int).toNat)) ++ ((⟨#[48, 49, 50, 51, 52, 53, 54, 55, 56, 57, 65, 66, 67, 68, 69, 70]⟩ : ByteArray).extract ((Int.tmod (bt x0 x6) 16) : Int).toNat ((((Int.tmod (bt x0 x6) 16) + 1) % 256) : Int).toNat)) (wrap64 (x6 + 1))) else (none)) else (none)) else (none)) else (none)) else (none)) else (none)) else (none)) else (none)) else (none))) else (if x5.size + 1 ≤ 9223372036854775807 then (if 0 ≤ ((Int.tdiv (bt x0 x6) 16) % 256) then (if ((Int.tdiv (bt x0 x6) 16) % 256) ≤ ((((Int.tdiv (bt x0 x6) 16) % 256) + 1) % 256) then (if ((((Int.tdiv (bt x0 x6) 16) % 256) + 1) % 256) ≤ 16 then (if (x5 ++ (⟨#[37]⟩ : ByteArray)).size + ((⟨#[48, 49, 50, 51, 52, 53, 54, 55, 56, 57, 65, 66, 67, 68, 69, 70]⟩ : ByteArray).extract (((Int.tdiv (bt x0 x6) 16) % 256) : Int).toNat (((((Int.tdiv (bt x0 x6) 16) % 256) + 1) % 256) : Int).toNat).size ≤ 9223372036854775807 then (if 0 ≤ (Int.tmod (bt x0 x6) 16) then (if (Int.tmod (bt x0 x6) 16) ≤ (((Int.tmod (bt x0 x6) 16) + 1) % 256) then (if (((Int.tmod (bt x0 x6) 16) + 1) % 256) ≤ 16 then (if ((x5 ++ (⟨#[37]⟩ : ByteArray)) ++ ((⟨#[48, 49, 50, 51, 52, 53, 54, 55, 56, 57, 65, 66, 67, 68, 69, 70]⟩ : ByteArray).extract (((Int.tdiv (bt x0 x6) 16) % 256) : Int).toNat (((((Int.tdiv (bt x0 x6) 16) % 256) + 1) % 256) : Int).toNat)).size + ((⟨#[48, 49, 50, 51, 52, 53, 54, 55, 56, 57, 65, 66, 67, 68, 69, 70]⟩ : ByteArray).extract ((Int.tmod (bt x0 x6) 16) : Int).toNat ((((Int.tmod (bt x0 x6) 16) + 1) % 256) : Int).toNat).size ≤ 9223372036854775807 then (shadowboxref28_Encode.l0 k x0 x1 (((x5 ++ (⟨#[37]⟩ : ByteArray)) ++ ((⟨#[48, 49, 50, 51, 52, 53, 54, 55, 56, 57, 65, 66, 67, 68, 69, 70]⟩ : ByteArray).extract (((Int.tdiv (bt x0 x6) 16) % 256) : Int).toNat (((((Int.tdiv (bt x0 x6) 16) % 256) + 1) % 256) : Int).toNat)) ++ ((⟨#[48, 49, 50, 51, 52, 53, 54, 55, 56, 57, 65, 66, 67, 68, 69, 70]⟩ : ByteArray).extract ((Int.tmod (bt x0 x6) 16) : Int).toNat ((((Int.tmod (bt x0 x6) 16) + 1) % 256) : Int).toNat)) (wrap64 (x6 + 1))) else (none)) else (none)) else (none)) else (none)) else (none)) else (none)) else (none)) else (none)) else (none))))) else (none)) else (some x5)
def shadowboxref28_Encode.f (k : Nat) (a0 : ByteArray) (a1 : Bool) : Option (ByteArray) := shadowboxref28_Encode.l0 k a0 a1 (⟨#[]⟩ : ByteArray) 0
theorem shadowboxref28_Encode.mono_l : ∀ k, (∀ y0 y1 y2 y3, LeO (shadowboxref28_Encode.l0 k y0 y1 y2 y3) (shadowboxref28_Encode.l0 (k + 1) y0 y1 y2 y3))
  | 0 => fun _ _ _ _ r h => by simp [shadowboxref28_Encode.l0] at h
  | k + 1 => by
    have ih0 := shadowboxref28_Encode.mono_l k
    · intro y0 y1 y2 y3
      unfold shadowboxref28_Encode.l0
      repeat' first
      | (with_reducible exact ih0 _ _ _ _)
      | (with_reducible exact shadowboxref28_Plain.mono _ _)
      | (with_reducible exact LeO.refl _)
      | (with_reducible exact LeO.none _)
      | (with_reducible refine LeO.ite ?_ ?_)
      | (with_reducible refine LeO.bind ?_ (fun _ => ?_))
      | exact ih0 _ _ _ _
      | exact shadowboxref28_Plain.mono _ _
      | exact LeO.none _
      | refine LeO.ite ?_ ?_
      | refine LeO.bind ?_ (fun _ => ?_)
theorem shadowboxref28_Encode.mono : ∀ a0 a1 k, LeO (shadowboxref28_Encode.f k a0 a1) (shadowboxref28_Encode.f (k + 1) a0 a1) := by
  intro a0 a1 k
  have ih0 := shadowboxref28_Encode.mono_l k
  unfold shadowboxref28_Encode.f
  repeat' first
      | (with_reducible exact ih0 _ _ _ _)
      | (with_reducible exact shadowboxref28_Plain.mono _ _)
      | (with_reducible exact LeO.refl _)
      | (with_reducible exact LeO.none _)
      | (with_reducible refine LeO.ite ?_ ?_)
      | (with_reducible refine LeO.bind ?_ (fun _ => ?_))
      | exact ih0 _ _ _ _
      | exact shadowboxref28_Plain.mono _ _
      | exact LeO.none _
      | refine LeO.ite ?_ ?_
      | refine LeO.bind ?_ (fun _ => ?_)
set_option maxHeartbeats 8000000 in
set_option maxRecDepth 100000 in
theorem shadowboxref28_Encode.calls (k : Nat) (a0 : ByteArray) (a1 : Bool) (r : ByteArray) (w : World) (h : shadowboxref28_Encode.f k a0 a1 = some r) :
    Calls Try.prog 38 #[.string a0, .bool a1] w fun e w' => e = .returned (.string r) ∧ Drawn0 w w' := by
  have H : (shadowboxref28_Encode.l0 k a0 a1 (⟨#[]⟩ : ByteArray) 0) = some r := h
  clear h
  have H' := Aside0.mk H
  clear H
  go_enter Try.func38, Try.ntmps38
  go_wp2
  repeat (go_quiet (fail); try go_wp2)
  go_loopg [5, 6] k (fun kq v5 v6 w' => ∃ (x5_1 : ByteArray) (x6_1 : Int), v5 = .string x5_1 ∧ v6 = .int .i64 x6_1 ∧ Aside0 (shadowboxref28_Encode.l0 kq a0 a1 x5_1 x6_1 = some r) ∧ Aside0 (kq ≤ k) ∧ Drawn0 w w')
  case atStart => exact ⟨((⟨#[]⟩ : ByteArray)), (0), (by first | rfl | (simp; done) | (simp [*]; done)), (by first | rfl | (simp; done) | (simp [*]; done)), H', ⟨Nat.le_refl _⟩, by repeat (first | exact Drawn0.refl _ | apply Drawn0.step)⟩
  case round =>
    clear H'
    try clear p2
    obtain ⟨x5_1, x6_1, rfl, rfl, HA, HK1, ⟨m1, rfl⟩⟩ := hrel
    cases gk with
    | zero => exact absurd HA.out (by simp [shadowboxref28_Encode.l0])
    | succ k1 =>
      have H := HA.out
      clear HA
      simp only [shadowboxref28_Encode.l0] at H
      by_cases c3 : x6_1 < (a0.size : Int)
      · rw [if_pos c3] at H
        have c3b0 : decide (x6_1 < (a0.size : Int)) = true := decide_eq_true c3
        clear c3
        by_cases c4 : 0 ≤ x6_1
        · rw [if_pos c4] at H
          have c4b0 : decide (0 ≤ x6_1) = true := decide_eq_true c4
          clear c4
          replace H := Option.bind_eq_some_iff.mp H
          obtain ⟨t547, A60, H⟩ := H
          replace H : (if t547 = true then (if x6_1 ≤ (wrap64 (x6_1 + 1)) then (if (wrap64 (x6_1 + 1)) ≤ (a0.size : Int) then (if x5_1.size + (a0.extract (x6_1 : Int).toNat ((wrap64 (x6_1 + 1)) : Int).toNat).size ≤ 9223372036854775807 then (shadowboxref28_Encode.l0 k1 a0 a1 (x5_1 ++ (a0.extract (x6_1 : Int).toNat ((wrap64 (x6_1 + 1)) : Int).toNat)) (wrap64 (x6_1 + 1))) else (none)) else (none)) else (none)) else (if a1 = true then (if (bt a0 x6_1) = 47 then (if x6_1 ≤ (wrap64 (x6_1 + 1)) then (if (wrap64 (x6_1 + 1)) ≤ (a0.size : Int) then (if x5_1.size + (a0.extract (x6_1 : Int).toNat ((wrap64 (x6_1 + 1)) : Int).toNat).size ≤ 9223372036854775807 then (shadowboxref28_Encode.l0 k1 a0 a1 (x5_1 ++ (a0.extract (x6_1 : Int).toNat ((wrap64 (x6_1 + 1)) : Int).toNat)) (wrap64 (x6_1 + 1))) else (none)) else (none)) else (none)) else (if x5_1.size + 1 ≤ 9223372036854775807 then (if 0 ≤ ((Int.tdiv (bt a0 x6_1) 16) % 256) then (if ((Int.tdiv (bt a0 x6_1) 16) % 256) ≤ ((((Int.tdiv (bt a0 x6_1) 16) % 256) + 1) % 256) then (if ((((Int.tdiv (bt a0 x6_1) 16) % 256) + 1) % 256) ≤ 16 then (if (x5_1 ++ (⟨#[37]⟩ : ByteArray)).size + ((⟨#[48, 49, 50, 51, 52, 53, 54, 55, 56, 57, 65, 66, 67, 68, 69, 70]⟩ : ByteArray).extract (((Int.tdiv (bt a0 x6_1) 16) % 256) : Int).toNat (((((Int.tdiv (bt a0 x6_1) 16) % 256) + 1) % 256) : Int).toNat).size ≤ 9223372036854775807 then (if 0 ≤ (Int.tmod (bt a0 x6_1) 16) then (if (Int.tmod (bt a0 x6_1) 16) ≤ (((Int.tmod (bt a0 x6_1) 16) + 1) % 256) then (if (((Int.tmod (bt a0 x6_1) 16) + 1) % 256) ≤ 16 then (if ((x5_1 ++ (⟨#[37]⟩ : ByteArray)) ++ ((⟨#[48, 49, 50, 51, 52, 53, 54, 55, 56, 57, 65, 66, 67, 68, 69, 70]⟩ : ByteArray).extract (((Int.tdiv (bt a0 x6_1) 16) % 256) : Int).toNat (((((Int.tdiv (bt a0 x6_1) 16) % 256) + 1) % 256) : Int).toNat)).size + ((⟨#[48, 49, 50, 51, 52, 53, 54, 55, 56, 57, 65, 66, 67, 68, 69, 70]⟩ : ByteArray).extract ((Int.tmod (bt a0 x6_1) 16) : Int).toNat ((((Int.tmod (bt a0 x6_1) 16) + 1) % 256) : Int).toNat).size ≤ 9223372036854775807 then (shadowboxref28_Encode.l0 k1 a0 a1 (((x5_1 ++ (⟨#[37]⟩ : ByteArray)) ++ ((⟨#[48, 49, 50, 51, 52, 53, 54, 55, 56, 57, 65, 66, 67, 68, 69, 70]⟩ : ByteArray).extract (((Int.tdiv (bt a0 x6_1) 16) % 256) : Int).toNat (((((Int.tdiv (bt a0 x6_1) 16) % 256) + 1) % 256) : Int).toNat)) ++ ((⟨#[48, 49, 50, 51, 52, 53, 54, 55, 56, 57, 65, 66, 67, 68, 69, 70]⟩ : ByteArray).extract ((Int.tmod (bt a0 x6_1) 16) : Int).toNat ((((Int.tmod (bt a0 x6_1) 16) + 1) % 256) : Int).toNat)) (wrap64 (x6_1 + 1))) else (none)) else (none)) else (none)) else (none)) else (none)) else (none)) else (none)) else (none)) else (none))) else (if x5_1.size + 1 ≤ 9223372036854775807 then (if 0 ≤ ((Int.tdiv (bt a0 x6_1) 16) % 256) then (if ((Int.tdiv (bt a0 x6_1) 16) % 256) ≤ ((((Int.tdiv (bt a0 x6_1) 16) % 256) + 1) % 256) then (if ((((Int.tdiv (bt a0 x6_1) 16) % 256) + 1) % 256) ≤ 16 then (if (x5_1 ++ (⟨#[37]⟩ : ByteArray)).size + ((⟨#[48, 49, 50, 51, 52, 53, 54, 55, 56, 57, 65, 66, 67, 68, 69, 70]⟩ : ByteArray).extract (((Int.tdiv (bt a0 x6_1) 16) % 256) : Int).toNat (((((Int.tdiv (bt a0 x6_1) 16) % 256) + 1) % 256) : Int).toNat).size ≤ 9223372036854775807 then (if 0 ≤ (Int.tmod (bt a0 x6_1) 16) then (if (Int.tmod (bt a0 x6_1) 16) ≤ (((Int.tmod (bt a0 x6_1) 16) + 1) % 256) then (if (((Int.tmod (bt a0 x6_1) 16) + 1) % 256) ≤ 16 then (if ((x5_1 ++ (⟨#[37]⟩ : ByteArray)) ++ ((⟨#[48, 49, 50, 51, 52, 53, 54, 55, 56, 57, 65, 66, 67, 68, 69, 70]⟩ : ByteArray).extract (((Int.tdiv (bt a0 x6_1) 16) % 256) : Int).toNat (((((Int.tdiv (bt a0 x6_1) 16) % 256) + 1) % 256) : Int).toNat)).size + ((⟨#[48, 49, 50, 51, 52, 53, 54, 55, 56, 57, 65, 66, 67, 68, 69, 70]⟩ : ByteArray).extract ((Int.tmod (bt a0 x6_1) 16) : Int).toNat ((((Int.tmod (bt a0 x6_1) 16) + 1) % 256) : Int).toNat).size ≤ 9223372036854775807 then (shadowboxref28_Encode.l0 k1 a0 a1 (((x5_1 ++ (⟨#[37]⟩ : ByteArray)) ++ ((⟨#[48, 49, 50, 51, 52, 53, 54, 55, 56, 57, 65, 66, 67, 68, 69, 70]⟩ : ByteArray).extract (((Int.tdiv (bt a0 x6_1) 16) % 256) : Int).toNat (((((Int.tdiv (bt a0 x6_1) 16) % 256) + 1) % 256) : Int).toNat)) ++ ((⟨#[48, 49, 50, 51, 52, 53, 54, 55, 56, 57, 65, 66, 67, 68, 69, 70]⟩ : ByteArray).extract ((Int.tmod (bt a0 x6_1) 16) : Int).toNat ((((Int.tmod (bt a0 x6_1) 16) + 1) % 256) : Int).toNat)) (wrap64 (x6_1 + 1))) else (none)) else (none)) else (none)) else (none)) else (none)) else (none)) else (none)) else (none)) else (none)))) = some r := H
          have A6 := Aside0.mk A60
          clear A60
          by_cases c7 : t547 = true
          · subst c7
            have H1 : (if x6_1 ≤ (wrap64 (x6_1 + 1)) then (if (wrap64 (x6_1 + 1)) ≤ (a0.size : Int) then (if x5_1.size + (a0.extract (x6_1 : Int).toNat ((wrap64 (x6_1 + 1)) : Int).toNat).size ≤ 9223372036854775807 then (shadowboxref28_Encode.l0 k1 a0 a1 (x5_1 ++ (a0.extract (x6_1 : Int).toNat ((wrap64 (x6_1 + 1)) : Int).toNat)) (wrap64 (x6_1 + 1))) else (none)) else (none)) else (none)) = some r := by rw [if_pos rfl] at H; exact H
            clear H
            have H := H1
            clear H1
            have c8b0 := eq_true (of_decide_eq_true (by first | (with_reducible assumption) | assumption) : 0 ≤ x6_1)
            by_cases c9 : x6_1 ≤ (wrap64 (x6_1 + 1))
            · rw [if_pos c9] at H
              have c9b0 := eq_true c9
              have c9b1 : decide (x6_1 ≤ (wrap64 (x6_1 + 1))) = true := decide_eq_true c9
              by_cases c10 : (wrap64 (x6_1 + 1)) ≤ (a0.size : Int)
              · rw [if_pos c10] at H
                have c10b0 := eq_true c10
                have c10b1 : decide ((wrap64 (x6_1 + 1)) ≤ (a0.size : Int)) = true := decide_eq_true c10
                by_cases c11 : x5_1.size + (a0.extract (x6_1 : Int).toNat ((wrap64 (x6_1 + 1)) : Int).toNat).size ≤ 9223372036854775807
                · rw [if_pos c11] at H
                  have c11b0 := eq_true c11
                  have c11b1 : decide (x5_1.size + (a0.extract (x6_1 : Int).toNat ((wrap64 (x6_1 + 1)) : Int).toNat).size ≤ 9223372036854775807) = true := decide_eq_true c11
                  try have c11b2 : (9223372036854775807 < x5_1.size + (a0.extract (x6_1 : Int).toNat ((wrap64 (x6_1 + 1)) : Int).toNat).size) = False := eq_false (Nat.not_lt.2 c11)
                  have H' := Aside0.mk H
                  clear H
                  have p5 : 0 ≤ (x6_1 : Int) := of_decide_eq_true (by first | (with_reducible assumption) | assumption)
                  have q5 : x6_1 < (a0.size : Int) := of_decide_eq_true (by first | (with_reducible assumption) | assumption)
                  have hx5 := bt_at a0 x6_1
                  replace p5 := eq_true p5
                  replace q5 := eq_true q5
                  go_wp2_with (first | (go_at_call 39; (with_reducible refine (shadowboxref28_Plain.calls k1 (bt a0 x6_1) true _ A6.out).mono ?_); rintro e w' ⟨rfl, ⟨nd, rfl⟩⟩; (try first | exact ⟨rfl, _, World.drewN_drewN _ _ _⟩ | exact ⟨rfl, _, Eq.trans (World.drewN_drewN _ _ _) (congrArg (World.drewN _) (Nat.add_assoc _ _ _))⟩)))
                  repeat (go_quiet (first | (go_at_call 39; (with_reducible refine (shadowboxref28_Plain.calls k1 (bt a0 x6_1) true _ A6.out).mono ?_); rintro e w' ⟨rfl, ⟨nd, rfl⟩⟩; (try first | exact ⟨rfl, _, World.drewN_drewN _ _ _⟩ | exact ⟨rfl, _, Eq.trans (World.drewN_drewN _ _ _) (congrArg (World.drewN _) (Nat.add_assoc _ _ _))⟩))); try go_wp2_with (first | (go_at_call 39; (with_reducible refine (shadowboxref28_Plain.calls k1 (bt a0 x6_1) true _ A6.out).mono ?_); rintro e w' ⟨rfl, ⟨nd, rfl⟩⟩; (try first | exact ⟨rfl, _, World.drewN_drewN _ _ _⟩ | exact ⟨rfl, _, Eq.trans (World.drewN_drewN _ _ _) (congrArg (World.drewN _) (Nat.add_assoc _ _ _))⟩))))
                  go_roundg k1
                  case measure => have := HK1.out; omega
                  case rel => exact ⟨(x5_1 ++ (a0.extract (x6_1 : Int).toNat ((wrap64 (x6_1 + 1)) : Int).toNat)), (wrap64 (x6_1 + 1)), (by first | rfl | (simp; done) | (simp [*]; done)), (by first | rfl | (simp; done) | (simp [*]; done)), H', ⟨by have := HK1.out; omega⟩, by repeat (first | exact Drawn0.refl _ | apply Drawn0.step)⟩
                · rw [if_neg c11] at H
                  exact absurd H (by simp)
              · rw [if_neg c10] at H
                exact absurd H (by simp)
            · rw [if_neg c9] at H
              exact absurd H (by simp)
          · replace c7 := Bool.eq_false_iff.mpr c7
            subst c7
            have H1 : (if a1 = true then (if (bt a0 x6_1) = 47 then (if x6_1 ≤ (wrap64 (x6_1 + 1)) then (if (wrap64 (x6_1 + 1)) ≤ (a0.size : Int) then (if x5_1.size + (a0.extract (x6_1 : Int).toNat ((wrap64 (x6_1 + 1)) : Int).toNat).size ≤ 9223372036854775807 then (shadowboxref28_Encode.l0 k1 a0 a1 (x5_1 ++ (a0.extract (x6_1 : Int).toNat ((wrap64 (x6_1 + 1)) : Int).toNat)) (wrap64 (x6_1 + 1))) else (none)) else (none)) else (none)) else (if x5_1.size + 1 ≤ 9223372036854775807 then (if 0 ≤ ((Int.tdiv (bt a0 x6_1) 16) % 256) then (if ((Int.tdiv (bt a0 x6_1) 16) % 256) ≤ ((((Int.tdiv (bt a0 x6_1) 16) % 256) + 1) % 256) then (if ((((Int.tdiv (bt a0 x6_1) 16) % 256) + 1) % 256) ≤ 16 then (if (x5_1 ++ (⟨#[37]⟩ : ByteArray)).size + ((⟨#[48, 49, 50, 51, 52, 53, 54, 55, 56, 57, 65, 66, 67, 68, 69, 70]⟩ : ByteArray).extract (((Int.tdiv (bt a0 x6_1) 16) % 256) : Int).toNat (((((Int.tdiv (bt a0 x6_1) 16) % 256) + 1) % 256) : Int).toNat).size ≤ 9223372036854775807 then (if 0 ≤ (Int.tmod (bt a0 x6_1) 16) then (if (Int.tmod (bt a0 x6_1) 16) ≤ (((Int.tmod (bt a0 x6_1) 16) + 1) % 256) then (if (((Int.tmod (bt a0 x6_1) 16) + 1) % 256) ≤ 16 then (if ((x5_1 ++ (⟨#[37]⟩ : ByteArray)) ++ ((⟨#[48, 49, 50, 51, 52, 53, 54, 55, 56, 57, 65, 66, 67, 68, 69, 70]⟩ : ByteArray).extract (((Int.tdiv (bt a0 x6_1) 16) % 256) : Int).toNat (((((Int.tdiv (bt a0 x6_1) 16) % 256) + 1) % 256) : Int).toNat)).size + ((⟨#[48, 49, 50, 51, 52, 53, 54, 55, 56, 57, 65, 66, 67, 68, 69, 70]⟩ : ByteArray).extract ((Int.tmod (bt a0 x6_1) 16) : Int).toNat ((((Int.tmod (bt a0 x6_1) 16) + 1) % 256) : Int).toNat).size ≤ 9223372036854775807 then (shadowboxref28_Encode.l0 k1 a0 a1 (((x5_1 ++ (⟨#[37]⟩ : ByteArray)) ++ ((⟨#[48, 49, 50, 51, 52, 53, 54, 55, 56, 57, 65, 66, 67, 68, 69, 70]⟩ : ByteArray).extract (((Int.tdiv (bt a0 x6_1) 16) % 256) : Int).toNat (((((Int.tdiv (bt a0 x6_1) 16) % 256) + 1) % 256) : Int).toNat)) ++ ((⟨#[48, 49, 50, 51, 52, 53, 54, 55, 56, 57, 65, 66, 67, 68, 69, 70]⟩ : ByteArray).extract ((Int.tmod (bt a0 x6_1) 16) : Int).toNat ((((Int.tmod (bt a0 x6_1) 16) + 1) % 256) : Int).toNat)) (wrap64 (x6_1 + 1))) else (none)) else (none)) else (none)) else (none)) else (none)) else (none)) else (none)) else (none)) else (none))) else (if x5_1.size + 1 ≤ 9223372036854775807 then (if 0 ≤ ((Int.tdiv (bt a0 x6_1) 16) % 256) then (if ((Int.tdiv (bt a0 x6_1) 16) % 256) ≤ ((((Int.tdiv (bt a0 x6_1) 16) % 256) + 1) % 256) then (if ((((Int.tdiv (bt a0 x6_1) 16) % 256) + 1) % 256) ≤ 16 then (if (x5_1 ++ (⟨#[37]⟩ : ByteArray)).size + ((⟨#[48, 49, 50, 51, 52, 53, 54, 55, 56, 57, 65, 66, 67, 68, 69, 70]⟩ : ByteArray).extract (((Int.tdiv (bt a0 x6_1) 16) % 256) : Int).toNat (((((Int.tdiv (bt a0 x6_1) 16) % 256) + 1) % 256) : Int).toNat).size ≤ 9223372036854775807 then (if 0 ≤ (Int.tmod (bt a0 x6_1) 16) then (if (Int.tmod (bt a0 x6_1) 16) ≤ (((Int.tmod (bt a0 x6_1) 16) + 1) % 256) then (if (((Int.tmod (bt a0 x6_1) 16) + 1) % 256) ≤ 16 then (if ((x5_1 ++ (⟨#[37]⟩ : ByteArray)) ++ ((⟨#[48, 49, 50, 51, 52, 53, 54, 55, 56, 57, 65, 66, 67, 68, 69, 70]⟩ : ByteArray).extract (((Int.tdiv (bt a0 x6_1) 16) % 256) : Int).toNat (((((Int.tdiv (bt a0 x6_1) 16) % 256) + 1) % 256) : Int).toNat)).size + ((⟨#[48, 49, 50, 51, 52, 53, 54, 55, 56, 57, 65, 66, 67, 68, 69, 70]⟩ : ByteArray).extract ((Int.tmod (bt a0 x6_1) 16) : Int).toNat ((((Int.tmod (bt a0 x6_1) 16) + 1) % 256) : Int).toNat).size ≤ 9223372036854775807 then (shadowboxref28_Encode.l0 k1 a0 a1 (((x5_1 ++ (⟨#[37]⟩ : ByteArray)) ++ ((⟨#[48, 49, 50, 51, 52, 53, 54, 55, 56, 57, 65, 66, 67, 68, 69, 70]⟩ : ByteArray).extract (((Int.tdiv (bt a0 x6_1) 16) % 256) : Int).toNat (((((Int.tdiv (bt a0 x6_1) 16) % 256) + 1) % 256) : Int).toNat)) ++ ((⟨#[48, 49, 50, 51, 52, 53, 54, 55, 56, 57, 65, 66, 67, 68, 69, 70]⟩ : ByteArray).extract ((Int.tmod (bt a0 x6_1) 16) : Int).toNat ((((Int.tmod (bt a0 x6_1) 16) + 1) % 256) : Int).toNat)) (wrap64 (x6_1 + 1))) else (none)) else (none)) else (none)) else (none)) else (none)) else (none)) else (none)) else (none)) else (none))) = some r := by rw [if_neg (show ¬ (false = true) by decide)] at H; exact H
            clear H
            have H := H1
            clear H1
            by_cases c12 : a1 = true
            · subst c12
              have H1 : (if (bt a0 x6_1) = 47 then (if x6_1 ≤ (wrap64 (x6_1 + 1)) then (if (wrap64 (x6_1 + 1)) ≤ (a0.size : Int) then (if x5_1.size + (a0.extract (x6_1 : Int).toNat ((wrap64 (x6_1 + 1)) : Int).toNat).size ≤ 9223372036854775807 then (shadowboxref28_Encode.l0 k1 a0 true (x5_1 ++ (a0.extract (x6_1 : Int).toNat ((wrap64 (x6_1 + 1)) : Int).toNat)) (wrap64 (x6_1 + 1))) else (none)) else (none)) else (none)) else (if x5_1.size + 1 ≤ 9223372036854775807 then (if 0 ≤ ((Int.tdiv (bt a0 x6_1) 16) % 256) then (if ((Int.tdiv (bt a0 x6_1) 16) % 256) ≤ ((((Int.tdiv (bt a0 x6_1) 16) % 256) + 1) % 256) then (if ((((Int.tdiv (bt a0 x6_1) 16) % 256) + 1) % 256) ≤ 16 then (if (x5_1 ++ (⟨#[37]⟩ : ByteArray)).size + ((⟨#[48, 49, 50, 51, 52, 53, 54, 55, 56, 57, 65, 66, 67, 68, 69, 70]⟩ : ByteArray).extract (((Int.tdiv (bt a0 x6_1) 16) % 256) : Int).toNat (((((Int.tdiv (bt a0 x6_1) 16) % 256) + 1) % 256) : Int).toNat).size ≤ 9223372036854775807 then (if 0 ≤ (Int.tmod (bt a0 x6_1) 16) then (if (Int.tmod (bt a0 x6_1) 16) ≤ (((Int.tmod (bt a0 x6_1) 16) + 1) % 256) then (if (((Int.tmod (bt a0 x6_1) 16) + 1) % 256) ≤ 16 then (if ((x5_1 ++ (⟨#[37]⟩ : ByteArray)) ++ ((⟨#[48, 49, 50, 51, 52, 53, 54, 55, 56, 57, 65, 66, 67, 68, 69, 70]⟩ : ByteArray).extract (((Int.tdiv (bt a0 x6_1) 16) % 256) : Int).toNat (((((Int.tdiv (bt a0 x6_1) 16) % 256) + 1) % 256) : Int).toNat)).size + ((⟨#[48, 49, 50, 51, 52, 53, 54, 55, 56, 57, 65, 66, 67, 68, 69, 70]⟩ : ByteArray).extract ((Int.tmod (bt a0 x6_1) 16) : Int).toNat ((((Int.tmod (bt a0 x6_1) 16) + 1) % 256) : Int).toNat).size ≤ 9223372036854775807 then (shadowboxref28_Encode.l0 k1 a0 true (((x5_1 ++ (⟨#[37]⟩ : ByteArray)) ++ ((⟨#[48, 49, 50, 51, 52, 53, 54, 55, 56, 57, 65, 66, 67, 68, 69, 70]⟩ : ByteArray).extract (((Int.tdiv (bt a0 x6_1) 16) % 256) : Int).toNat (((((Int.tdiv (bt a0 x6_1) 16) % 256) + 1) % 256) : Int).toNat)) ++ ((⟨#[48, 49, 50, 51, 52, 53, 54, 55, 56, 57, 65, 66, 67, 68, 69, 70]⟩ : ByteArray).extract ((Int.tmod (bt a0 x6_1) 16) : Int).toNat ((((Int.tmod (bt a0 x6_1) 16) + 1) % 256) : Int).toNat)) (wrap64 (x6_1 + 1))) else (none)) else (none)) else (none)) else (none)) else (none)) else (none)) else (none)) else (none)) else (none))) = some r := by rw [if_pos rfl] at H; exact H
              clear H
              have H := H1
              clear H1
              by_cases c14 : (bt a0 x6_1) = 47
              · rw [if_pos c14] at H
                have c14b0 : ((bt a0 x6_1) == 47) = true := beq_iff_eq.mpr c14
                have c14b1 : ((bt a0 x6_1) != 47) = false := bne_eq_false_iff_eq.mpr c14
                clear c14
                have c15b0 := eq_true (of_decide_eq_true (by first | (with_reducible assumption) | assumption) : 0 ≤ x6_1)
                by_cases c16 : x6_1 ≤ (wrap64 (x6_1 + 1))
                · rw [if_pos c16] at H
                  have c16b0 := eq_true c16
                  have c16b1 : decide (x6_1 ≤ (wrap64 (x6_1 + 1))) = true := decide_eq_true c16
                  by_cases c17 : (wrap64 (x6_1 + 1)) ≤ (a0.size : Int)
                  · rw [if_pos c17] at H
                    have c17b0 := eq_true c17
                    have c17b1 : decide ((wrap64 (x6_1 + 1)) ≤ (a0.size : Int)) = true := decide_eq_true c17
                    by_cases c18 : x5_1.size + (a0.extract (x6_1 : Int).toNat ((wrap64 (x6_1 + 1)) : Int).toNat).size ≤ 9223372036854775807
                    · rw [if_pos c18] at H
                      have c18b0 := eq_true c18
                      have c18b1 : decide (x5_1.size + (a0.extract (x6_1 : Int).toNat ((wrap64 (x6_1 + 1)) : Int).toNat).size ≤ 9223372036854775807) = true := decide_eq_true c18
                      try have c18b2 : (9223372036854775807 < x5_1.size + (a0.extract (x6_1 : Int).toNat ((wrap64 (x6_1 + 1)) : Int).toNat).size) = False := eq_false (Nat.not_lt.2 c18)
                      have H' := Aside0.mk H
                      clear H
                      have p5 : 0 ≤ (x6_1 : Int) := of_decide_eq_true (by first | (with_reducible assumption) | assumption)
                      have q5 : x6_1 < (a0.size : Int) := of_decide_eq_true (by first | (with_reducible assumption) | assumption)
                      have hx5 := bt_at a0 x6_1
                      replace p5 := eq_true p5
                      replace q5 := eq_true q5
                      go_wp2_with (first | (go_at_call 39; (with_reducible refine (shadowboxref28_Plain.calls k1 (bt a0 x6_1) false _ A6.out).mono ?_); rintro e w' ⟨rfl, ⟨nd, rfl⟩⟩; (try first | exact ⟨rfl, _, World.drewN_drewN _ _ _⟩ | exact ⟨rfl, _, Eq.trans (World.drewN_drewN _ _ _) (congrArg (World.drewN _) (Nat.add_assoc _ _ _))⟩); have p13 : 0 ≤ (x6_1 : Int) := of_decide_eq_true (by first | (with_reducible assumption) | assumption); have q13 : x6_1 < (a0.size : Int) := of_decide_eq_true (by first | (with_reducible assumption) | assumption); have hx13 := bt_at a0 x6_1; replace p13 := eq_true p13; replace q13 := eq_true q13))
                      repeat (go_quiet (first | (go_at_call 39; (with_reducible refine (shadowboxref28_Plain.calls k1 (bt a0 x6_1) false _ A6.out).mono ?_); rintro e w' ⟨rfl, ⟨nd, rfl⟩⟩; (try first | exact ⟨rfl, _, World.drewN_drewN _ _ _⟩ | exact ⟨rfl, _, Eq.trans (World.drewN_drewN _ _ _) (congrArg (World.drewN _) (Nat.add_assoc _ _ _))⟩); have p13 : 0 ≤ (x6_1 : Int) := of_decide_eq_true (by first | (with_reducible assumption) | assumption); have q13 : x6_1 < (a0.size : Int) := of_decide_eq_true (by first | (with_reducible assumption) | assumption); have hx13 := bt_at a0 x6_1; replace p13 := eq_true p13; replace q13 := eq_true q13)); try go_wp2_with (first | (go_at_call 39; (with_reducible refine (shadowboxref28_Plain.calls k1 (bt a0 x6_1) false _ A6.out).mono ?_); rintro e w' ⟨rfl, ⟨nd, rfl⟩⟩; (try first | exact ⟨rfl, _, World.drewN_drewN _ _ _⟩ | exact ⟨rfl, _, Eq.trans (World.drewN_drewN _ _ _) (congrArg (World.drewN _) (Nat.add_assoc _ _ _))⟩); have p13 : 0 ≤ (x6_1 : Int) := of_decide_eq_true (by first | (with_reducible assumption) | assumption); have q13 : x6_1 < (a0.size : Int) := of_decide_eq_true (by first | (with_reducible assumption) | assumption); have hx13 := bt_at a0 x6_1; replace p13 := eq_true p13; replace q13 := eq_true q13)))
                      go_roundg k1
                      case measure => have := HK1.out; omega
                      case rel => exact ⟨(x5_1 ++ (a0.extract (x6_1 : Int).toNat ((wrap64 (x6_1 + 1)) : Int).toNat)), (wrap64 (x6_1 + 1)), (by first | rfl | (simp; done) | (simp [*]; done)), (by first | rfl | (simp; done) | (simp [*]; done)), H', ⟨by have := HK1.out; omega⟩, by repeat (first | exact Drawn0.refl _ | apply Drawn0.step)⟩
                    · rw [if_neg c18] at H
                      exact absurd H (by simp)
                  · rw [if_neg c17] at H
                    exact absurd H (by simp)
                · rw [if_neg c16] at H
                  exact absurd H (by simp)
              · rw [if_neg c14] at H
                have c14b0 : ((bt a0 x6_1) == 47) = false := beq_eq_false_iff_ne.mpr c14
                have c14b1 : ((bt a0 x6_1) != 47) = true := bne_iff_ne.mpr c14
                by_cases c19 : x5_1.size + 1 ≤ 9223372036854775807
                · rw [if_pos c19] at H
                  have c19b0 := eq_true c19
                  have c19b1 : decide (x5_1.size + 1 ≤ 9223372036854775807) = true := decide_eq_true c19
                  try have c19b2 : (9223372036854775807 < x5_1.size + 1) = False := eq_false (Nat.not_lt.2 c19)
                  obtain ⟨ji22, hji22⟩ : ∃ j_ : Int, ((Int.tdiv (bt a0 x6_1) 16) % 256) = j_ := ⟨_, rfl⟩
                  replace H : (if 0 ≤ (ji22) then (if (ji22) ≤ (((ji22) + 1) % 256) then (if (((ji22) + 1) % 256) ≤ 16 then (if (x5_1 ++ (⟨#[37]⟩ : ByteArray)).size + ((⟨#[48, 49, 50, 51, 52, 53, 54, 55, 56, 57, 65, 66, 67, 68, 69, 70]⟩ : ByteArray).extract ((ji22) : Int).toNat ((((ji22) + 1) % 256) : Int).toNat).size ≤ 9223372036854775807 then (if 0 ≤ (Int.tmod (bt a0 x6_1) 16) then (if (Int.tmod (bt a0 x6_1) 16) ≤ (((Int.tmod (bt a0 x6_1) 16) + 1) % 256) then (if (((Int.tmod (bt a0 x6_1) 16) + 1) % 256) ≤ 16 then (if ((x5_1 ++ (⟨#[37]⟩ : ByteArray)) ++ ((⟨#[48, 49, 50, 51, 52, 53, 54, 55, 56, 57, 65, 66, 67, 68, 69, 70]⟩ : ByteArray).extract ((ji22) : Int).toNat ((((ji22) + 1) % 256) : Int).toNat)).size + ((⟨#[48, 49, 50, 51, 52, 53, 54, 55, 56, 57, 65, 66, 67, 68, 69, 70]⟩ : ByteArray).extract ((Int.tmod (bt a0 x6_1) 16) : Int).toNat ((((Int.tmod (bt a0 x6_1) 16) + 1) % 256) : Int).toNat).size ≤ 9223372036854775807 then (shadowboxref28_Encode.l0 k1 a0 true (((x5_1 ++ (⟨#[37]⟩ : ByteArray)) ++ ((⟨#[48, 49, 50, 51, 52, 53, 54, 55, 56, 57, 65, 66, 67, 68, 69, 70]⟩ : ByteArray).extract ((ji22) : Int).toNat ((((ji22) + 1) % 256) : Int).toNat)) ++ ((⟨#[48, 49, 50, 51, 52, 53, 54, 55, 56, 57, 65, 66, 67, 68, 69, 70]⟩ : ByteArray).extract ((Int.tmod (bt a0 x6_1) 16) : Int).toNat ((((Int.tmod (bt a0 x6_1) 16) + 1) % 256) : Int).toNat)) (wrap64 (x6_1 + 1))) else (none)) else (none)) else (none)) else (none)) else (none)) else (none)) else (none)) else (none)) = some r := by first | (rw [hji22] at H; exact H) | (simp only [hji22] at H ⊢; exact H)
                  (try rw [hji22] at A6)
                  by_cases c23 : 0 ≤ (ji22)
                  · rw [if_pos c23] at H
                    have c23b0 := eq_true c23
                    have c23b1 : decide (0 ≤ (ji22)) = true := decide_eq_true c23
                    clear c23
                    by_cases c24 : (ji22) ≤ (((ji22) + 1) % 256)
                    · rw [if_pos c24] at H
                      have c24b0 := eq_true c24
                      have c24b1 : decide ((ji22) ≤ (((ji22) + 1) % 256)) = true := decide_eq_true c24
                      by_cases c25 : (((ji22) + 1) % 256) ≤ 16
                      · rw [if_pos c25] at H
                        have c25b0 := eq_true c25
                        have c25b1 : decide ((((ji22) + 1) % 256) ≤ 16) = true := decide_eq_true c25
                        by_cases c26 : (x5_1 ++ (⟨#[37]⟩ : ByteArray)).size + ((⟨#[48, 49, 50, 51, 52, 53, 54, 55, 56, 57, 65, 66, 67, 68, 69, 70]⟩ : ByteArray).extract ((ji22) : Int).toNat ((((ji22) + 1) % 256) : Int).toNat).size ≤ 9223372036854775807
                        · rw [if_pos c26] at H
                          have c26b0 := eq_true c26
                          have c26b1 : decide ((x5_1 ++ (⟨#[37]⟩ : ByteArray)).size + ((⟨#[48, 49, 50, 51, 52, 53, 54, 55, 56, 57, 65, 66, 67, 68, 69, 70]⟩ : ByteArray).extract ((ji22) : Int).toNat ((((ji22) + 1) % 256) : Int).toNat).size ≤ 9223372036854775807) = true := decide_eq_true c26
                          try have c26b2 : (9223372036854775807 < (x5_1 ++ (⟨#[37]⟩ : ByteArray)).size + ((⟨#[48, 49, 50, 51, 52, 53, 54, 55, 56, 57, 65, 66, 67, 68, 69, 70]⟩ : ByteArray).extract ((ji22) : Int).toNat ((((ji22) + 1) % 256) : Int).toNat).size) = False := eq_false (Nat.not_lt.2 c26)
                          try have c26z := c26
                          try simp only [ByteArray.size_append, show (⟨#[37]⟩ : ByteArray).size = 1 from rfl, show (⟨#[48, 49, 50, 51, 52, 53, 54, 55, 56, 57, 65, 66, 67, 68, 69, 70]⟩ : ByteArray).size = 16 from rfl, show ((⟨#[48, 49, 50, 51, 52, 53, 54, 55, 56, 57, 65, 66, 67, 68, 69, 70]⟩ : ByteArray).extract ((ji22) : Int).toNat ((((ji22) + 1) % 256) : Int).toNat).size = ((((ji22) + 1) % 256) : Int).toNat - ((ji22) : Int).toNat from (by have h_ : ((((ji22) + 1) % 256) : Int) ≤ 16 := of_decide_eq_true (by first | (with_reducible assumption) | assumption); have e_ : (⟨#[48, 49, 50, 51, 52, 53, 54, 55, 56, 57, 65, 66, 67, 68, 69, 70]⟩ : ByteArray).size = 16 := rfl; rw [ByteArray.size_extract, e_]; omega)] at c26z
                          try have c26y := eq_true c26z
                          try have c26x := decide_eq_true c26z
                          try have c26v := eq_false (Nat.not_lt.2 c26z)
                          try clear c26z
                          obtain ⟨ji29, hji29⟩ : ∃ j_ : Int, (Int.tmod (bt a0 x6_1) 16) = j_ := ⟨_, rfl⟩
                          replace H : (if 0 ≤ (ji29) then (if (ji29) ≤ (((ji29) + 1) % 256) then (if (((ji29) + 1) % 256) ≤ 16 then (if ((x5_1 ++ (⟨#[37]⟩ : ByteArray)) ++ ((⟨#[48, 49, 50, 51, 52, 53, 54, 55, 56, 57, 65, 66, 67, 68, 69, 70]⟩ : ByteArray).extract ((ji22) : Int).toNat ((((ji22) + 1) % 256) : Int).toNat)).size + ((⟨#[48, 49, 50, 51, 52, 53, 54, 55, 56, 57, 65, 66, 67, 68, 69, 70]⟩ : ByteArray).extract ((ji29) : Int).toNat ((((ji29) + 1) % 256) : Int).toNat).size ≤ 9223372036854775807 then (shadowboxref28_Encode.l0 k1 a0 true (((x5_1 ++ (⟨#[37]⟩ : ByteArray)) ++ ((⟨#[48, 49, 50, 51, 52, 53, 54, 55, 56, 57, 65, 66, 67, 68, 69, 70]⟩ : ByteArray).extract ((ji22) : Int).toNat ((((ji22) + 1) % 256) : Int).toNat)) ++ ((⟨#[48, 49, 50, 51, 52, 53, 54, 55, 56, 57, 65, 66, 67, 68, 69, 70]⟩ : ByteArray).extract ((ji29) : Int).toNat ((((ji29) + 1) % 256) : Int).toNat)) (wrap64 (x6_1 + 1))) else (none)) else (none)) else (none)) else (none)) = some r := by first | (rw [hji29] at H; exact H) | (simp only [hji29] at H ⊢; exact H)
                          (try rw [hji29] at A6)
                          by_cases c30 : 0 ≤ (ji29)
                          · rw [if_pos c30] at H
                            have c30b0 := eq_true c30
                            have c30b1 : decide (0 ≤ (ji29)) = true := decide_eq_true c30
                            clear c30
                            by_cases c31 : (ji29) ≤ (((ji29) + 1) % 256)
                            · rw [if_pos c31] at H
                              have c31b0 := eq_true c31
                              have c31b1 : decide ((ji29) ≤ (((ji29) + 1) % 256)) = true := decide_eq_true c31
                              by_cases c32 : (((ji29) + 1) % 256) ≤ 16
                              · rw [if_pos c32] at H
                                have c32b0 := eq_true c32
                                have c32b1 : decide ((((ji29) + 1) % 256) ≤ 16) = true := decide_eq_true c32
                                by_cases c33 : ((x5_1 ++ (⟨#[37]⟩ : ByteArray)) ++ ((⟨#[48, 49, 50, 51, 52, 53, 54, 55, 56, 57, 65, 66, 67, 68, 69, 70]⟩ : ByteArray).extract ((ji22) : Int).toNat ((((ji22) + 1) % 256) : Int).toNat)).size + ((⟨#[48, 49, 50, 51, 52, 53, 54, 55, 56, 57, 65, 66, 67, 68, 69, 70]⟩ : ByteArray).extract ((ji29) : Int).toNat ((((ji29) + 1) % 256) : Int).toNat).size ≤ 9223372036854775807
                                · rw [if_pos c33] at H
                                  have c33b0 := eq_true c33
                                  have c33b1 : decide (((x5_1 ++ (⟨#[37]⟩ : ByteArray)) ++ ((⟨#[48, 49, 50, 51, 52, 53, 54, 55, 56, 57, 65, 66, 67, 68, 69, 70]⟩ : ByteArray).extract ((ji22) : Int).toNat ((((ji22) + 1) % 256) : Int).toNat)).size + ((⟨#[48, 49, 50, 51, 52, 53, 54, 55, 56, 57, 65, 66, 67, 68, 69, 70]⟩ : ByteArray).extract ((ji29) : Int).toNat ((((ji29) + 1) % 256) : Int).toNat).size ≤ 9223372036854775807) = true := decide_eq_true c33
                                  try have c33b2 : (9223372036854775807 < ((x5_1 ++ (⟨#[37]⟩ : ByteArray)) ++ ((⟨#[48, 49, 50, 51, 52, 53, 54, 55, 56, 57, 65, 66, 67, 68, 69, 70]⟩ : ByteArray).extract ((ji22) : Int).toNat ((((ji22) + 1) % 256) : Int).toNat)).size + ((⟨#[48, 49, 50, 51, 52, 53, 54, 55, 56, 57, 65, 66, 67, 68, 69, 70]⟩ : ByteArray).extract ((ji29) : Int).toNat ((((ji29) + 1) % 256) : Int).toNat).size) = False := eq_false (Nat.not_lt.2 c33)
                                  try have c33z := c33
                                  try simp only [ByteArray.size_append, show (⟨#[37]⟩ : ByteArray).size = 1 from rfl, show (⟨#[48, 49, 50, 51, 52, 53, 54, 55, 56, 57, 65, 66, 67, 68, 69, 70]⟩ : ByteArray).size = 16 from rfl, show ((⟨#[48, 49, 50, 51, 52, 53, 54, 55, 56, 57, 65, 66, 67, 68, 69, 70]⟩ : ByteArray).extract ((ji22) : Int).toNat ((((ji22) + 1) % 256) : Int).toNat).size = ((((ji22) + 1) % 256) : Int).toNat - ((ji22) : Int).toNat from (by have h_ : ((((ji22) + 1) % 256) : Int) ≤ 16 := of_decide_eq_true (by first | (with_reducible assumption) | assumption); have e_ : (⟨#[48, 49, 50, 51, 52, 53, 54, 55, 56, 57, 65, 66, 67, 68, 69, 70]⟩ : ByteArray).size = 16 := rfl; rw [ByteArray.size_extract, e_]; omega), show ((⟨#[48, 49, 50, 51, 52, 53, 54, 55, 56, 57, 65, 66, 67, 68, 69, 70]⟩ : ByteArray).extract ((ji29) : Int).toNat ((((ji29) + 1) % 256) : Int).toNat).size = ((((ji29) + 1) % 256) : Int).toNat - ((ji29) : Int).toNat from (by have h_ : ((((ji29) + 1) % 256) : Int) ≤ 16 := of_decide_eq_true (by first | (with_reducible assumption) | assumption); have e_ : (⟨#[48, 49, 50, 51, 52, 53, 54, 55, 56, 57, 65, 66, 67, 68, 69, 70]⟩ : ByteArray).size = 16 := rfl; rw [ByteArray.size_extract, e_]; omega)] at c33z
                                  try have c33y := eq_true c33z
                                  try have c33x := decide_eq_true c33z
                                  try have c33v := eq_false (Nat.not_lt.2 c33z)
                                  try clear c33z
                                  have H' := Aside0.mk H
                                  clear H
                                  have p5 : 0 ≤ (x6_1 : Int) := of_decide_eq_true (by first | (with_reducible assumption) | assumption)
                                  have q5 : x6_1 < (a0.size : Int) := of_decide_eq_true (by first | (with_reducible assumption) | assumption)
                                  have hx5 := bt_at a0 x6_1
                                  replace p5 := eq_true p5
                                  replace q5 := eq_true q5
                                  go_wp2_with (first | (go_at_call 39; (with_reducible refine (shadowboxref28_Plain.calls k1 (bt a0 x6_1) false _ A6.out).mono ?_); rintro e w' ⟨rfl, ⟨nd, rfl⟩⟩; (try first | exact ⟨rfl, _, World.drewN_drewN _ _ _⟩ | exact ⟨rfl, _, Eq.trans (World.drewN_drewN _ _ _) (congrArg (World.drewN _) (Nat.add_assoc _ _ _))⟩); have p13 : 0 ≤ (x6_1 : Int) := of_decide_eq_true (by first | (with_reducible assumption) | assumption); have q13 : x6_1 < (a0.size : Int) := of_decide_eq_true (by first | (with_reducible assumption) | assumption); have hx13 := bt_at a0 x6_1; replace p13 := eq_true p13; replace q13 := eq_true q13; have p20 : 0 ≤ (x6_1 : Int) := of_decide_eq_true (by first | (with_reducible assumption) | assumption); have q20 : x6_1 < (a0.size : Int) := of_decide_eq_true (by first | (with_reducible assumption) | assumption); have hx20 := bt_at a0 x6_1; replace p20 := eq_true p20; replace q20 := eq_true q20; have p21 : 0 ≤ (x6_1 : Int) := of_decide_eq_true (by first | (with_reducible assumption) | assumption); have q21 : x6_1 < (a0.size : Int) := of_decide_eq_true (by first | (with_reducible assumption) | assumption); have hx21 := bt_at a0 x6_1; replace p21 := eq_true p21; replace q21 := eq_true q21; have p27 : 0 ≤ (x6_1 : Int) := of_decide_eq_true (by first | (with_reducible assumption) | assumption); have q27 : x6_1 < (a0.size : Int) := of_decide_eq_true (by first | (with_reducible assumption) | assumption); have hx27 := bt_at a0 x6_1; replace p27 := eq_true p27; replace q27 := eq_true q27; have p28 : 0 ≤ (x6_1 : Int) := of_decide_eq_true (by first | (with_reducible assumption) | assumption); have q28 : x6_1 < (a0.size : Int) := of_decide_eq_true (by first | (with_reducible assumption) | assumption); have hx28 := bt_at a0 x6_1; replace p28 := eq_true p28; replace q28 := eq_true q28))
                                  repeat (go_quiet (first | (go_at_call 39; (with_reducible refine (shadowboxref28_Plain.calls k1 (bt a0 x6_1) false _ A6.out).mono ?_); rintro e w' ⟨rfl, ⟨nd, rfl⟩⟩; (try first | exact ⟨rfl, _, World.drewN_drewN _ _ _⟩ | exact ⟨rfl, _, Eq.trans (World.drewN_drewN _ _ _) (congrArg (World.drewN _) (Nat.add_assoc _ _ _))⟩); have p13 : 0 ≤ (x6_1 : Int) := of_decide_eq_true (by first | (with_reducible assumption) | assumption); have q13 : x6_1 < (a0.size : Int) := of_decide_eq_true (by first | (with_reducible assumption) | assumption); have hx13 := bt_at a0 x6_1; replace p13 := eq_true p13; replace q13 := eq_true q13; have p20 : 0 ≤ (x6_1 : Int) := of_decide_eq_true (by first | (with_reducible assumption) | assumption); have q20 : x6_1 < (a0.size : Int) := of_decide_eq_true (by first | (with_reducible assumption) | assumption); have hx20 := bt_at a0 x6_1; replace p20 := eq_true p20; replace q20 := eq_true q20; have p21 : 0 ≤ (x6_1 : Int) := of_decide_eq_true (by first | (with_reducible assumption) | assumption); have q21 : x6_1 < (a0.size : Int) := of_decide_eq_true (by first | (with_reducible assumption) | assumption); have hx21 := bt_at a0 x6_1; replace p21 := eq_true p21; replace q21 := eq_true q21; have p27 : 0 ≤ (x6_1 : Int) := of_decide_eq_true (by first | (with_reducible assumption) | assumption); have q27 : x6_1 < (a0.size : Int) := of_decide_eq_true (by first | (with_reducible assumption) | assumption); have hx27 := bt_at a0 x6_1; replace p27 := eq_true p27; replace q27 := eq_true q27; have p28 : 0 ≤ (x6_1 : Int) := of_decide_eq_true (by first | (with_reducible assumption) | assumption); have q28 : x6_1 < (a0.size : Int) := of_decide_eq_true (by first | (with_reducible assumption) | assumption); have hx28 := bt_at a0 x6_1; replace p28 := eq_true p28; replace q28 := eq_true q28)); try go_wp2_with (first | (go_at_call 39; (with_reducible refine (shadowboxref28_Plain.calls k1 (bt a0 x6_1) false _ A6.out).mono ?_); rintro e w' ⟨rfl, ⟨nd, rfl⟩⟩; (try first | exact ⟨rfl, _, World.drewN_drewN _ _ _⟩ | exact ⟨rfl, _, Eq.trans (World.drewN_drewN _ _ _) (congrArg (World.drewN _) (Nat.add_assoc _ _ _))⟩); have p13 : 0 ≤ (x6_1 : Int) := of_decide_eq_true (by first | (with_reducible assumption) | assumption); have q13 : x6_1 < (a0.size : Int) := of_decide_eq_true (by first | (with_reducible assumption) | assumption); have hx13 := bt_at a0 x6_1; replace p13 := eq_true p13; replace q13 := eq_true q13; have p20 : 0 ≤ (x6_1 : Int) := of_decide_eq_true (by first | (with_reducible assumption) | assumption); have q20 : x6_1 < (a0.size : Int) := of_decide_eq_true (by first | (with_reducible assumption) | assumption); have hx20 := bt_at a0 x6_1; replace p20 := eq_true p20; replace q20 := eq_true q20; have p21 : 0 ≤ (x6_1 : Int) := of_decide_eq_true (by first | (with_reducible assumption) | assumption); have q21 : x6_1 < (a0.size : Int) := of_decide_eq_true (by first | (with_reducible assumption) | assumption); have hx21 := bt_at a0 x6_1; replace p21 := eq_true p21; replace q21 := eq_true q21; have p27 : 0 ≤ (x6_1 : Int) := of_decide_eq_true (by first | (with_reducible assumption) | assumption); have q27 : x6_1 < (a0.size : Int) := of_decide_eq_true (by first | (with_reducible assumption) | assumption); have hx27 := bt_at a0 x6_1; replace p27 := eq_true p27; replace q27 := eq_true q27; have p28 : 0 ≤ (x6_1 : Int) := of_decide_eq_true (by first | (with_reducible assumption) | assumption); have q28 : x6_1 < (a0.size : Int) := of_decide_eq_true (by first | (with_reducible assumption) | assumption); have hx28 := bt_at a0 x6_1; replace p28 := eq_true p28; replace q28 := eq_true q28)))
                                  go_roundg k1
                                  case measure => have := HK1.out; omega
                                  case rel => exact ⟨(((x5_1 ++ (⟨#[37]⟩ : ByteArray)) ++ ((⟨#[48, 49, 50, 51, 52, 53, 54, 55, 56, 57, 65, 66, 67, 68, 69, 70]⟩ : ByteArray).extract ((ji22) : Int).toNat ((((ji22) + 1) % 256) : Int).toNat)) ++ ((⟨#[48, 49, 50, 51, 52, 53, 54, 55, 56, 57, 65, 66, 67, 68, 69, 70]⟩ : ByteArray).extract ((ji29) : Int).toNat ((((ji29) + 1) % 256) : Int).toNat)), (wrap64 (x6_1 + 1)), (by first | rfl | (simp; done) | (simp only [← hji22, ← hji29] <;> (first | rfl | simp)) | (simp [*]; done)), (by first | rfl | (simp; done) | (simp [*]; done)), H', ⟨by have := HK1.out; omega⟩, by repeat (first | exact Drawn0.refl _ | apply Drawn0.step)⟩
                                · rw [if_neg c33] at H
                                  exact absurd H (by simp)
                              · rw [if_neg c32] at H
                                exact absurd H (by simp)
                            · rw [if_neg c31] at H
                              exact absurd H (by simp)
                          · rw [if_neg c30] at H
                            exact absurd H (by simp)
                        · rw [if_neg c26] at H
                          exact absurd H (by simp)
                      · rw [if_neg c25] at H
                        exact absurd H (by simp)
                    · rw [if_neg c24] at H
                      exact absurd H (by simp)
                  · rw [if_neg c23] at H
                    exact absurd H (by simp)
                · rw [if_neg c19] at H
                  exact absurd H (by simp)
            · replace c12 := Bool.eq_false_iff.mpr c12
              subst c12
              have H1 : (if x5_1.size + 1 ≤ 9223372036854775807 then (if 0 ≤ ((Int.tdiv (bt a0 x6_1) 16) % 256) then (if ((Int.tdiv (bt a0 x6_1) 16) % 256) ≤ ((((Int.tdiv (bt a0 x6_1) 16) % 256) + 1) % 256) then (if ((((Int.tdiv (bt a0 x6_1) 16) % 256) + 1) % 256) ≤ 16 then (if (x5_1 ++ (⟨#[37]⟩ : ByteArray)).size + ((⟨#[48, 49, 50, 51, 52, 53, 54, 55, 56, 57, 65, 66, 67, 68, 69, 70]⟩ : ByteArray).extract (((Int.tdiv (bt a0 x6_1) 16) % 256) : Int).toNat (((((Int.tdiv (bt a0 x6_1) 16) % 256) + 1) % 256) : Int).toNat).size ≤ 9223372036854775807 then (if 0 ≤ (Int.tmod (bt a0 x6_1) 16) then (if (Int.tmod (bt a0 x6_1) 16) ≤ (((Int.tmod (bt a0 x6_1) 16) + 1) % 256) then (if (((Int.tmod (bt a0 x6_1) 16) + 1) % 256) ≤ 16 then (if ((x5_1 ++ (⟨#[37]⟩ : ByteArray)) ++ ((⟨#[48, 49, 50, 51, 52, 53, 54, 55, 56, 57, 65, 66, 67, 68, 69, 70]⟩ : ByteArray).extract (((Int.tdiv (bt a0 x6_1) 16) % 256) : Int).toNat (((((Int.tdiv (bt a0 x6_1) 16) % 256) + 1) % 256) : Int).toNat)).size + ((⟨#[48, 49, 50, 51, 52, 53, 54, 55, 56, 57, 65, 66, 67, 68, 69, 70]⟩ : ByteArray).extract ((Int.tmod (bt a0 x6_1) 16) : Int).toNat ((((Int.tmod (bt a0 x6_1) 16) + 1) % 256) : Int).toNat).size ≤ 9223372036854775807 then (shadowboxref28_Encode.l0 k1 a0 false (((x5_1 ++ (⟨#[37]⟩ : ByteArray)) ++ ((⟨#[48, 49, 50, 51, 52, 53, 54, 55, 56, 57, 65, 66, 67, 68, 69, 70]⟩ : ByteArray).extract (((Int.tdiv (bt a0 x6_1) 16) % 256) : Int).toNat (((((Int.tdiv (bt a0 x6_1) 16) % 256) + 1) % 256) : Int).toNat)) ++ ((⟨#[48, 49, 50, 51, 52, 53, 54, 55, 56, 57, 65, 66, 67, 68, 69, 70]⟩ : ByteArray).extract ((Int.tmod (bt a0 x6_1) 16) : Int).toNat ((((Int.tmod (bt a0 x6_1) 16) + 1) % 256) : Int).toNat)) (wrap64 (x6_1 + 1))) else (none)) else (none)) else (none)) else (none)) else (none)) else (none)) else (none)) else (none)) else (none)) = some r := by rw [if_neg (show ¬ (false = true) by decide)] at H; exact H
              clear H
              have H := H1
              clear H1
              by_cases c34 : x5_1.size + 1 ≤ 9223372036854775807
              · rw [if_pos c34] at H
                have c34b0 := eq_true c34
                have c34b1 : decide (x5_1.size + 1 ≤ 9223372036854775807) = true := decide_eq_true c34
                try have c34b2 : (9223372036854775807 < x5_1.size + 1) = False := eq_false (Nat.not_lt.2 c34)
                obtain ⟨ji37, hji37⟩ : ∃ j_ : Int, ((Int.tdiv (bt a0 x6_1) 16) % 256) = j_ := ⟨_, rfl⟩
                replace H : (if 0 ≤ (ji37) then (if (ji37) ≤ (((ji37) + 1) % 256) then (if (((ji37) + 1) % 256) ≤ 16 then (if (x5_1 ++ (⟨#[37]⟩ : ByteArray)).size + ((⟨#[48, 49, 50, 51, 52, 53, 54, 55, 56, 57, 65, 66, 67, 68, 69, 70]⟩ : ByteArray).extract ((ji37) : Int).toNat ((((ji37) + 1) % 256) : Int).toNat).size ≤ 9223372036854775807 then (if 0 ≤ (Int.tmod (bt a0 x6_1) 16) then (if (Int.tmod (bt a0 x6_1) 16) ≤ (((Int.tmod (bt a0 x6_1) 16) + 1) % 256) then (if (((Int.tmod (bt a0 x6_1) 16) + 1) % 256) ≤ 16 then (if ((x5_1 ++ (⟨#[37]⟩ : ByteArray)) ++ ((⟨#[48, 49, 50, 51, 52, 53, 54, 55, 56, 57, 65, 66, 67, 68, 69, 70]⟩ : ByteArray).extract ((ji37) : Int).toNat ((((ji37) + 1) % 256) : Int).toNat)).size + ((⟨#[48, 49, 50, 51, 52, 53, 54, 55, 56, 57, 65, 66, 67, 68, 69, 70]⟩ : ByteArray).extract ((Int.tmod (bt a0 x6_1) 16) : Int).toNat ((((Int.tmod (bt a0 x6_1) 16) + 1) % 256) : Int).toNat).size ≤ 9223372036854775807 then (shadowboxref28_Encode.l0 k1 a0 false (((x5_1 ++ (⟨#[37]⟩ : ByteArray)) ++ ((⟨#[48, 49, 50, 51, 52, 53, 54, 55, 56, 57, 65, 66, 67, 68, 69, 70]⟩ : ByteArray).extract ((ji37) : Int).toNat ((((ji37) + 1) % 256) : Int).toNat)) ++ ((⟨#[48, 49, 50, 51, 52, 53, 54, 55, 56, 57, 65, 66, 67, 68, 69, 70]⟩ : ByteArray).extract ((Int.tmod (bt a0 x6_1) 16) : Int).toNat ((((Int.tmod (bt a0 x6_1) 16) + 1) % 256) : Int).toNat)) (wrap64 (x6_1 + 1))) else (none)) else (none)) else (none)) else (none)) else (none)) else (none)) else (none)) else (none)) = some r := by first | (rw [hji37] at H; exact H) | (simp only [hji37] at H ⊢; exact H)
                (try rw [hji37] at A6)
                by_cases c38 : 0 ≤ (ji37)
                · rw [if_pos c38] at H
                  have c38b0 := eq_true c38
                  have c38b1 : decide (0 ≤ (ji37)) = true := decide_eq_true c38
                  clear c38
                  by_cases c39 : (ji37) ≤ (((ji37) + 1) % 256)
                  · rw [if_pos c39] at H
                    have c39b0 := eq_true c39
                    have c39b1 : decide ((ji37) ≤ (((ji37) + 1) % 256)) = true := decide_eq_true c39
                    by_cases c40 : (((ji37) + 1) % 256) ≤ 16
                    · rw [if_pos c40] at H
                      have c40b0 := eq_true c40
                      have c40b1 : decide ((((ji37) + 1) % 256) ≤ 16) = true := decide_eq_true c40
                      by_cases c41 : (x5_1 ++ (⟨#[37]⟩ : ByteArray)).size + ((⟨#[48, 49, 50, 51, 52, 53, 54, 55, 56, 57, 65, 66, 67, 68, 69, 70]⟩ : ByteArray).extract ((ji37) : Int).toNat ((((ji37) + 1) % 256) : Int).toNat).size ≤ 9223372036854775807
                      · rw [if_pos c41] at H
                        have c41b0 := eq_true c41
                        have c41b1 : decide ((x5_1 ++ (⟨#[37]⟩ : ByteArray)).size + ((⟨#[48, 49, 50, 51, 52, 53, 54, 55, 56, 57, 65, 66, 67, 68, 69, 70]⟩ : ByteArray).extract ((ji37) : Int).toNat ((((ji37) + 1) % 256) : Int).toNat).size ≤ 9223372036854775807) = true := decide_eq_true c41
                        try have c41b2 : (9223372036854775807 < (x5_1 ++ (⟨#[37]⟩ : ByteArray)).size + ((⟨#[48, 49, 50, 51, 52, 53, 54, 55, 56, 57, 65, 66, 67, 68, 69, 70]⟩ : ByteArray).extract ((ji37) : Int).toNat ((((ji37) + 1) % 256) : Int).toNat).size) = False := eq_false (Nat.not_lt.2 c41)
                        try have c41z := c41
                        try simp only [ByteArray.size_append, show (⟨#[37]⟩ : ByteArray).size = 1 from rfl, show (⟨#[48, 49, 50, 51, 52, 53, 54, 55, 56, 57, 65, 66, 67, 68, 69, 70]⟩ : ByteArray).size = 16 from rfl, show ((⟨#[48, 49, 50, 51, 52, 53, 54, 55, 56, 57, 65, 66, 67, 68, 69, 70]⟩ : ByteArray).extract ((ji37) : Int).toNat ((((ji37) + 1) % 256) : Int).toNat).size = ((((ji37) + 1) % 256) : Int).toNat - ((ji37) : Int).toNat from (by have h_ : ((((ji37) + 1) % 256) : Int) ≤ 16 := of_decide_eq_true (by first | (with_reducible assumption) | assumption); have e_ : (⟨#[48, 49, 50, 51, 52, 53, 54, 55, 56, 57, 65, 66, 67, 68, 69, 70]⟩ : ByteArray).size = 16 := rfl; rw [ByteArray.size_extract, e_]; omega)] at c41z
                        try have c41y := eq_true c41z
                        try have c41x := decide_eq_true c41z
                        try have c41v := eq_false (Nat.not_lt.2 c41z)
                        try clear c41z
                        obtain ⟨ji44, hji44⟩ : ∃ j_ : Int, (Int.tmod (bt a0 x6_1) 16) = j_ := ⟨_, rfl⟩
                        replace H : (if 0 ≤ (ji44) then (if (ji44) ≤ (((ji44) + 1) % 256) then (if (((ji44) + 1) % 256) ≤ 16 then (if ((x5_1 ++ (⟨#[37]⟩ : ByteArray)) ++ ((⟨#[48, 49, 50, 51, 52, 53, 54, 55, 56, 57, 65, 66, 67, 68, 69, 70]⟩ : ByteArray).extract ((ji37) : Int).toNat ((((ji37) + 1) % 256) : Int).toNat)).size + ((⟨#[48, 49, 50, 51, 52, 53, 54, 55, 56, 57, 65, 66, 67, 68, 69, 70]⟩ : ByteArray).extract ((ji44) : Int).toNat ((((ji44) + 1) % 256) : Int).toNat).size ≤ 9223372036854775807 then (shadowboxref28_Encode.l0 k1 a0 false (((x5_1 ++ (⟨#[37]⟩ : ByteArray)) ++ ((⟨#[48, 49, 50, 51, 52, 53, 54, 55, 56, 57, 65, 66, 67, 68, 69, 70]⟩ : ByteArray).extract ((ji37) : Int).toNat ((((ji37) + 1) % 256) : Int).toNat)) ++ ((⟨#[48, 49, 50, 51, 52, 53, 54, 55, 56, 57, 65, 66, 67, 68, 69, 70]⟩ : ByteArray).extract ((ji44) : Int).toNat ((((ji44) + 1) % 256) : Int).toNat)) (wrap64 (x6_1 + 1))) else (none)) else (none)) else (none)) else (none)) = some r := by first | (rw [hji44] at H; exact H) | (simp only [hji44] at H ⊢; exact H)
                        (try rw [hji44] at A6)
                        by_cases c45 : 0 ≤ (ji44)
                        · rw [if_pos c45] at H
                          have c45b0 := eq_true c45
                          have c45b1 : decide (0 ≤ (ji44)) = true := decide_eq_true c45
                          clear c45
                          by_cases c46 : (ji44) ≤ (((ji44) + 1) % 256)
                          · rw [if_pos c46] at H
                            have c46b0 := eq_true c46
                            have c46b1 : decide ((ji44) ≤ (((ji44) + 1) % 256)) = true := decide_eq_true c46
                            by_cases c47 : (((ji44) + 1) % 256) ≤ 16
                            · rw [if_pos c47] at H
                              have c47b0 := eq_true c47
                              have c47b1 : decide ((((ji44) + 1) % 256) ≤ 16) = true := decide_eq_true c47
                              by_cases c48 : ((x5_1 ++ (⟨#[37]⟩ : ByteArray)) ++ ((⟨#[48, 49, 50, 51, 52, 53, 54, 55, 56, 57, 65, 66, 67, 68, 69, 70]⟩ : ByteArray).extract ((ji37) : Int).toNat ((((ji37) + 1) % 256) : Int).toNat)).size + ((⟨#[48, 49, 50, 51, 52, 53, 54, 55, 56, 57, 65, 66, 67, 68, 69, 70]⟩ : ByteArray).extract ((ji44) : Int).toNat ((((ji44) + 1) % 256) : Int).toNat).size ≤ 9223372036854775807
                              · rw [if_pos c48] at H
                                have c48b0 := eq_true c48
                                have c48b1 : decide (((x5_1 ++ (⟨#[37]⟩ : ByteArray)) ++ ((⟨#[48, 49, 50, 51, 52, 53, 54, 55, 56, 57, 65, 66, 67, 68, 69, 70]⟩ : ByteArray).extract ((ji37) : Int).toNat ((((ji37) + 1) % 256) : Int).toNat)).size + ((⟨#[48, 49, 50, 51, 52, 53, 54, 55, 56, 57, 65, 66, 67, 68, 69, 70]⟩ : ByteArray).extract ((ji44) : Int).toNat ((((ji44) + 1) % 256) : Int).toNat).size ≤ 9223372036854775807) = true := decide_eq_true c48
                                try have c48b2 : (9223372036854775807 < ((x5_1 ++ (⟨#[37]⟩ : ByteArray)) ++ ((⟨#[48, 49, 50, 51, 52, 53, 54, 55, 56, 57, 65, 66, 67, 68, 69, 70]⟩ : ByteArray).extract ((ji37) : Int).toNat ((((ji37) + 1) % 256) : Int).toNat)).size + ((⟨#[48, 49, 50, 51, 52, 53, 54, 55, 56, 57, 65, 66, 67, 68, 69, 70]⟩ : ByteArray).extract ((ji44) : Int).toNat ((((ji44) + 1) % 256) : Int).toNat).size) = False := eq_false (Nat.not_lt.2 c48)
                                try have c48z := c48
                                try simp only [ByteArray.size_append, show (⟨#[37]⟩ : ByteArray).size = 1 from rfl, show (⟨#[48, 49, 50, 51, 52, 53, 54, 55, 56, 57, 65, 66, 67, 68, 69, 70]⟩ : ByteArray).size = 16 from rfl, show ((⟨#[48, 49, 50, 51, 52, 53, 54, 55, 56, 57, 65, 66, 67, 68, 69, 70]⟩ : ByteArray).extract ((ji37) : Int).toNat ((((ji37) + 1) % 256) : Int).toNat).size = ((((ji37) + 1) % 256) : Int).toNat - ((ji37) : Int).toNat from (by have h_ : ((((ji37) + 1) % 256) : Int) ≤ 16 := of_decide_eq_true (by first | (with_reducible assumption) | assumption); have e_ : (⟨#[48, 49, 50, 51, 52, 53, 54, 55, 56, 57, 65, 66, 67, 68, 69, 70]⟩ : ByteArray).size = 16 := rfl; rw [ByteArray.size_extract, e_]; omega), show ((⟨#[48, 49, 50, 51, 52, 53, 54, 55, 56, 57, 65, 66, 67, 68, 69, 70]⟩ : ByteArray).extract ((ji44) : Int).toNat ((((ji44) + 1) % 256) : Int).toNat).size = ((((ji44) + 1) % 256) : Int).toNat - ((ji44) : Int).toNat from (by have h_ : ((((ji44) + 1) % 256) : Int) ≤ 16 := of_decide_eq_true (by first | (with_reducible assumption) | assumption); have e_ : (⟨#[48, 49, 50, 51, 52, 53, 54, 55, 56, 57, 65, 66, 67, 68, 69, 70]⟩ : ByteArray).size = 16 := rfl; rw [ByteArray.size_extract, e_]; omega)] at c48z
                                try have c48y := eq_true c48z
                                try have c48x := decide_eq_true c48z
                                try have c48v := eq_false (Nat.not_lt.2 c48z)
                                try clear c48z
                                have H' := Aside0.mk H
                                clear H
                                have p5 : 0 ≤ (x6_1 : Int) := of_decide_eq_true (by first | (with_reducible assumption) | assumption)
                                have q5 : x6_1 < (a0.size : Int) := of_decide_eq_true (by first | (with_reducible assumption) | assumption)
                                have hx5 := bt_at a0 x6_1
                                replace p5 := eq_true p5
                                replace q5 := eq_true q5
                                go_wp2_with (first | (go_at_call 39; (with_reducible refine (shadowboxref28_Plain.calls k1 (bt a0 x6_1) false _ A6.out).mono ?_); rintro e w' ⟨rfl, ⟨nd, rfl⟩⟩; (try first | exact ⟨rfl, _, World.drewN_drewN _ _ _⟩ | exact ⟨rfl, _, Eq.trans (World.drewN_drewN _ _ _) (congrArg (World.drewN _) (Nat.add_assoc _ _ _))⟩); have p35 : 0 ≤ (x6_1 : Int) := of_decide_eq_true (by first | (with_reducible assumption) | assumption); have q35 : x6_1 < (a0.size : Int) := of_decide_eq_true (by first | (with_reducible assumption) | assumption); have hx35 := bt_at a0 x6_1; replace p35 := eq_true p35; replace q35 := eq_true q35; have p36 : 0 ≤ (x6_1 : Int) := of_decide_eq_true (by first | (with_reducible assumption) | assumption); have q36 : x6_1 < (a0.size : Int) := of_decide_eq_true (by first | (with_reducible assumption) | assumption); have hx36 := bt_at a0 x6_1; replace p36 := eq_true p36; replace q36 := eq_true q36; have p42 : 0 ≤ (x6_1 : Int) := of_decide_eq_true (by first | (with_reducible assumption) | assumption); have q42 : x6_1 < (a0.size : Int) := of_decide_eq_true (by first | (with_reducible assumption) | assumption); have hx42 := bt_at a0 x6_1; replace p42 := eq_true p42; replace q42 := eq_true q42; have p43 : 0 ≤ (x6_1 : Int) := of_decide_eq_true (by first | (with_reducible assumption) | assumption); have q43 : x6_1 < (a0.size : Int) := of_decide_eq_true (by first | (with_reducible assumption) | assumption); have hx43 := bt_at a0 x6_1; replace p43 := eq_true p43; replace q43 := eq_true q43))
                                repeat (go_quiet (first | (go_at_call 39; (with_reducible refine (shadowboxref28_Plain.calls k1 (bt a0 x6_1) false _ A6.out).mono ?_); rintro e w' ⟨rfl, ⟨nd, rfl⟩⟩; (try first | exact ⟨rfl, _, World.drewN_drewN _ _ _⟩ | exact ⟨rfl, _, Eq.trans (World.drewN_drewN _ _ _) (congrArg (World.drewN _) (Nat.add_assoc _ _ _))⟩); have p35 : 0 ≤ (x6_1 : Int) := of_decide_eq_true (by first | (with_reducible assumption) | assumption); have q35 : x6_1 < (a0.size : Int) := of_decide_eq_true (by first | (with_reducible assumption) | assumption); have hx35 := bt_at a0 x6_1; replace p35 := eq_true p35; replace q35 := eq_true q35; have p36 : 0 ≤ (x6_1 : Int) := of_decide_eq_true (by first | (with_reducible assumption) | assumption); have q36 : x6_1 < (a0.size : Int) := of_decide_eq_true (by first | (with_reducible assumption) | assumption); have hx36 := bt_at a0 x6_1; replace p36 := eq_true p36; replace q36 := eq_true q36; have p42 : 0 ≤ (x6_1 : Int) := of_decide_eq_true (by first | (with_reducible assumption) | assumption); have q42 : x6_1 < (a0.size : Int) := of_decide_eq_true (by first | (with_reducible assumption) | assumption); have hx42 := bt_at a0 x6_1; replace p42 := eq_true p42; replace q42 := eq_true q42; have p43 : 0 ≤ (x6_1 : Int) := of_decide_eq_true (by first | (with_reducible assumption) | assumption); have q43 : x6_1 < (a0.size : Int) := of_decide_eq_true (by first | (with_reducible assumption) | assumption); have hx43 := bt_at a0 x6_1; replace p43 := eq_true p43; replace q43 := eq_true q43)); try go_wp2_with (first | (go_at_call 39; (with_reducible refine (shadowboxref28_Plain.calls k1 (bt a0 x6_1) false _ A6.out).mono ?_); rintro e w' ⟨rfl, ⟨nd, rfl⟩⟩; (try first | exact ⟨rfl, _, World.drewN_drewN _ _ _⟩ | exact ⟨rfl, _, Eq.trans (World.drewN_drewN _ _ _) (congrArg (World.drewN _) (Nat.add_assoc _ _ _))⟩); have p35 : 0 ≤ (x6_1 : Int) := of_decide_eq_true (by first | (with_reducible assumption) | assumption); have q35 : x6_1 < (a0.size : Int) := of_decide_eq_true (by first | (with_reducible assumption) | assumption); have hx35 := bt_at a0 x6_1; replace p35 := eq_true p35; replace q35 := eq_true q35; have p36 : 0 ≤ (x6_1 : Int) := of_decide_eq_true (by first | (with_reducible assumption) | assumption); have q36 : x6_1 < (a0.size : Int) := of_decide_eq_true (by first | (with_reducible assumption) | assumption); have hx36 := bt_at a0 x6_1; replace p36 := eq_true p36; replace q36 := eq_true q36; have p42 : 0 ≤ (x6_1 : Int) := of_decide_eq_true (by first | (with_reducible assumption) | assumption); have q42 : x6_1 < (a0.size : Int) := of_decide_eq_true (by first | (with_reducible assumption) | assumption); have hx42 := bt_at a0 x6_1; replace p42 := eq_true p42; replace q42 := eq_true q42; have p43 : 0 ≤ (x6_1 : Int) := of_decide_eq_true (by first | (with_reducible assumption) | assumption); have q43 : x6_1 < (a0.size : Int) := of_decide_eq_true (by first | (with_reducible assumption) | assumption); have hx43 := bt_at a0 x6_1; replace p43 := eq_true p43; replace q43 := eq_true q43)))
                                go_roundg k1
                                case measure => have := HK1.out; omega
                                case rel => exact ⟨(((x5_1 ++ (⟨#[37]⟩ : ByteArray)) ++ ((⟨#[48, 49, 50, 51, 52, 53, 54, 55, 56, 57, 65, 66, 67, 68, 69, 70]⟩ : ByteArray).extract ((ji37) : Int).toNat ((((ji37) + 1) % 256) : Int).toNat)) ++ ((⟨#[48, 49, 50, 51, 52, 53, 54, 55, 56, 57, 65, 66, 67, 68, 69, 70]⟩ : ByteArray).extract ((ji44) : Int).toNat ((((ji44) + 1) % 256) : Int).toNat)), (wrap64 (x6_1 + 1)), (by first | rfl | (simp; done) | (simp only [← hji37, ← hji44] <;> (first | rfl | simp)) | (simp [*]; done)), (by first | rfl | (simp; done) | (simp [*]; done)), H', ⟨by have := HK1.out; omega⟩, by repeat (first | exact Drawn0.refl _ | apply Drawn0.step)⟩
                              · rw [if_neg c48] at H
                                exact absurd H (by simp)
                            · rw [if_neg c47] at H
                              exact absurd H (by simp)
                          · rw [if_neg c46] at H
                            exact absurd H (by simp)
                        · rw [if_neg c45] at H
                          exact absurd H (by simp)
                      · rw [if_neg c41] at H
                        exact absurd H (by simp)
                    · rw [if_neg c40] at H
                      exact absurd H (by simp)
                  · rw [if_neg c39] at H
                    exact absurd H (by simp)
                · rw [if_neg c38] at H
                  exact absurd H (by simp)
              · rw [if_neg c34] at H
                exact absurd H (by simp)
        · rw [if_neg c4] at H
          exact absurd H (by simp)
      · rw [if_neg c3] at H
        have c3b0 : decide (x6_1 < (a0.size : Int)) = false := decide_eq_false c3
        clear c3
        obtain rfl := Option.some.inj H
        go_wp2
        repeat (go_quiet (fail); try go_wp2)
        go_ret
        exact ⟨by first | rfl | (simp; done) | (simp [*]; done), by repeat (first | exact Drawn0.refl _ | apply Drawn0.step)⟩

end Go.Proofs.Ytdfghdppbfabfaa.P

namespace Go.Proofs.Ytdfghdppbfabfaa.P
open Go.RowKit Go.Proofs.YtdfghdppbfabfaaW.PrintWords Go.Proofs.YtdfghdppbfabfaaW.PrintLast Go.Proofs.YtdfghdppbfabfaaW.PrintMore
attribute [local go_sem] max2_int min2_int max_two min_two max_three min_three max_four min_four   -- for this text's walks alone
set_option linter.unusedVariables false
set_option linter.unusedSimpArgs false

/-! ### shadowboxlaw28_PercentTells: function 8 -/
def shadowboxlaw28_PercentTells.j0 : Nat → ByteArray → Bool → Int → Option (Bool)
  | 0, _, _, _ => none
  | k + 1, x0, x1, x2 => (percent_Decode.f k x0).bind fun bt548 => ((shadowboxref28_Decode.f k x0).bind fun bt550 => ((percent_Path.f k x0).bind fun bt552 => ((shadowboxref28_Path.f k x0).bind fun bt555 => ((percent_Encode.f k x0 x1).bind fun t558 => ((shadowboxref28_Encode.f k x0 x1).bind fun t559 => (if t558.toList = t559.toList then (if bt548.1.toList = bt550.1.toList then (if (bt548.2 == bt550.2) = true then ((percent_Plain.f x2).bind fun t560 => ((shadowboxref28_Plain.f k x2).bind fun t561 => (if (t560 == t561) = true then (if bt552.1.toList = bt555.1.toList then (if bt552.2.1.toList = bt555.2.1.toList then (if (bt552.2.2 == bt555.2.2) = true then ((percent_Encode.f k (⟨#[97, 32, 98, 47, 99]⟩ : ByteArray) true).bind fun t562 => (some (t562.toList == ([97, 37, 50, 48, 98, 47, 99] : List UInt8)))) else (some false)) else (some false)) else (some false)) else (some false)))) else (some false)) else (some false)) else (some false)))))))
def shadowboxlaw28_PercentTells.f (k : Nat) (a0 : ByteArray) (a1 : Bool) (a2 : Int) : Option (Bool) := if (a0.size : Int) > 1000 then (if 0 ≤ 1000 then (if 1000 ≤ (a0.size : Int) then (shadowboxlaw28_PercentTells.j0 k (a0.extract 0 1000) a1 a2) else (none)) else (none)) else (shadowboxlaw28_PercentTells.j0 k a0 a1 a2)
theorem shadowboxlaw28_PercentTells.mono_l : ∀ k, (∀ y0 y1 y2, LeO (shadowboxlaw28_PercentTells.j0 k y0 y1 y2) (shadowboxlaw28_PercentTells.j0 (k + 1) y0 y1 y2))
  | 0 => fun _ _ _ r h => by simp [shadowboxlaw28_PercentTells.j0] at h
  | k + 1 => by
    have ih0 := shadowboxlaw28_PercentTells.mono_l k
    · intro y0 y1 y2
      unfold shadowboxlaw28_PercentTells.j0
      repeat' first
      | (with_reducible exact ih0 _ _ _)
      | (with_reducible exact percent_Decode.mono _ _)
      | (with_reducible exact percent_Encode.mono _ _ _)
      | (with_reducible exact percent_Path.mono _ _)
      | (with_reducible exact shadowboxref28_Decode.mono _ _)
      | (with_reducible exact shadowboxref28_Encode.mono _ _ _)
      | (with_reducible exact shadowboxref28_Path.mono _ _)
      | (with_reducible exact shadowboxref28_Plain.mono _ _)
      | (with_reducible exact LeO.refl _)
      | (with_reducible exact LeO.none _)
      | (with_reducible refine LeO.ite ?_ ?_)
      | (with_reducible refine LeO.bind ?_ (fun _ => ?_))
      | exact ih0 _ _ _
      | exact percent_Decode.mono _ _
      | exact percent_Encode.mono _ _ _
      | exact percent_Path.mono _ _
      | exact shadowboxref28_Decode.mono _ _
      | exact shadowboxref28_Encode.mono _ _ _
      | exact shadowboxref28_Path.mono _ _
      | exact shadowboxref28_Plain.mono _ _
      | exact LeO.none _
      | refine LeO.ite ?_ ?_
      | refine LeO.bind ?_ (fun _ => ?_)
theorem shadowboxlaw28_PercentTells.mono : ∀ a0 a1 a2 k, LeO (shadowboxlaw28_PercentTells.f k a0 a1 a2) (shadowboxlaw28_PercentTells.f (k + 1) a0 a1 a2) := by
  intro a0 a1 a2 k
  have ih0 := shadowboxlaw28_PercentTells.mono_l k
  unfold shadowboxlaw28_PercentTells.f
  repeat' first
      | (with_reducible exact ih0 _ _ _)
      | (with_reducible exact percent_Decode.mono _ _)
      | (with_reducible exact percent_Encode.mono _ _ _)
      | (with_reducible exact percent_Path.mono _ _)
      | (with_reducible exact shadowboxref28_Decode.mono _ _)
      | (with_reducible exact shadowboxref28_Encode.mono _ _ _)
      | (with_reducible exact shadowboxref28_Path.mono _ _)
      | (with_reducible exact shadowboxref28_Plain.mono _ _)
      | (with_reducible exact LeO.refl _)
      | (with_reducible exact LeO.none _)
      | (with_reducible refine LeO.ite ?_ ?_)
      | (with_reducible refine LeO.bind ?_ (fun _ => ?_))
      | exact ih0 _ _ _
      | exact percent_Decode.mono _ _
      | exact percent_Encode.mono _ _ _
      | exact percent_Path.mono _ _
      | exact shadowboxref28_Decode.mono _ _
      | exact shadowboxref28_Encode.mono _ _ _
      | exact shadowboxref28_Path.mono _ _
      | exact shadowboxref28_Plain.mono _ _
      | exact LeO.none _
      | refine LeO.ite ?_ ?_
      | refine LeO.bind ?_ (fun _ => ?_)
set_option maxHeartbeats 8000000 in
set_option maxRecDepth 100000 in
theorem shadowboxlaw28_PercentTells.calls (k : Nat) (a0 : ByteArray) (a1 : Bool) (a2 : Int) (r : Bool) (w : World) (h : shadowboxlaw28_PercentTells.f k a0 a1 a2 = some r) (hr : Aside0 (r = true)) :
    Calls Try.prog 8 #[.string a0, .bool a1, .int .u8 a2] w fun e w' => e = .returned (.bool r) ∧ Below w.heap.size w w' := by
  have HB := Aside0.mk (Below.refl w.heap.size w)
  have H : (if (a0.size : Int) > 1000 then (if 0 ≤ 1000 then (if 1000 ≤ (a0.size : Int) then (shadowboxlaw28_PercentTells.j0 k (a0.extract 0 1000) a1 a2) else (none)) else (none)) else (shadowboxlaw28_PercentTells.j0 k a0 a1 a2)) = some r := h
  clear h
  have HC4 := Aside0.mk H
  clear H
  go_enter Try.func8, Try.ntmps8
  go_upto_if 19 with (fail)
  go_cut [0] (fun v0 wc => ∃ (kq : Nat) (x0_3 : ByteArray), v0 = .string x0_3 ∧ Aside0 (shadowboxlaw28_PercentTells.j0 kq x0_3 a1 a2 = some r) ∧ Aside0 (kq ≤ k) ∧ Aside0 (Below w.heap.size w wc))
  case first =>
    have H := HC4.out
    clear HC4
    by_cases c5 : (a0.size : Int) > 1000
    · rw [if_pos c5] at H
      have c5b0 : decide (1000 < (a0.size : Int)) = true := decide_eq_true c5
      have c5b1 : decide (1000 < a0.size) = true := decide_eq_true (by omega)
      clear c5
      (first | rw [c5b0] | (simp only [i64_w, i32_w]; rw [c5b0]) | skip)
      by_cases c6 : 0 ≤ 1000
      · rw [if_pos c6] at H
        have c6b0 := eq_true c6
        have c6b1 : decide (0 ≤ 1000) = true := decide_eq_true c6
        clear c6
        by_cases c7 : 1000 ≤ (a0.size : Int)
        · rw [if_pos c7] at H
          have c7b0 := eq_true c7
          have c7b1 : decide (1000 ≤ (a0.size : Int)) = true := decide_eq_true c7
          clear c7
          have H' := Aside0.mk H
          clear H
          go_wp2
          go_meet
          case rel => exact ⟨_, (a0.extract 0 1000), (by first | rfl | (simp; done) | (simp [*]; done)), H', ⟨by first | omega | exact Nat.le_refl _⟩, ⟨by repeat (first | (with_reducible first | exact HB.out | apply below_alloc | apply pw_below_drewN | apply below_drew1) | exact HB.out)⟩⟩
        · rw [if_neg c7] at H
          exact absurd H (by simp)
      · rw [if_neg c6] at H
        exact absurd H (by simp)
    · rw [if_neg c5] at H
      have c5b0 : decide (1000 < (a0.size : Int)) = false := decide_eq_false c5
      have c5b1 : decide (1000 < a0.size) = false := decide_eq_false (by omega)
      clear c5
      (first | rw [c5b0] | (simp only [i64_w, i32_w]; rw [c5b0]) | skip)
      have H' := Aside0.mk H
      clear H
      go_wp2
      go_meet
      case rel => exact ⟨_, (a0), (by first | rfl | (simp; done) | (simp [*]; done)), H', ⟨by first | omega | exact Nat.le_refl _⟩, ⟨by repeat (first | (with_reducible first | exact HB.out | apply below_alloc | apply pw_below_drewN | apply below_drew1) | exact HB.out)⟩⟩
  case rest =>
    clear HC4
    try clear p2
    try clear c5
    try clear c5b0
    try clear c5b1
    try clear c6
    try clear c6b0
    try clear c6b1
    try clear c7
    try clear c7b0
    try clear c7b1
    obtain ⟨kq, x0_3, rfl, HA, HJ3, HB⟩ := hcut
    cases kq with
    | zero => exact absurd HA.out (by simp [shadowboxlaw28_PercentTells.j0])
    | succ kj3 =>
      have H := HA.out
      clear HA
      simp only [shadowboxlaw28_PercentTells.j0] at H
      replace H := Option.bind_eq_some_iff.mp H
      obtain ⟨⟨t548, t549⟩, A80, H⟩ := H
      replace H : ((shadowboxref28_Decode.f kj3 x0_3).bind fun bt550 => ((percent_Path.f kj3 x0_3).bind fun bt552 => ((shadowboxref28_Path.f kj3 x0_3).bind fun bt555 => ((percent_Encode.f kj3 x0_3 a1).bind fun t558 => ((shadowboxref28_Encode.f kj3 x0_3 a1).bind fun t559 => (if t558.toList = t559.toList then (if t548.toList = bt550.1.toList then (if (t549 == bt550.2) = true then ((percent_Plain.f a2).bind fun t560 => ((shadowboxref28_Plain.f kj3 a2).bind fun t561 => (if (t560 == t561) = true then (if bt552.1.toList = bt555.1.toList then (if bt552.2.1.toList = bt555.2.1.toList then (if (bt552.2.2 == bt555.2.2) = true then ((percent_Encode.f kj3 (⟨#[97, 32, 98, 47, 99]⟩ : ByteArray) true).bind fun t562 => (some (t562.toList == ([97, 37, 50, 48, 98, 47, 99] : List UInt8)))) else (some false)) else (some false)) else (some false)) else (some false)))) else (some false)) else (some false)) else (some false))))))) = some r := H
      have A8 := Aside0.mk A80
      clear A80
      replace H := Option.bind_eq_some_iff.mp H
      obtain ⟨⟨t550, t551⟩, A90, H⟩ := H
      replace H : ((percent_Path.f kj3 x0_3).bind fun bt552 => ((shadowboxref28_Path.f kj3 x0_3).bind fun bt555 => ((percent_Encode.f kj3 x0_3 a1).bind fun t558 => ((shadowboxref28_Encode.f kj3 x0_3 a1).bind fun t559 => (if t558.toList = t559.toList then (if t548.toList = t550.toList then (if (t549 == t551) = true then ((percent_Plain.f a2).bind fun t560 => ((shadowboxref28_Plain.f kj3 a2).bind fun t561 => (if (t560 == t561) = true then (if bt552.1.toList = bt555.1.toList then (if bt552.2.1.toList = bt555.2.1.toList then (if (bt552.2.2 == bt555.2.2) = true then ((percent_Encode.f kj3 (⟨#[97, 32, 98, 47, 99]⟩ : ByteArray) true).bind fun t562 => (some (t562.toList == ([97, 37, 50, 48, 98, 47, 99] : List UInt8)))) else (some false)) else (some false)) else (some false)) else (some false)))) else (some false)) else (some false)) else (some false)))))) = some r := H
      have A9 := Aside0.mk A90
      clear A90
      replace H := Option.bind_eq_some_iff.mp H
      obtain ⟨⟨t552, t553, t554⟩, A100, H⟩ := H
      replace H : ((shadowboxref28_Path.f kj3 x0_3).bind fun bt555 => ((percent_Encode.f kj3 x0_3 a1).bind fun t558 => ((shadowboxref28_Encode.f kj3 x0_3 a1).bind fun t559 => (if t558.toList = t559.toList then (if t548.toList = t550.toList then (if (t549 == t551) = true then ((percent_Plain.f a2).bind fun t560 => ((shadowboxref28_Plain.f kj3 a2).bind fun t561 => (if (t560 == t561) = true then (if t552.toList = bt555.1.toList then (if t553.toList = bt555.2.1.toList then (if (t554 == bt555.2.2) = true then ((percent_Encode.f kj3 (⟨#[97, 32, 98, 47, 99]⟩ : ByteArray) true).bind fun t562 => (some (t562.toList == ([97, 37, 50, 48, 98, 47, 99] : List UInt8)))) else (some false)) else (some false)) else (some false)) else (some false)))) else (some false)) else (some false)) else (some false))))) = some r := H
      have A10 := Aside0.mk A100
      clear A100
      replace H := Option.bind_eq_some_iff.mp H
      obtain ⟨⟨t555, t556, t557⟩, A110, H⟩ := H
      replace H : ((percent_Encode.f kj3 x0_3 a1).bind fun t558 => ((shadowboxref28_Encode.f kj3 x0_3 a1).bind fun t559 => (if t558.toList = t559.toList then (if t548.toList = t550.toList then (if (t549 == t551) = true then ((percent_Plain.f a2).bind fun t560 => ((shadowboxref28_Plain.f kj3 a2).bind fun t561 => (if (t560 == t561) = true then (if t552.toList = t555.toList then (if t553.toList = t556.toList then (if (t554 == t557) = true then ((percent_Encode.f kj3 (⟨#[97, 32, 98, 47, 99]⟩ : ByteArray) true).bind fun t562 => (some (t562.toList == ([97, 37, 50, 48, 98, 47, 99] : List UInt8)))) else (some false)) else (some false)) else (some false)) else (some false)))) else (some false)) else (some false)) else (some false)))) = some r := H
      have A11 := Aside0.mk A110
      clear A110
      replace H := Option.bind_eq_some_iff.mp H
      obtain ⟨t558, A120, H⟩ := H
      replace H : ((shadowboxref28_Encode.f kj3 x0_3 a1).bind fun t559 => (if t558.toList = t559.toList then (if t548.toList = t550.toList then (if (t549 == t551) = true then ((percent_Plain.f a2).bind fun t560 => ((shadowboxref28_Plain.f kj3 a2).bind fun t561 => (if (t560 == t561) = true then (if t552.toList = t555.toList then (if t553.toList = t556.toList then (if (t554 == t557) = true then ((percent_Encode.f kj3 (⟨#[97, 32, 98, 47, 99]⟩ : ByteArray) true).bind fun t562 => (some (t562.toList == ([97, 37, 50, 48, 98, 47, 99] : List UInt8)))) else (some false)) else (some false)) else (some false)) else (some false)))) else (some false)) else (some false)) else (some false))) = some r := H
      have A12 := Aside0.mk A120
      clear A120
      replace H := Option.bind_eq_some_iff.mp H
      obtain ⟨t559, A130, H⟩ := H
      replace H : (if t558.toList = t559.toList then (if t548.toList = t550.toList then (if (t549 == t551) = true then ((percent_Plain.f a2).bind fun t560 => ((shadowboxref28_Plain.f kj3 a2).bind fun t561 => (if (t560 == t561) = true then (if t552.toList = t555.toList then (if t553.toList = t556.toList then (if (t554 == t557) = true then ((percent_Encode.f kj3 (⟨#[97, 32, 98, 47, 99]⟩ : ByteArray) true).bind fun t562 => (some (t562.toList == ([97, 37, 50, 48, 98, 47, 99] : List UInt8)))) else (some false)) else (some false)) else (some false)) else (some false)))) else (some false)) else (some false)) else (some false)) = some r := H
      have A13 := Aside0.mk A130
      clear A130
      by_cases c14 : t558.toList = t559.toList
      · rw [if_pos c14] at H
        have c14b0 : (t558.toList == t559.toList) = true := beq_iff_eq.mpr c14
        have c14b1 : (t558.toList != t559.toList) = false := bne_eq_false_iff_eq.mpr c14
        clear c14
        by_cases c15 : t548.toList = t550.toList
        · rw [if_pos c15] at H
          have c15b0 : (t548.toList == t550.toList) = true := beq_iff_eq.mpr c15
          have c15b1 : (t548.toList != t550.toList) = false := bne_eq_false_iff_eq.mpr c15
          clear c15
          by_cases c16 : (t549 == t551) = true
          · rw [if_pos c16] at H
            have c16b0 : (t549 == t551) = true := c16
            (try (have c16b1 : decide (t549 = t551) = true := by simpa using c16))
            (try (have c16b2 : (t549 == t551) = true := by simpa using c16))
            clear c16
            replace H := Option.bind_eq_some_iff.mp H
            obtain ⟨t560, A170, H⟩ := H
            replace H : ((shadowboxref28_Plain.f kj3 a2).bind fun t561 => (if (t560 == t561) = true then (if t552.toList = t555.toList then (if t553.toList = t556.toList then (if (t554 == t557) = true then ((percent_Encode.f kj3 (⟨#[97, 32, 98, 47, 99]⟩ : ByteArray) true).bind fun t562 => (some (t562.toList == ([97, 37, 50, 48, 98, 47, 99] : List UInt8)))) else (some false)) else (some false)) else (some false)) else (some false))) = some r := H
            have A17 := Aside0.mk A170
            clear A170
            replace H := Option.bind_eq_some_iff.mp H
            obtain ⟨t561, A180, H⟩ := H
            replace H : (if (t560 == t561) = true then (if t552.toList = t555.toList then (if t553.toList = t556.toList then (if (t554 == t557) = true then ((percent_Encode.f kj3 (⟨#[97, 32, 98, 47, 99]⟩ : ByteArray) true).bind fun t562 => (some (t562.toList == ([97, 37, 50, 48, 98, 47, 99] : List UInt8)))) else (some false)) else (some false)) else (some false)) else (some false)) = some r := H
            have A18 := Aside0.mk A180
            clear A180
            by_cases c19 : (t560 == t561) = true
            · rw [if_pos c19] at H
              have c19b0 : (t560 == t561) = true := c19
              (try (have c19b1 : decide (t560 = t561) = true := by simpa using c19))
              (try (have c19b2 : (t560 == t561) = true := by simpa using c19))
              clear c19
              by_cases c20 : t552.toList = t555.toList
              · rw [if_pos c20] at H
                have c20b0 : (t552.toList == t555.toList) = true := beq_iff_eq.mpr c20
                have c20b1 : (t552.toList != t555.toList) = false := bne_eq_false_iff_eq.mpr c20
                clear c20
                by_cases c21 : t553.toList = t556.toList
                · rw [if_pos c21] at H
                  have c21b0 : (t553.toList == t556.toList) = true := beq_iff_eq.mpr c21
                  have c21b1 : (t553.toList != t556.toList) = false := bne_eq_false_iff_eq.mpr c21
                  clear c21
                  by_cases c22 : (t554 == t557) = true
                  · rw [if_pos c22] at H
                    have c22b0 : (t554 == t557) = true := c22
                    (try (have c22b1 : decide (t554 = t557) = true := by simpa using c22))
                    (try (have c22b2 : (t554 == t557) = true := by simpa using c22))
                    clear c22
                    replace H := Option.bind_eq_some_iff.mp H
                    obtain ⟨t562, A230, H⟩ := H
                    replace H : (some (t562.toList == ([97, 37, 50, 48, 98, 47, 99] : List UInt8))) = some r := H
                    have A23 := Aside0.mk A230
                    clear A230
                    obtain rfl := Option.some.inj H
                    go_wp2_with (first | ((with_reducible refine gate_callee (f := 11) rfl ?_); refine goesL_ (some 24) rfl rfl Try.func11 (by kernel_rfl) rfl #[.string x0_3] rfl (by (try simp only [List.map_toArray, List.map_cons, List.map_nil]); first | done | rfl | (simp only [List.length_drop, List.length_take]; rfl)) ?_; (with_reducible refine (percent_Decode.calls kj3 x0_3 t548 t549 _ A8.out).mono ?_); rintro e w24 ⟨rfl, hb⟩; refine ⟨_, rfl, ?_⟩; have n0_ := Aside0.mk (below_step (by repeat (first | (with_reducible first | exact HB.out | apply below_alloc | apply pw_below_drewN | apply below_drew1) | exact HB.out)) hb); clear HB; have HB := n0_; clear n0_; (try clear hb); (try clear hb2); (try clear hk); (try clear hi)) | ((with_reducible refine gate_callee (f := 35) rfl ?_); refine goesL_ (some 29) rfl rfl Try.func35 (by kernel_rfl) rfl #[.string x0_3] rfl (by (try simp only [List.map_toArray, List.map_cons, List.map_nil]); first | done | rfl | (simp only [List.length_drop, List.length_take]; rfl)) ?_; (with_reducible refine (shadowboxref28_Decode.calls kj3 x0_3 t550 t551 _ A9.out).mono ?_); rintro e w25 ⟨rfl, hb⟩; refine ⟨_, rfl, ?_⟩; have n0_ := Aside0.mk (below_step (by repeat (first | (with_reducible first | exact HB.out | apply below_alloc | apply pw_below_drewN | apply below_drew1) | exact HB.out)) hb); clear HB; have HB := n0_; clear n0_; (try clear hb); (try clear hb2); (try clear hk); (try clear hi)) | ((with_reducible refine gate_callee (f := 36) rfl ?_); refine goesL_ (some 34) rfl rfl Try.func36 (by kernel_rfl) rfl #[.string x0_3] rfl (by (try simp only [List.map_toArray, List.map_cons, List.map_nil]); first | done | rfl | (simp only [List.length_drop, List.length_take]; rfl)) ?_; (with_reducible refine (percent_Path.calls kj3 x0_3 t552 t553 t554 _ A10.out).mono ?_); rintro e w26 ⟨rfl, hb⟩; refine ⟨_, rfl, ?_⟩; have n0_ := Aside0.mk (below_step (by repeat (first | (with_reducible first | exact HB.out | apply below_alloc | apply pw_below_drewN | apply below_drew1) | exact HB.out)) hb); clear HB; have HB := n0_; clear n0_; (try clear hb); (try clear hb2); (try clear hk); (try clear hi)) | ((with_reducible refine gate_callee (f := 37) rfl ?_); refine goesL_ (some 40) rfl rfl Try.func37 (by kernel_rfl) rfl #[.string x0_3] rfl (by (try simp only [List.map_toArray, List.map_cons, List.map_nil]); first | done | rfl | (simp only [List.length_drop, List.length_take]; rfl)) ?_; (with_reducible refine (shadowboxref28_Path.calls kj3 x0_3 t555 t556 t557 _ A11.out).mono ?_); rintro e w27 ⟨rfl, hb⟩; refine ⟨_, rfl, ?_⟩; have n0_ := Aside0.mk (below_step (by repeat (first | (with_reducible first | exact HB.out | apply below_alloc | apply pw_below_drewN | apply below_drew1) | exact HB.out)) hb); clear HB; have HB := n0_; clear n0_; (try clear hb); (try clear hb2); (try clear hk); (try clear hi)) | ((with_reducible refine gate_callee (f := 10) rfl ?_); refine goesL_ (some 46) rfl rfl Try.func10 (by kernel_rfl) rfl #[.string x0_3, .bool a1] rfl (by (try simp only [List.map_toArray, List.map_cons, List.map_nil]); first | done | rfl | (simp only [List.length_drop, List.length_take]; rfl)) ?_; (with_reducible refine (percent_Encode.calls kj3 x0_3 a1 t558 _ A12.out).mono ?_); rintro e w28 ⟨rfl, hb⟩; refine ⟨_, rfl, ?_⟩; have n0_ := Aside0.mk (below_step (by repeat (first | (with_reducible first | exact HB.out | apply below_alloc | apply pw_below_drewN | apply below_drew1) | exact HB.out)) hb); clear HB; have HB := n0_; clear n0_; (try clear hb); (try clear hb2); (try clear hk); (try clear hi)) | ((with_reducible refine gate_callee (f := 38) rfl ?_); refine goesL_ (some 49) rfl rfl Try.func38 (by kernel_rfl) rfl #[.string x0_3, .bool a1] rfl (by (try simp only [List.map_toArray, List.map_cons, List.map_nil]); first | done | rfl | (simp only [List.length_drop, List.length_take]; rfl)) ?_; (with_reducible refine (shadowboxref28_Encode.calls kj3 x0_3 a1 t559 _ A13.out).mono ?_); rintro e w' ⟨rfl, ⟨nd, rfl⟩⟩; refine ⟨_, rfl, ?_⟩) | (go_at_call 12; (with_reducible refine (percent_Plain.calls a2 t560 _ A17.out).mono ?_); rintro e w29 ⟨rfl, hb⟩; have n0_ := Aside0.mk (below_step (by repeat (first | (with_reducible first | exact HB.out | apply below_alloc | apply pw_below_drewN | apply below_drew1) | exact HB.out)) hb); clear HB; have HB := n0_; clear n0_; (try clear hb); (try clear hb2); (try clear hk); (try clear hi)) | (go_at_call 39; (with_reducible refine (shadowboxref28_Plain.calls kj3 a2 t561 _ A18.out).mono ?_); rintro e w' ⟨rfl, ⟨nd, rfl⟩⟩) | (go_at_call 10; (with_reducible refine (percent_Encode.calls kj3 (⟨#[97, 32, 98, 47, 99]⟩ : ByteArray) true t562 _ A23.out).mono ?_); rintro e w30 ⟨rfl, hb⟩; have n0_ := Aside0.mk (below_step (by repeat (first | (with_reducible first | exact HB.out | apply below_alloc | apply pw_below_drewN | apply below_drew1) | exact HB.out)) hb); clear HB; have HB := n0_; clear n0_; (try clear hb); (try clear hb2); (try clear hk); (try clear hi)))
                    go_ret
                    exact ⟨by first | rfl | (simp [errW_none, errW_some] <;> rfl) | (simp [*, errW_none, errW_some] <;> rfl), by repeat (first | (with_reducible first | exact HB.out | apply below_alloc | apply pw_below_drewN | apply below_drew1) | exact HB.out)⟩
                  · rw [if_neg c22] at H
                    have c22b0 : (t554 == t557) = false := by simpa using c22
                    (try (have c22b1 : decide (t554 = t557) = false := by simpa using c22))
                    (try (have c22b2 : (t554 == t557) = false := by simpa using c22))
                    (try (have c22b3 : ¬ (t554 = t557) := by simpa using c22))
                    clear c22
                    exact absurd (Option.some.inj H) (by rw [hr.out]; decide)
                · rw [if_neg c21] at H
                  have c21b0 : (t553.toList == t556.toList) = false := beq_eq_false_iff_ne.mpr c21
                  have c21b1 : (t553.toList != t556.toList) = true := bne_iff_ne.mpr c21
                  exact absurd (Option.some.inj H) (by rw [hr.out]; decide)
              · rw [if_neg c20] at H
                have c20b0 : (t552.toList == t555.toList) = false := beq_eq_false_iff_ne.mpr c20
                have c20b1 : (t552.toList != t555.toList) = true := bne_iff_ne.mpr c20
                exact absurd (Option.some.inj H) (by rw [hr.out]; decide)
            · rw [if_neg c19] at H
              have c19b0 : (t560 == t561) = false := by simpa using c19
              (try (have c19b1 : decide (t560 = t561) = false := by simpa using c19))
              (try (have c19b2 : (t560 == t561) = false := by simpa using c19))
              (try (have c19b3 : ¬ (t560 = t561) := by simpa using c19))
              clear c19
              exact absurd (Option.some.inj H) (by rw [hr.out]; decide)
          · rw [if_neg c16] at H
            have c16b0 : (t549 == t551) = false := by simpa using c16
            (try (have c16b1 : decide (t549 = t551) = false := by simpa using c16))
            (try (have c16b2 : (t549 == t551) = false := by simpa using c16))
            (try (have c16b3 : ¬ (t549 = t551) := by simpa using c16))
            clear c16
            exact absurd (Option.some.inj H) (by rw [hr.out]; decide)
        · rw [if_neg c15] at H
          have c15b0 : (t548.toList == t550.toList) = false := beq_eq_false_iff_ne.mpr c15
          have c15b1 : (t548.toList != t550.toList) = true := bne_iff_ne.mpr c15
          exact absurd (Option.some.inj H) (by rw [hr.out]; decide)
      · rw [if_neg c14] at H
        have c14b0 : (t558.toList == t559.toList) = false := beq_eq_false_iff_ne.mpr c14
        have c14b1 : (t558.toList != t559.toList) = true := bne_iff_ne.mpr c14
        exact absurd (Option.some.inj H) (by rw [hr.out]; decide)

/-- THE ONE PURE STATEMENT of shadowboxlaw28_PercentTells: yours. -/
def shadowboxlaw28_PercentTells.Pure : Prop := ∀ (a0 : ByteArray) (a1 : Bool) (a2 : Int), a0.size ≤ 140737488351232 → (Lit.int .u8 a2).wf = true → ∃ k, shadowboxlaw28_PercentTells.f k a0 a1 a2 = some true
theorem shadowboxlaw28_PercentTells.walk (P : shadowboxlaw28_PercentTells.Pure) (a0 : ByteArray) (a1 : Bool) (a2 : Int) (w : World) (w0 : a0.size ≤ 140737488351232) (w2 : (Lit.int .u8 a2).wf = true) :
    Calls Try.prog 8 #[.string a0, .bool a1, .int .u8 a2] w fun e w' => e = .returned (.bool true) ∧ Below w.heap.size w w' := by
  obtain ⟨k, h⟩ := P a0 a1 a2 w0 w2
  refine (shadowboxlaw28_PercentTells.calls k a0 a1 a2 true w h ⟨rfl⟩).mono ?_
  rintro e w' ⟨rfl, hd⟩
  exact ⟨rfl, hd⟩

end Go.Proofs.Ytdfghdppbfabfaa.P

/- Small facts of numbers and bytes. -/
namespace Go.Proofs.Ytdfghdppbfabfaa.P
open Go.RowKit Go.Proofs.YtdfghdppbfabfaaW.PrintWords Go.Proofs.YtdfghdppbfabfaaW.PrintLast Go.Proofs.YtdfghdppbfabfaaW.PrintMore
set_option linter.unusedVariables false
set_option linter.unusedSimpArgs false

theorem w64 {n : Int} (h : -9223372036854775808 ≤ n ∧ n ≤ 9223372036854775807) : wrap64 n = n := IntWalk.wrap64_in n h

/-! ### Kinds of bytes -/
theorem kind1_iff {c : Int} : kindOf c = 1 ↔ 48 ≤ c ∧ c ≤ 57 := by
  unfold kindOf
  constructor
  · intro h
    split at h
    · assumption
    · split at h
      · omega
      · split at h
        · omega
        · split at h <;> omega
  · intro h; rw [if_pos h]
theorem kind2_iff {c : Int} : kindOf c = 2 ↔ 97 ≤ c ∧ c ≤ 102 := by
  unfold kindOf
  constructor
  · intro h
    split at h
    · omega
    · split at h
      · assumption
      · split at h
        · omega
        · split at h <;> omega
  · intro h; rw [if_neg (by omega), if_pos h]

/-! ### Hex -/
theorem hexD_at (n : Int) (h0 : 0 ≤ n) (h1 : n < 16) : bt (⟨#[48, 49, 50, 51, 52, 53, 54, 55, 56, 57, 97, 98, 99, 100, 101, 102]⟩ : ByteArray) n = hexD n := by
  have key : ∀ m : Fin 16, bt (⟨#[48, 49, 50, 51, 52, 53, 54, 55, 56, 57, 97, 98, 99, 100, 101, 102]⟩ : ByteArray) (m.val : Int) = hexD (m.val : Int) := by decide +kernel
  obtain ⟨m, rfl⟩ := Int.eq_ofNat_of_zero_le h0
  exact key ⟨m, by omega⟩
theorem and15 (x : Int) (h0 : 0 ≤ x) (h1 : x ≤ 255) : Go.bits .and .u8 x 15 = x % 16 := by
  exact u8_and15 x h0 (by omega)
theorem or16 (a b : Int) (h0 : 0 ≤ a) (h1 : a ≤ 15) (h2 : 0 ≤ b) (h3 : b ≤ 15) : Go.bits .or .u8 ((a * 16) % 256) b = 16 * a + b := by
  rw [show (a * 16) % 256 = 16 * a by omega]
  exact bits_join .u8 8 (by decide) wraps_u8 4 (16 * a) b (by omega) (by omega) (by omega) h2 (by omega) (by omega)
theorem rd_get (l : List Int) (i : Nat) (h : i < l.length) : rd l (i : Int) = l[i] := by
  unfold rd
  rw [Int.toNat_natCast, List.getD_eq_getElem?_getD, List.getElem?_eq_getElem h]
  rfl
theorem drop_bt (s : ByteArray) (i : Nat) (h : i < s.size) : (bytesOf s).drop i = bt s (i : Int) :: (bytesOf s).drop (i + 1) := by
  have hl : i < (bytesOf s).length := by rw [bytesOf_len]; exact h
  rw [bt_eq, List.getD_eq_getElem?_getD, List.getElem?_eq_getElem hl]
  exact List.drop_eq_getElem_cons hl
theorem drop_two (s : ByteArray) (i : Nat) (h : i + 1 < s.size) : (bytesOf s).drop i = bt s (i : Int) :: bt s ((i + 1 : Nat) : Int) :: (bytesOf s).drop (i + 2) := by
  rw [drop_bt s i (by omega), drop_bt s (i + 1) h]
theorem toList_strOf (l : List Int) (hl : Bytes l) (s : ByteArray) : (strOfNums l).toList = s.toList ↔ l = bytesOf s := by
  rw [toList_inj]
  constructor
  · rintro rfl; rw [bytesOf_strOf hl]
  · rintro rfl; rw [strOf_bytesOf]
theorem take_bytes (s : ByteArray) (j : Nat) : bytesOf (s.extract 0 j) = (bytesOf s).take j := by rw [bytesOf_extract, List.drop_zero, Nat.sub_zero]
theorem drop_bytes (s : ByteArray) (j : Nat) : bytesOf (s.extract j s.size) = (bytesOf s).drop j := by
  rw [bytesOf_extract, List.take_of_length_le (by rw [List.length_drop, bytesOf_len]; omega)]
end Go.Proofs.Ytdfghdppbfabfaa.P

/- Lower and Kind, the program's and the reference's. -/
namespace Go.Proofs.Ytdfghdppbfabfaa.P
open Go.RowKit Go.Proofs.YtdfghdppbfabfaaW.PrintWords Go.Proofs.YtdfghdppbfabfaaW.PrintLast Go.Proofs.YtdfghdppbfabfaaW.PrintMore
set_option linter.unusedVariables false
set_option linter.unusedSimpArgs false

/-! ### Kind -/
theorem ev_rKind (c : Int) : Ev (fun k => shadowboxref04_Kind.f k c) (kindOf c) := by
  refine Ev.of (fun k => shadowboxref04_Kind.mono c k) (k := 4) ?_
  unfold shadowboxref04_Kind.f kindOf
  by_cases h1 : 48 ≤ c
  · rw [if_pos h1]
    by_cases h2 : c ≤ 57
    · rw [decide_eq_true h2, if_pos ⟨h1, h2⟩]; simp only [shadowboxref04_Kind.j0]; rw [if_pos trivial]
    · rw [decide_eq_false h2, if_neg (by omega)]
      simp only [shadowboxref04_Kind.j0]
      rw [if_neg (by decide)]
      by_cases h3 : 97 ≤ c
      · rw [if_pos h3]
        by_cases h4 : c ≤ 102
        · rw [decide_eq_true h4, if_pos ⟨h3, h4⟩]; simp only [shadowboxref04_Kind.j1]; rw [if_pos trivial]
        · rw [decide_eq_false h4, if_neg (by omega)]
          simp only [shadowboxref04_Kind.j1]
          rw [if_neg (by decide)]
          by_cases h5 : 103 ≤ c
          · rw [if_pos h5]
            by_cases h6 : c ≤ 122
            · rw [decide_eq_true h6, if_pos ⟨h5, h6⟩]; simp only [shadowboxref04_Kind.j2]; rw [if_pos trivial]
            · rw [decide_eq_false h6, if_neg (by omega), if_neg (by omega)]
              simp only [shadowboxref04_Kind.j2]
              rw [if_neg (by decide), if_pos (by omega), if_neg (by omega)]
          · omega
      · rw [if_neg h3, if_neg (by omega)]
        simp only [shadowboxref04_Kind.j1]
        rw [if_neg (by decide), if_neg (by omega), if_neg (by omega)]
        simp only [shadowboxref04_Kind.j2]
        rw [if_neg (by decide)]
        by_cases h7 : 65 ≤ c
        · rw [if_pos h7]
          by_cases h8 : c ≤ 90
          · rw [if_pos h8, if_pos ⟨h7, h8⟩]
          · rw [if_neg h8, if_neg (by omega)]
        · rw [if_neg h7, if_neg (by omega)]
  · rw [if_neg h1, if_neg (by omega), if_neg (by omega), if_neg (by omega), if_neg (by omega)]
    simp only [shadowboxref04_Kind.j0]
    rw [if_neg (by decide), if_neg (by omega)]
    simp only [shadowboxref04_Kind.j1]
    rw [if_neg (by decide), if_neg (by omega)]
    simp only [shadowboxref04_Kind.j2]
    rw [if_neg (by decide), if_neg (by omega)]

/-! ### Lower -/
theorem ev_rLower_loop (s : ByteArray) (hs : s.size ≤ 140737488355000) : ∀ (d : Nat) (i : Nat) (acc : List Int), i + d = s.size → acc.length = i →
    Ev (fun k => shadowboxref04_Lower.l0 k s acc (i : Int)) (strOfNums (acc ++ ((bytesOf s).drop i).map lowB)) := by
  intro d
  induction d with
  | zero =>
    intro i acc hi ha
    refine Ev.step (fun k => by rw [shadowboxref04_Lower.l0, if_neg (by omega)]) ?_
    rw [List.drop_of_length_le (by rw [bytesOf_len]; omega), List.map_nil, List.append_nil]
    exact Ev.now _
  | succ d ih =>
    intro i acc hi ha
    have hl : i < (bytesOf s).length := by rw [bytesOf_len]; omega
    have hb : bt s (i : Int) = (bytesOf s)[i] := by rw [bt_eq, List.getD_eq_getElem?_getD, List.getElem?_eq_getElem hl]; rfl
    have hbd := bt_bd s (i : Int)
    have hd : (bytesOf s).drop i = (bytesOf s)[i] :: (bytesOf s).drop (i + 1) := List.drop_eq_getElem_cons hl
    have hw : wrap64 ((i : Int) + 1) = ((i + 1 : Nat) : Int) := by rw [w64 (by omega)]; rfl
    refine Ev.step (fun k => by rw [shadowboxref04_Lower.l0, if_pos (by omega), if_pos (by omega)]) ?_
    refine Ev.bind (ev_rKind _) ?_
    rw [hd, List.map_cons]
    by_cases h4 : kindOf (bt s (i : Int)) = 4
    · refine Ev.congr (fun k => by rw [if_pos h4, if_pos (by omega), hw]) ?_
      have hlow := lowB_of_kind h4
      have hle := kind4_le h4
      have := ih (i + 1) (acc ++ [(bt s (i : Int) + 32) % 256]) (by omega) (by simp [ha])
      rw [show (bt s (i : Int) + 32) % 256 = lowB (bytesOf s)[i] by rw [← hb, hlow]; omega, List.append_assoc] at this
      rw [show (bt s (i : Int) + 32) % 256 = lowB (bytesOf s)[i] by rw [← hb, hlow]; omega]
      exact this
    · refine Ev.congr (fun k => by rw [if_neg h4, if_pos (by omega), hw]) ?_
      have hlow := lowB_of_not h4
      have := ih (i + 1) (acc ++ [bt s (i : Int)]) (by omega) (by simp [ha])
      rw [show bt s (i : Int) = lowB (bytesOf s)[i] by rw [← hb, hlow], List.append_assoc] at this
      rw [show bt s (i : Int) = lowB (bytesOf s)[i] by rw [← hb, hlow]]
      exact this
theorem ev_rLower (s : ByteArray) (hs : s.size ≤ 140737488355000) : Ev (fun k => shadowboxref04_Lower.f k s) (lowS s) := by
  have := ev_rLower_loop s hs s.size 0 [] (by omega) rfl
  exact this
theorem hex_Lower_eq (s : ByteArray) (hs : s.size ≤ 140737488355000) : hex_Lower.f s = some (lowS s) := by
  unfold hex_Lower.f
  rw [if_pos (by omega)]
theorem lowB_bd {c : Int} (h : 0 ≤ c ∧ c ≤ 255) : 0 ≤ lowB c ∧ lowB c ≤ 255 := by
  unfold lowB
  split <;> omega
theorem Bytes.low {l : List Int} (h : Bytes l) : Bytes (l.map lowB) := by
  intro x hx
  obtain ⟨y, hy, rfl⟩ := List.mem_map.1 hx
  exact lowB_bd (h y hy)
theorem bytes_lowS (s : ByteArray) : bytesOf (lowS s) = (bytesOf s).map lowB := bytesOf_strOf (bytes_of s).low
theorem lowS_size (s : ByteArray) : (lowS s).size = s.size := by rw [← bytesOf_len, bytes_lowS, List.length_map, bytesOf_len]
theorem lowB_low (c : Int) : lowB (lowB c) = lowB c := by
  unfold lowB
  split
  · rw [if_neg (by omega)]
  · rfl
theorem lowS_low (s : ByteArray) : lowS (lowS s) = lowS s := by
  apply bytesOf_inj
  rw [bytes_lowS, bytes_lowS, List.map_map]
  apply List.map_congr_left
  intro x _
  exact lowB_low x
theorem bt_lowS (s : ByteArray) (i : Nat) (h : i < s.size) : bt (lowS s) (i : Int) = lowB (bt s (i : Int)) := by
  have hl : i < (bytesOf s).length := by rw [bytesOf_len]; omega
  rw [bt_eq, bt_eq, bytes_lowS, List.getD_eq_getElem?_getD, List.getD_eq_getElem?_getD, List.getElem?_map, List.getElem?_eq_getElem hl]
  rfl

end Go.Proofs.Ytdfghdppbfabfaa.P

/- ReadHex, the program's and the reference's. -/
namespace Go.Proofs.Ytdfghdppbfabfaa.P
open Go.RowKit Go.Proofs.YtdfghdppbfabfaaW.PrintWords Go.Proofs.YtdfghdppbfabfaaW.PrintLast Go.Proofs.YtdfghdppbfabfaaW.PrintMore
set_option linter.unusedVariables false
set_option linter.unusedSimpArgs false


/-! ### ReadHex -/
def hexVal (c : Int) : Int := if kindOf c = 1 then c - 48 else c - 87
def hexOk (c : Int) : Prop := kindOf c = 1 ∨ kindOf c = 2
instance (c : Int) : Decidable (hexOk c) := by unfold hexOk; exact inferInstance
def unhex : List Int → Option (List Int)
  | [] => some []
  | [_] => none
  | a :: b :: r => if hexOk a ∧ hexOk b then (unhex r).map (fun x => (16 * hexVal a + hexVal b) :: x) else none
def rhex (l : List Int) : List Int × Bool := match unhex l with
  | some x => (x, true)
  | none => ([], false)
def rhexG (acc l : List Int) : List Int × Bool := match unhex l with
  | some x => (acc ++ x, true)
  | none => ([], false)
theorem hexVal_bd {c : Int} (h : hexOk c) : 0 ≤ hexVal c ∧ hexVal c ≤ 15 := by
  unfold hexVal
  rcases h with h | h
  · rw [if_pos h]; have := kind1_iff.1 h; omega
  · rw [if_neg (by omega)]; have := kind2_iff.1 h; omega
theorem value_ok {c : Int} (h : hexOk c) : hex_value.f c = some (hexVal c, true) := by
  unfold hex_value.f hexVal
  rw [show hex_Kind.f c = some (kindOf c) from rfl, Option.bind_some]
  rcases h with h | h
  · have := kind1_iff.1 h
    rw [if_pos h, if_pos h]; congr 2; omega
  · have := kind2_iff.1 h
    rw [if_neg (by omega), if_pos h, if_neg (by omega)]; congr 2; omega
theorem value_no {c : Int} (h : ¬ hexOk c) : hex_value.f c = some (0, false) := by
  unfold hex_value.f
  rw [show hex_Kind.f c = some (kindOf c) from rfl, Option.bind_some, if_neg (fun e => h (.inl e)), if_neg (fun e => h (.inr e))]
theorem ev_rvalue_ok {c : Int} (h : hexOk c) : Ev (fun k => shadowboxref04_value.f k c) (hexVal c) := by
  unfold shadowboxref04_value.f hexVal
  refine Ev.bind (ev_rKind c) ?_
  rcases h with h | h
  · have := kind1_iff.1 h
    refine Ev.congr (fun k => by rw [if_pos h]) ?_
    rw [if_pos h, show (c - 48) % 256 = c - 48 by omega]
    exact Ev.now _
  · have := kind2_iff.1 h
    refine Ev.congr (fun k => by rw [if_neg (by omega), if_pos h]) ?_
    rw [if_neg (by omega), show (c - 97) % 256 + 10 = c - 87 by omega]
    exact Ev.now _
theorem ev_rvalue_no {c : Int} (h : ¬ hexOk c) : Ev (fun k => shadowboxref04_value.f k c) (-1) := by
  unfold shadowboxref04_value.f
  refine Ev.bind (ev_rKind c) ?_
  refine Ev.congr (fun k => by rw [if_neg (fun e => h (.inl e)), if_neg (fun e => h (.inr e))]) (Ev.now _)
theorem unhex_two {a b : Int} {r : List Int} (ha : hexOk a) (hb : hexOk b) : unhex (a :: b :: r) = (unhex r).map (fun x => (16 * hexVal a + hexVal b) :: x) := by rw [unhex, if_pos ⟨ha, hb⟩]
theorem unhex_no {a b : Int} {r : List Int} (h : ¬ (hexOk a ∧ hexOk b)) : unhex (a :: b :: r) = none := by rw [unhex, if_neg h]
theorem rhexG_step {acc : List Int} {a b : Int} {r : List Int} (ha : hexOk a) (hb : hexOk b) : rhexG acc (a :: b :: r) = rhexG (acc ++ [16 * hexVal a + hexVal b]) r := by
  unfold rhexG
  rw [unhex_two ha hb]
  cases unhex r with
  | none => rfl
  | some x => simp
theorem rhexG_no {acc : List Int} {a b : Int} {r : List Int} (h : ¬ (hexOk a ∧ hexOk b)) : rhexG acc (a :: b :: r) = ([], false) := by
  unfold rhexG
  rw [unhex_no h]
theorem ev_ReadHex_loop (s : ByteArray) (hs : s.size ≤ 140737488355000) : ∀ (d i : Nat) (acc : List Int), i + 2 * d = s.size → acc.length ≤ i →
    Ev (fun k => hex_ReadHex.l0 k s acc (i : Int)) (rhexG acc ((bytesOf s).drop i)) := by
  intro d
  induction d with
  | zero =>
    intro i acc hi ha
    refine Ev.step (fun k => by rw [hex_ReadHex.l0, if_neg (by omega)]) ?_
    rw [List.drop_of_length_le (by rw [bytesOf_len]; omega)]
    rw [show rhexG acc [] = (acc, true) by simp [rhexG, unhex]]
    exact Ev.now _
  | succ d ih =>
    intro i acc hi ha
    have hw1 : wrap64 ((i : Int) + 1) = ((i + 1 : Nat) : Int) := by rw [w64 (by omega)]; rfl
    have hw2 : wrap64 ((i : Int) + 2) = ((i + 2 : Nat) : Int) := by rw [w64 (by omega)]; rfl
    rw [drop_two s i (by omega)]
    generalize hb0 : bt s (i : Int) = a
    generalize hb1 : bt s ((i + 1 : Nat) : Int) = b
    by_cases h0 : hexOk a
    · have e0 := value_ok h0
      have v0 := hexVal_bd h0
      by_cases h1 : hexOk b
      · have e1 := value_ok h1
        have v1 := hexVal_bd h1
        have ho := or16 _ _ v0.1 v0.2 v1.1 v1.2
        refine Ev.step (fun k => by rw [hex_ReadHex.l0, hw1, hw2, hb0, hb1, if_pos (by omega), if_pos (by omega), e0, Option.bind_some, if_pos (by omega), if_pos (by omega), e1, Option.bind_some, if_pos rfl, if_pos rfl, if_pos (by omega), ho]) ?_
        rw [rhexG_step h0 h1]
        exact ih (i + 2) _ (by omega) (by simp; omega)
      · have e1 := value_no h1
        refine Ev.step (fun k => by rw [hex_ReadHex.l0, hw1, hw2, hb0, hb1, if_pos (by omega), if_pos (by omega), e0, Option.bind_some, if_pos (by omega), if_pos (by omega), e1, Option.bind_some, if_pos rfl, if_neg (by decide)]) ?_
        rw [rhexG_no (fun e => h1 e.2)]
        exact Ev.now _
    · have e0 := value_no h0
      obtain ⟨v, e1⟩ : ∃ v, hex_value.f b = some v := by
        by_cases h1 : hexOk b
        · exact ⟨_, value_ok h1⟩
        · exact ⟨_, value_no h1⟩
      refine Ev.step (fun k => by rw [hex_ReadHex.l0, hw1, hw2, hb0, hb1, if_pos (by omega), if_pos (by omega), e0, Option.bind_some, if_pos (by omega), if_pos (by omega), e1, Option.bind_some, if_neg (by decide)]) ?_
      rw [rhexG_no (fun e => h0 e.1)]
      exact Ev.now _
theorem unhex_odd : ∀ (n : Nat) (l : List Int), l.length = 2 * n + 1 → unhex l = none := by
  intro n
  induction n with
  | zero =>
    intro l h
    match l, h with
    | [_], _ => rfl
  | succ n ih =>
    intro l h
    match l, h with
    | a :: b :: r, h =>
      rw [unhex]
      rw [ih r (by simp at h; omega)]
      split <;> rfl
theorem ev_ReadHex (s : ByteArray) (hs : s.size ≤ 140737488355000) : Ev (fun k => hex_ReadHex.f k s) (rhex (bytesOf s)) := by
  by_cases h2 : (s.size : Int) % 2 = 0
  · refine Ev.congr (fun k => by rw [hex_ReadHex.f, if_pos h2]) ?_
    have := ev_ReadHex_loop s hs (s.size / 2) 0 [] (by omega) (by simp)
    exact this
  · refine Ev.congr (fun k => by rw [hex_ReadHex.f, if_neg h2]) ?_
    have hn := unhex_odd (s.size / 2) (bytesOf s) (by rw [bytesOf_len]; omega)
    rw [show rhex (bytesOf s) = ([], false) by unfold rhex; rw [hn]]
    exact Ev.now _
theorem ev_rReadHex_loop (s : ByteArray) (hs : s.size ≤ 140737488355000) : ∀ (d i : Nat) (acc : List Int), i + 2 * d = s.size → acc.length ≤ i →
    Ev (fun k => shadowboxref04_ReadHex.l0 k s acc (i : Int)) (rhexG acc ((bytesOf s).drop i)) := by
  intro d
  induction d with
  | zero =>
    intro i acc hi ha
    have hw1 : wrap64 ((i : Int) + 1) = ((i + 1 : Nat) : Int) := by rw [w64 (by omega)]; rfl
    refine Ev.step (fun k => by rw [shadowboxref04_ReadHex.l0, hw1, if_neg (by omega)]) ?_
    rw [List.drop_of_length_le (by rw [bytesOf_len]; omega)]
    rw [show rhexG acc [] = (acc, true) by simp [rhexG, unhex]]
    exact Ev.now _
  | succ d ih =>
    intro i acc hi ha
    have hw1 : wrap64 ((i : Int) + 1) = ((i + 1 : Nat) : Int) := by rw [w64 (by omega)]; rfl
    have hw2 : wrap64 ((i : Int) + 2) = ((i + 2 : Nat) : Int) := by rw [w64 (by omega)]; rfl
    rw [drop_two s i (by omega)]
    generalize hb0 : bt s (i : Int) = a
    generalize hb1 : bt s ((i + 1 : Nat) : Int) = b
    refine Ev.step (fun k => by rw [shadowboxref04_ReadHex.l0, hw1, hw2, hb0, hb1, if_pos (by omega), if_pos (by omega), if_pos (by omega)]) ?_
    by_cases h0 : hexOk a
    · refine Ev.bind (ev_rvalue_ok h0) ?_
      refine Ev.congr (fun k => by rw [if_pos (by omega)]) ?_
      have v0 := hexVal_bd h0
      by_cases h1 : hexOk b
      · refine Ev.bind (ev_rvalue_ok h1) ?_
        have v1 := hexVal_bd h1
        have hz : (wrap64 ((wrap64 (16 * hexVal a)) + hexVal b)) % 256 = 16 * hexVal a + hexVal b := by
          rw [w64 (n := 16 * hexVal a) (by omega), w64 (by omega)]; omega
        refine Ev.congr (fun k => by rw [if_neg (by omega), if_neg (by omega), if_pos (by omega), hz]) ?_
        rw [rhexG_step h0 h1]
        exact ih (i + 2) _ (by omega) (by simp; omega)
      · refine Ev.bind (ev_rvalue_no h1) ?_
        refine Ev.congr (fun k => by rw [if_neg (by omega), if_pos (by omega)]) ?_
        rw [rhexG_no (fun e => h1 e.2)]
        exact Ev.now _
    · refine Ev.bind (ev_rvalue_no h0) ?_
      refine Ev.congr (fun k => by rw [if_pos (by omega)]) ?_
      rw [rhexG_no (fun e => h0 e.1)]
      by_cases h1 : hexOk b
      · refine Ev.bind (ev_rvalue_ok h1) ?_
        exact Ev.congr (fun k => by rw [if_pos (by omega)]) (Ev.now _)
      · refine Ev.bind (ev_rvalue_no h1) ?_
        exact Ev.congr (fun k => by rw [if_pos (by omega)]) (Ev.now _)
theorem ev_rReadHex (s : ByteArray) (hs : s.size ≤ 140737488355000) : Ev (fun k => shadowboxref04_ReadHex.f k s) (rhex (bytesOf s)) := by
  by_cases h2 : (s.size : Int) % 2 = 0
  · refine Ev.congr (fun k => by rw [shadowboxref04_ReadHex.f, if_pos h2]) ?_
    have := ev_rReadHex_loop s hs (s.size / 2) 0 [] (by omega) (by simp)
    exact this
  · refine Ev.congr (fun k => by rw [shadowboxref04_ReadHex.f, if_neg h2]) ?_
    have hn := unhex_odd (s.size / 2) (bytesOf s) (by rw [bytesOf_len]; omega)
    rw [show rhex (bytesOf s) = ([], false) by unfold rhex; rw [hn]]
    exact Ev.now _
theorem unhex_bytes : ∀ (l x : List Int), unhex l = some x → Bytes x
  | [], x, h => by rw [unhex] at h; cases h; exact Bytes.nil
  | [_], x, h => by rw [unhex] at h; cases h
  | a :: b :: r, x, h => by
    rw [unhex] at h
    split at h
    · rename_i hh
      obtain ⟨y, hy, rfl⟩ := Option.map_eq_some_iff.1 h
      have v0 := hexVal_bd hh.1
      have v1 := hexVal_bd hh.2
      exact Bytes.cons (by omega) (unhex_bytes r y hy)
    · cases h
theorem rhex_bytes (l : List Int) : Bytes (rhex l).1 := by
  unfold rhex
  cases h : unhex l with
  | none => exact Bytes.nil
  | some x => exact unhex_bytes l x h
theorem hexD_ok (n : Int) (h0 : 0 ≤ n) (h1 : n < 16) : hexOk (hexD n) ∧ hexVal (hexD n) = n ∧ 0 ≤ hexD n ∧ hexD n ≤ 255 := by
  unfold hexD hexVal hexOk
  by_cases h : n < 10
  · rw [if_pos h]
    have k1 : kindOf (48 + n) = 1 := kind1_iff.2 (by omega)
    exact ⟨.inl k1, by rw [if_pos k1]; omega, by omega, by omega⟩
  · rw [if_neg h]
    have k2 : kindOf (87 + n) = 2 := kind2_iff.2 (by omega)
    exact ⟨.inr k2, by rw [if_neg (by omega)]; omega, by omega, by omega⟩
end Go.Proofs.Ytdfghdppbfabfaa.P

/- Texts of a path: plain bytes, Encode and Decode, the program's. -/
namespace Go.Proofs.Ytdfghdppbfabfaa.P
open Go.RowKit Go.Proofs.YtdfghdppbfabfaaW.PrintWords Go.Proofs.YtdfghdppbfabfaaW.PrintLast Go.Proofs.YtdfghdppbfabfaaW.PrintMore
set_option linter.unusedVariables false
set_option linter.unusedSimpArgs false

def plainC (c : Int) : Bool := decide (c = 45 ∨ c = 46 ∨ c = 95 ∨ c = 126 ∨ kindOf c ≠ 0)
theorem Plain_eq (c : Int) : percent_Plain.f c = some (plainC c) := by
  unfold percent_Plain.f plainC
  rw [show hex_Kind.f c = some (kindOf c) from rfl, Option.bind_some]
  by_cases h1 : c = 45
  · simp [h1]
  by_cases h2 : c = 46
  · simp [h2]
  by_cases h3 : c = 95
  · simp [h3]
  by_cases h4 : c = 126
  · simp [h4]
  rw [if_neg h1, if_neg h2, if_neg h3, if_neg h4]
  by_cases h5 : kindOf c = 0
  · simp [h1, h2, h3, h4, h5]
  · simp [h1, h2, h3, h4, h5]
def stayC (sl : Bool) (c : Int) : Bool := plainC c || (sl && decide (c = 47))
theorem stay_eq (sl : Bool) (c : Int) : percent_Encode_1.f c sl = some (stayC sl c) := by
  unfold percent_Encode_1.f stayC
  rw [Plain_eq, Option.bind_some]
def hexU (n : Int) : Int := if n < 10 then 48 + n else 55 + n
def encC (sl : Bool) (c : Int) : List Int := if stayC sl c = true then [c] else [37, hexU (c / 16), hexU (c % 16)]
def encL (sl : Bool) (l : List Int) : List Int := l.flatMap (encC sl)
theorem hexU_at (n : Int) (h0 : 0 ≤ n) (h1 : n < 16) : bt (⟨#[48, 49, 50, 51, 52, 53, 54, 55, 56, 57, 65, 66, 67, 68, 69, 70]⟩ : ByteArray) n = hexU n := by
  have key : ∀ m : Fin 16, bt (⟨#[48, 49, 50, 51, 52, 53, 54, 55, 56, 57, 65, 66, 67, 68, 69, 70]⟩ : ByteArray) (m.val : Int) = hexU (m.val : Int) := by decide +kernel
  obtain ⟨m, rfl⟩ := Int.eq_ofNat_of_zero_le h0
  exact key ⟨m, by omega⟩
theorem encC_len (sl : Bool) (c : Int) : (encC sl c).length ≤ 3 := by unfold encC; split <;> simp
theorem ev_Encode_loop (s : ByteArray) (hs : s.size ≤ 10000000) (sl : Bool) : ∀ (d i : Nat) (acc : List Int), i + d = s.size → acc.length ≤ 3 * i →
    Ev (fun k => percent_Encode.l0 k s acc (s.size : Int) (i : Int) sl) (strOfNums (acc ++ encL sl ((bytesOf s).drop i))) := by
  intro d
  induction d with
  | zero =>
    intro i acc hi ha
    rw [List.drop_of_length_le (by rw [bytesOf_len]; omega)]
    exact Ev.step (fun k => by rw [percent_Encode.l0, if_neg (by omega)]) (by rw [show acc ++ encL sl [] = acc by simp [encL]]; exact Ev.now _)
  | succ d ih =>
    intro i acc hi ha
    have hb := bt_bd s (i : Int)
    have hw : wrap64 ((i : Int) + 1) = ((i + 1 : Nat) : Int) := w64 (by omega)
    rw [drop_bt s i (by omega)]
    have e := ih (i + 1) (acc ++ encC sl (bt s (i : Int))) (by omega) (by rw [List.length_append]; have := encC_len sl (bt s (i : Int)); omega)
    rw [List.append_assoc] at e
    have e2 : encL sl (bt s (i : Int) :: (bytesOf s).drop (i + 1)) = encC sl (bt s (i : Int)) ++ encL sl ((bytesOf s).drop (i + 1)) := rfl
    rw [e2]
    refine Ev.step (fun k => by rw [percent_Encode.l0, if_pos (by omega), if_pos (by omega), if_pos (by omega), stay_eq, Option.bind_some, hw]) ?_
    by_cases h : stayC sl (bt s (i : Int)) = true
    · rw [show encC sl (bt s (i : Int)) = [bt s (i : Int)] by unfold encC; rw [if_pos h]] at e ⊢
      exact Ev.congr (fun k => by rw [if_pos h, if_pos (by omega)]) e
    · rw [show encC sl (bt s (i : Int)) = [37, hexU (bt s (i : Int) / 16), hexU (bt s (i : Int) % 16)] by unfold encC; rw [if_neg h]] at e ⊢
      generalize bt s (i : Int) = c at *
      exact Ev.congr (fun k => by rw [if_neg h, if_pos (by omega), if_pos (by omega), and15 c hb.1 hb.2, if_pos (by omega), if_pos (by omega), Option.bind_some, hexU_at _ (by omega) (by omega), hexU_at _ (by omega) (by omega), if_pos (by simp only [List.length_cons, List.length_nil]; omega)]) e
theorem ev_Encode (s : ByteArray) (hs : s.size ≤ 10000000) (sl : Bool) : Ev (fun k => percent_Encode.f k s sl) (strOfNums (encL sl (bytesOf s))) := by
  unfold percent_Encode.f
  refine Ev.congr (fun k => by rw [if_pos (by omega), if_pos (by omega)]) ?_
  exact ev_Encode_loop s hs sl s.size 0 [] (by omega) (by simp)
/-! ### Decode -/
def pdecL (l : List Int) : Option (List Int) := match l with
  | [] => some []
  | c :: r => if c = 37 then (match r with
    | a :: b :: t => if hexOk (lowB a) ∧ hexOk (lowB b) then (pdecL t).map (fun x => (16 * hexVal (lowB a) + hexVal (lowB b)) :: x) else none
    | _ => none) else (pdecL r).map (fun x => c :: x)
  termination_by l.length
  decreasing_by all_goals (simp only [List.length_cons]; omega)
theorem pdec_nil : pdecL [] = some [] := by rw [pdecL.eq_def]
theorem pdec_cons {c : Int} {r : List Int} (h : c ≠ 37) : pdecL (c :: r) = (pdecL r).map (fun x => c :: x) := by rw [pdecL.eq_def]; exact if_neg h
theorem pdec_two {a b : Int} {t : List Int} (h : hexOk (lowB a) ∧ hexOk (lowB b)) : pdecL (37 :: a :: b :: t) = (pdecL t).map (fun x => (16 * hexVal (lowB a) + hexVal (lowB b)) :: x) := by rw [pdecL.eq_def]; exact (if_pos rfl).trans (if_pos h)
theorem pdec_two_no {a b : Int} {t : List Int} (h : ¬ (hexOk (lowB a) ∧ hexOk (lowB b))) : pdecL (37 :: a :: b :: t) = none := by rw [pdecL.eq_def]; exact (if_pos rfl).trans (if_neg h)
theorem pdec_one {a : Int} : pdecL [37, a] = none := by rw [pdecL.eq_def]; exact if_pos rfl
theorem pdec_zero : pdecL [37] = none := by rw [pdecL.eq_def]; exact if_pos rfl
def cutAt (c : Int) : List Int → Option (List Int × List Int)
  | [] => none
  | a :: l => if a = c then some ([], l) else (cutAt c l).map (fun p => (a :: p.1, p.2))
theorem cut_split {c : Int} : ∀ {l p q : List Int}, cutAt c l = some (p, q) → l = p ++ c :: q
  | [], p, q, h => by cases h
  | a :: l, p, q, h => by
    rw [cutAt] at h
    by_cases e : a = c
    · rw [if_pos e] at h; cases h; rw [e]; rfl
    · rw [if_neg e] at h
      obtain ⟨⟨p', q'⟩, h1, h2⟩ := Option.map_eq_some_iff.1 h
      cases h2
      rw [cut_split h1]; rfl
theorem pdec_none : ∀ {l : List Int}, cutAt 37 l = none → pdecL l = some l
  | [], _ => pdec_nil
  | a :: l, h => by
    rw [cutAt] at h
    by_cases e : a = 37
    · rw [if_pos e] at h; cases h
    · rw [if_neg e] at h
      rw [pdec_cons e, pdec_none (Option.map_eq_none_iff.1 h)]; rfl
theorem pdec_cut : ∀ {l p q : List Int}, cutAt 37 l = some (p, q) → pdecL l = (pdecL (37 :: q)).map (fun x => p ++ x)
  | [], p, q, h => by cases h
  | a :: l, p, q, h => by
    rw [cutAt] at h
    by_cases e : a = 37
    · rw [if_pos e] at h; cases h; rw [e]; cases pdecL (37 :: l) <;> rfl
    · rw [if_neg e] at h
      obtain ⟨⟨p', q'⟩, h1, h2⟩ := Option.map_eq_some_iff.1 h
      cases h2
      rw [pdec_cons e, pdec_cut h1]
      show Option.map (fun x => a :: x) (Option.map (fun x => p' ++ x) (pdecL (37 :: q'))) = Option.map (fun x => a :: p' ++ x) (pdecL (37 :: q'))
      cases pdecL (37 :: q') <;> rfl
theorem idx_cut (c : UInt8) : ∀ (l : List UInt8), (cutAt (c.toNat : Int) (l.map fun b => (b.toNat : Int)) = none ∧ Lib.indexByte l c = -1) ∨ (∃ p q, cutAt (c.toNat : Int) (l.map fun b => (b.toNat : Int)) = some (p, q) ∧ Lib.indexByte l c = (p.length : Int))
  | [] => .inl ⟨rfl, rfl⟩
  | b :: l => by
    have h := idx_cut c l
    rw [List.map_cons, cutAt, Lib.indexByte]
    by_cases e : b = c
    · right
      exact ⟨[], _, by rw [if_pos (by rw [e])], by rw [if_pos (by rw [e]; exact beq_self_eq_true _)]; rfl⟩
    · have hne : ¬ (b.toNat : Int) = (c.toNat : Int) := fun x => e (UInt8.toNat_inj.1 (by omega))
      rw [if_neg hne, if_neg (by simpa using e)]
      rcases h with ⟨h1, h2⟩ | ⟨p, q, h1, h2⟩
      · left
        rw [h1, h2]
        exact ⟨rfl, rfl⟩
      · right
        rw [h1, h2]
        refine ⟨b.toNat :: p, q, rfl, ?_⟩
        rw [if_neg (by simp)]
        simp
/-- Where a byte is first found in a text. -/
theorem index_cut (s : ByteArray) (c : UInt8) : (cutAt (c.toNat : Int) (bytesOf s) = none ∧ Lib.indexByte s.data.toList c = -1) ∨ (∃ p q, cutAt (c.toNat : Int) (bytesOf s) = some (p, q) ∧ Lib.indexByte s.data.toList c = (p.length : Int)) := idx_cut c s.data.toList
def pdecR (acc l : List Int) : ByteArray × Bool := match pdecL l with
  | some x => (strOfNums (acc ++ x), true)
  | none => (⟨#[]⟩, false)
theorem rhex_two (a b : Int) : rhex [a, b] = if hexOk a ∧ hexOk b then ([16 * hexVal a + hexVal b], true) else ([], false) := by
  unfold rhex
  by_cases h : hexOk a ∧ hexOk b
  · rw [unhex_two h.1 h.2, if_pos h]
    rfl
  · rw [unhex_no h, if_neg h]
theorem ev_Decode_loop : ∀ (d : Nat) (s : ByteArray) (acc : List Int), s.size ≤ d → s.size ≤ 100000000 → acc.length + s.size ≤ 1000000000 → Ev (fun k => percent_Decode.l0 k s acc) (pdecR acc (bytesOf s)) := by
  intro d
  induction d with
  | zero =>
    intro s acc hd hs ha
    have hz : s.size = 0 := by omega
    unfold pdecR
    rw [show bytesOf s = [] from List.eq_nil_of_length_eq_zero (by rw [bytesOf_len]; exact hz), pdec_nil]
    exact Ev.step (fun k => by rw [percent_Decode.l0, if_pos (size_nil.2 hz)]) (by simp only [List.append_nil]; exact Ev.now _)
  | succ d ih =>
    intro s acc hd hs ha
    by_cases hz : s.size = 0
    · unfold pdecR
      rw [show bytesOf s = [] from List.eq_nil_of_length_eq_zero (by rw [bytesOf_len]; exact hz), pdec_nil]
      exact Ev.step (fun k => by rw [percent_Decode.l0, if_pos (size_nil.2 hz)]) (by simp only [List.append_nil]; exact Ev.now _)
    have hlen := bytesOf_len s
    have hix : ∀ n, Lib.indexByte s.data.toList 37 = n → strings_IndexByte.f s 37 = some n := by
      intro n hn
      unfold strings_IndexByte.f stringslite_IndexByte.f
      rw [Option.bind_some, show ((37 : Int).toNat.toUInt8) = (37 : UInt8) by decide, hn]
    rcases index_cut s 37 with ⟨h1, h2⟩ | ⟨p, q, h1, h2⟩
    · rw [show ((37 : UInt8).toNat : Int) = 37 by decide] at h1
      unfold pdecR
      rw [pdec_none h1]
      exact Ev.step (fun k => by rw [percent_Decode.l0, if_neg (fun e => hz (size_nil.1 e)), hix _ h2, Option.bind_some, if_pos (by decide), if_pos (by omega)]) (Ev.now _)
    · rw [show ((37 : UInt8).toNat : Int) = 37 by decide] at h1
      have hsp := cut_split h1
      have hpl : p.length + 1 + q.length = s.size := by rw [← hlen, hsp]; simp; omega
      have hx : bytesOf (s.extract 0 p.length) = p := by rw [take_bytes, hsp, List.take_left]
      have hxs : (s.extract 0 p.length).size = p.length := by rw [← bytesOf_len, hx]
      refine Ev.step (fun k => by rw [percent_Decode.l0, if_neg (fun e => hz (size_nil.1 e)), hix _ h2, Option.bind_some, if_neg (by omega), if_pos (by omega), if_pos (by omega), Int.toNat_natCast, hxs, if_pos (by omega), hx, Option.bind_some, w64 (n := (p.length : Int) + 3) (by omega)]) ?_
      have hpd := pdec_cut h1
      by_cases hq : (s.size : Int) < (p.length : Int) + 3
      · have hnone : pdecL (37 :: q) = none := by
          match q, hpl with
          | [], _ => exact pdec_zero
          | [a], _ => exact pdec_one
          | a :: b :: t, hpl => simp at hpl; omega
        unfold pdecR
        rw [hpd, hnone]
        exact Ev.congr (fun k => by rw [if_pos hq]; rfl) (Ev.now _)
      · obtain ⟨a, b, t, rfl⟩ : ∃ a b t, q = a :: b :: t := by
          match q, hpl with
          | [], hpl => simp at hpl; omega
          | [a], hpl => simp at hpl; omega
          | a :: b :: t, _ => exact ⟨a, b, t, rfl⟩
        simp only [List.length_cons] at hpl
        have hx2 : bytesOf (s.extract (p.length + 1) (p.length + 3)) = [a, b] := by
          rw [bytesOf_extract, hsp, show p ++ 37 :: a :: b :: t = (p ++ [(37 : Int)]) ++ a :: b :: t by simp, show p.length + 1 = (p ++ [(37 : Int)]).length by simp, List.drop_left]
          rw [show p.length + 3 - (p ++ [(37 : Int)]).length = 2 by simp]
          rfl
        have hx3 : bytesOf (s.extract (p.length + 3) s.size) = t := by
          rw [drop_bytes, hsp, show p ++ 37 :: a :: b :: t = (p ++ [(37 : Int), a, b]) ++ t by simp, show p.length + 3 = (p ++ [(37 : Int), a, b]).length by simp, List.drop_left]
        have hs2 : (s.extract (p.length + 1) (p.length + 3)).size = 2 := by rw [← bytesOf_len, hx2]; rfl
        have hs3 : (s.extract (p.length + 3) s.size).size = t.length := by rw [← bytesOf_len, hx3]
        refine Ev.congr (fun k => by rw [if_neg hq, w64 (n := (p.length : Int) + 1) (by omega), if_pos (by omega), if_pos (by omega), if_pos (by omega), show ((p.length : Int) + 1).toNat = p.length + 1 by omega, show ((p.length : Int) + 3).toNat = p.length + 3 by omega, hex_Lower_eq _ (by omega), Option.bind_some]) ?_
        refine Ev.bind (ev_ReadHex _ (by rw [lowS_size]; omega)) ?_
        rw [bytes_lowS, hx2, show [a, b].map lowB = [lowB a, lowB b] from rfl, rhex_two]
        by_cases hok : hexOk (lowB a) ∧ hexOk (lowB b)
        · rw [if_pos hok]
          have e := ih (s.extract (p.length + 3) s.size) ((acc ++ p) ++ [16 * hexVal (lowB a) + hexVal (lowB b)]) (by omega) (by omega) (by simp only [List.length_append, List.length_cons, List.length_nil]; omega)
          rw [hx3] at e
          have he : pdecR acc (bytesOf s) = pdecR ((acc ++ p) ++ [16 * hexVal (lowB a) + hexVal (lowB b)]) t := by
            unfold pdecR
            rw [hpd, pdec_two hok]
            cases pdecL t with
            | none => rfl
            | some x => simp
          rw [he]
          exact Ev.congr (fun k => by rw [if_pos rfl, if_pos (by simp only [List.length_append, List.length_cons, List.length_nil]; omega), if_pos (by omega)]) e
        · rw [if_neg hok]
          unfold pdecR
          rw [hpd, pdec_two_no hok]
          exact Ev.congr (fun k => by rw [if_neg (by decide)]; rfl) (Ev.now _)
theorem ev_Decode (s : ByteArray) (hs : s.size ≤ 100000000) : Ev (fun k => percent_Decode.f k s) (pdecR [] (bytesOf s)) := ev_Decode_loop s.size s [] (Nat.le_refl _) hs (by simp; omega)
end Go.Proofs.Ytdfghdppbfabfaa.P

/- What is encoded is decoded. -/
namespace Go.Proofs.Ytdfghdppbfabfaa.P
open Go.RowKit Go.Proofs.YtdfghdppbfabfaaW.PrintWords Go.Proofs.YtdfghdppbfabfaaW.PrintLast Go.Proofs.YtdfghdppbfabfaaW.PrintMore
set_option linter.unusedVariables false
set_option linter.unusedSimpArgs false

theorem kind_37 : kindOf 37 = 0 := by decide
theorem stay_ne {sl : Bool} {c : Int} (h : stayC sl c = true) : c ≠ 37 := by
  rintro rfl
  revert h
  cases sl <;> decide
theorem hexU_low (n : Int) (h0 : 0 ≤ n) (h1 : n < 16) : hexOk (lowB (hexU n)) ∧ hexVal (lowB (hexU n)) = n ∧ 0 ≤ hexU n ∧ hexU n ≤ 255 ∧ plainC (hexU n) = true := by
  have key : ∀ m : Fin 16, hexOk (lowB (hexU (m.val : Int))) ∧ hexVal (lowB (hexU (m.val : Int))) = (m.val : Int) ∧ 0 ≤ hexU (m.val : Int) ∧ hexU (m.val : Int) ≤ 255 ∧ plainC (hexU (m.val : Int)) = true := by decide
  obtain ⟨m, rfl⟩ := Int.eq_ofNat_of_zero_le h0
  exact key ⟨m, by omega⟩
theorem pdec_enc (sl : Bool) : ∀ (l : List Int), Bytes l → pdecL (encL sl l) = some l
  | [], _ => pdec_nil
  | c :: l, hb => by
    have hc := hb c List.mem_cons_self
    have ih := pdec_enc sl l hb.tail
    have e : encL sl (c :: l) = encC sl c ++ encL sl l := rfl
    rw [e]
    by_cases h : stayC sl c = true
    · rw [show encC sl c = [c] by unfold encC; rw [if_pos h]]
      show pdecL (c :: encL sl l) = _
      rw [pdec_cons (stay_ne h), ih]
      rfl
    · rw [show encC sl c = [37, hexU (c / 16), hexU (c % 16)] by unfold encC; rw [if_neg h]]
      show pdecL (37 :: hexU (c / 16) :: hexU (c % 16) :: encL sl l) = _
      obtain ⟨a1, a2, _⟩ := hexU_low (c / 16) (by omega) (by omega)
      obtain ⟨b1, b2, _⟩ := hexU_low (c % 16) (by omega) (by omega)
      rw [pdec_two ⟨a1, b1⟩, ih, a2, b2]
      show some (_ :: l) = some (c :: l)
      congr 2
      omega
theorem enc_bytes (sl : Bool) : ∀ (l : List Int), Bytes l → Bytes (encL sl l)
  | [], _ => by intro x hx; cases hx
  | c :: l, hb => by
    have hc := hb c List.mem_cons_self
    intro x hx
    rcases List.mem_append.1 (show x ∈ encC sl c ++ encL sl l from hx) with h | h
    · unfold encC at h
      split at h
      · simp at h; omega
      · obtain ⟨_, _, a3, a4, _⟩ := hexU_low (c / 16) (by omega) (by omega)
        obtain ⟨_, _, b3, b4, _⟩ := hexU_low (c % 16) (by omega) (by omega)
        simp at h
        omega
    · exact enc_bytes sl l hb.tail x h
theorem enc_len (sl : Bool) (l : List Int) : (encL sl l).length ≤ 3 * l.length := by
  induction l with
  | nil => simp [encL]
  | cons c l ih =>
    show (encC sl c ++ encL sl l).length ≤ _
    have := encC_len sl c
    simp
    omega
/-- Each byte of what is encoded is plain, a mark, or a slash that may stay. -/
def okC (sl : Bool) (c : Int) : Prop := plainC c = true ∨ c = 37 ∨ (sl = true ∧ c = 47)
theorem enc_ok (sl : Bool) : ∀ (l : List Int), Bytes l → ∀ x ∈ encL sl l, okC sl x
  | [], _, x, hx => by cases hx
  | c :: l, hb, x, hx => by
    have hc := hb c List.mem_cons_self
    rcases List.mem_append.1 (show x ∈ encC sl c ++ encL sl l from hx) with h | h
    · unfold encC at h
      split at h
      · rename_i hs
        simp at h
        subst h
        unfold stayC at hs
        unfold okC
        simp only [Bool.or_eq_true, Bool.and_eq_true, decide_eq_true_eq] at hs
        rcases hs with hs | hs
        · exact .inl hs
        · exact .inr (.inr hs)
      · obtain ⟨_, _, _, _, a5⟩ := hexU_low (c / 16) (by omega) (by omega)
        obtain ⟨_, _, _, _, b5⟩ := hexU_low (c % 16) (by omega) (by omega)
        simp at h
        unfold okC
        rcases h with rfl | rfl | rfl
        · exact .inr (.inl rfl)
        · exact .inl a5
        · exact .inl b5
    · exact enc_ok sl l hb.tail x h
def encS (sl : Bool) (s : ByteArray) : ByteArray := strOfNums (encL sl (bytesOf s))
theorem bytes_encS (sl : Bool) (s : ByteArray) : bytesOf (encS sl s) = encL sl (bytesOf s) := bytesOf_strOf (enc_bytes sl _ (bytes_of s))
theorem encS_size (sl : Bool) (s : ByteArray) : (encS sl s).size ≤ 3 * s.size := by
  rw [← bytesOf_len, bytes_encS]
  have := enc_len sl (bytesOf s)
  rw [bytesOf_len] at this
  exact this
theorem pdec_encS (sl : Bool) (s : ByteArray) : pdecR [] (bytesOf (encS sl s)) = (s, true) := by
  unfold pdecR
  rw [bytes_encS, pdec_enc sl _ (bytes_of s)]
  show (strOfNums ([] ++ bytesOf s), true) = _
  rw [List.nil_append, strOf_bytesOf]
end Go.Proofs.Ytdfghdppbfabfaa.P

/- Paths: the program's. -/
namespace Go.Proofs.Ytdfghdppbfabfaa.P
open Go.RowKit Go.Proofs.YtdfghdppbfabfaaW.PrintWords Go.Proofs.YtdfghdppbfabfaaW.PrintLast Go.Proofs.YtdfghdppbfabfaaW.PrintMore
set_option linter.unusedVariables false
set_option linter.unusedSimpArgs false

abbrev P3 := ByteArray × ByteArray × Bool
def noPath : P3 := (⟨#[]⟩, ⟨#[]⟩, false)
def cut2 (r : List Int) : List Int × List Int := match cutAt 47 r with
  | some p => p
  | none => (r, [])
def pathT (a b : List Int) : P3 := match pdecL a, pdecL b with
  | some x, some y => (strOfNums x, strOfNums y, true)
  | _, _ => noPath
def pathR (l : List Int) : P3 := match l with
  | [] => noPath
  | c :: r => if c = 47 then pathT (cut2 r).1 (cut2 r).2 else noPath
theorem l47 : (⟨#[47]⟩ : ByteArray) = strOfNums [47] := rfl
theorem b47 : Bytes [47] := by intro x hx; simp at hx; omega
theorem has_eq (s : ByteArray) (a : Int) (r : List Int) (h : bytesOf s = a :: r) : stringslite_HasPrefix.f s (⟨#[47]⟩ : ByteArray) = some (decide (a = 47)) := by
  have hl := bytesOf_len s
  rw [h] at hl
  simp at hl
  have hz : ((⟨#[47]⟩ : ByteArray).size : Int) = 1 := rfl
  unfold stringslite_HasPrefix.f
  rw [hz, if_pos (by omega), if_pos (by omega), if_pos (by omega), show (1 : Int).toNat = 1 from rfl]
  have ht : bytesOf (s.extract 0 1) = [a] := by rw [take_bytes, h]; rfl
  have e := toList_strOf [47] b47 (s.extract 0 1)
  rw [ht, ← l47] at e
  congr 1
  by_cases ha : a = 47
  · rw [decide_eq_true ha]
    exact beq_iff_eq.2 (e.2 (by rw [ha])).symm
  · rw [decide_eq_false ha]
    exact beq_eq_false_iff_ne.2 (fun x => ha (by have := e.1 x.symm; injection this with h1 _; exact h1.symm))
theorem has_nil (s : ByteArray) (h : s.size = 0) : stringslite_HasPrefix.f s (⟨#[47]⟩ : ByteArray) = some false := by
  have hz : ((⟨#[47]⟩ : ByteArray).size : Int) = 1 := rfl
  unfold stringslite_HasPrefix.f
  rw [hz, if_neg (by omega)]
theorem cutp_yes (s : ByteArray) (r : List Int) (h : bytesOf s = 47 :: r) : strings_CutPrefix.f s (⟨#[47]⟩ : ByteArray) = some (s.extract 1 s.size, true) := by
  have hl := bytesOf_len s
  rw [h] at hl
  simp at hl
  have hz : ((⟨#[47]⟩ : ByteArray).size : Int) = 1 := rfl
  unfold strings_CutPrefix.f stringslite_CutPrefix.f
  rw [has_eq s 47 r h, Option.bind_some, if_pos (by decide), hz, if_pos (by omega), if_pos (by omega)]
  rfl
theorem cutp_no (s : ByteArray) (h : ∀ r, bytesOf s ≠ 47 :: r) : strings_CutPrefix.f s (⟨#[47]⟩ : ByteArray) = some (s, false) := by
  unfold strings_CutPrefix.f stringslite_CutPrefix.f
  by_cases hz : s.size = 0
  · rw [has_nil s hz]; rfl
  · cases hb : bytesOf s with
    | nil => have := bytesOf_len s; rw [hb] at this; simp at this; omega
    | cons a r =>
      have ha : ¬ a = 47 := by rintro rfl; exact h r hb
      rw [has_eq s a r hb, decide_eq_false ha]; rfl
theorem cut_eq (s : ByteArray) (hs : s.size ≤ 1000000000) : ∃ x y b, strings_Cut.f s (⟨#[47]⟩ : ByteArray) = some (x, y, b) ∧ bytesOf x = (cut2 (bytesOf s)).1 ∧ bytesOf y = (cut2 (bytesOf s)).2 := by
  have hz : ((⟨#[47]⟩ : ByteArray).size : Int) = 1 := rfl
  have hi : ∀ n, Lib.indexByte s.data.toList 47 = n → stringslite_Index.f s (⟨#[47]⟩ : ByteArray) = some n := by
    intro n hn
    rw [← hn]; rfl
  unfold strings_Cut.f stringslite_Cut.f cut2
  rcases index_cut s 47 with ⟨h1, h2⟩ | ⟨p, q, h1, h2⟩
  · rw [show ((47 : UInt8).toNat : Int) = 47 by decide] at h1
    rw [h1, hi _ h2, Option.bind_some, if_neg (by decide)]
    exact ⟨s, ⟨#[]⟩, false, rfl, rfl, rfl⟩
  · rw [show ((47 : UInt8).toNat : Int) = 47 by decide] at h1
    have hsp := cut_split h1
    have hpl : p.length + 1 + q.length = s.size := by rw [← bytesOf_len, hsp]; simp; omega
    rw [h1, hi _ h2, Option.bind_some, hz, w64 (n := (p.length : Int) + 1) (by omega), if_pos (by omega), if_pos (by omega), if_pos (by omega), if_pos (by omega), if_pos (by omega)]
    refine ⟨_, _, true, rfl, ?_, ?_⟩
    · rw [Int.toNat_natCast, take_bytes, hsp, List.take_left]
    · rw [show ((p.length : Int) + 1).toNat = p.length + 1 by omega, drop_bytes, hsp, show p ++ 47 :: q = (p ++ [(47 : Int)]) ++ q by simp, show p.length + 1 = (p ++ [(47 : Int)]).length by simp, List.drop_left]
theorem cut2_len (r : List Int) : (cut2 r).1.length ≤ r.length ∧ (cut2 r).2.length ≤ r.length := by
  unfold cut2
  cases h : cutAt 47 r with
  | none => simp
  | some p =>
    obtain ⟨p, q⟩ := p
    have := congrArg List.length (cut_split h)
    simp at this
    constructor
    · show p.length ≤ _; omega
    · show q.length ≤ _; omega
theorem ev_Path (s : ByteArray) (hs : s.size ≤ 10000000) : Ev (fun k => percent_Path.f k s) (pathR (bytesOf s)) := by
  unfold percent_Path.f
  by_cases h : ∃ r, bytesOf s = 47 :: r
  · obtain ⟨r, h⟩ := h
    have hd : bytesOf (s.extract 1 s.size) = r := by rw [drop_bytes, h]; rfl
    have hl := bytesOf_len s
    rw [h] at hl
    simp at hl
    obtain ⟨x, y, b, hc, hx, hy⟩ := cut_eq (s.extract 1 s.size) (by rw [← bytesOf_len, hd]; omega)
    rw [hd] at hx hy
    have hlen := cut2_len r
    have h1 : x.size ≤ 10000000 := by rw [← bytesOf_len, hx]; omega
    have h2 : y.size ≤ 10000000 := by rw [← bytesOf_len, hy]; omega
    refine Ev.congr (fun k => by rw [cutp_yes s r h, Option.bind_some, if_pos rfl, hc, Option.bind_some]) ?_
    refine Ev.bind (ev_Decode x (by omega)) ?_
    refine Ev.bind (ev_Decode y (by omega)) ?_
    rw [hx, hy, h]
    show Ev _ (pathT (cut2 r).1 (cut2 r).2)
    unfold pdecR pathT
    cases pdecL (cut2 r).1 with
    | none => exact Ev.congr (fun k => by simp [noPath]) (Ev.now _)
    | some u =>
      cases pdecL (cut2 r).2 with
      | none => exact Ev.congr (fun k => by simp [noPath]) (Ev.now _)
      | some v => exact Ev.congr (fun k => by simp) (Ev.now _)
  · have hn : ∀ r, bytesOf s ≠ 47 :: r := fun r e => h ⟨r, e⟩
    have hp : pathR (bytesOf s) = noPath := by
      unfold pathR
      cases hb : bytesOf s with
      | nil => rfl
      | cons a r => exact if_neg (by rintro rfl; exact hn r hb)
    rw [hp]
    exact Ev.congr (fun k => by rw [cutp_no s hn, Option.bind_some, if_neg (by simp)]; rfl) (Ev.now _)
theorem pathR_slash (r : List Int) : pathR (47 :: r) = pathT (cut2 r).1 (cut2 r).2 := by unfold pathR; exact if_pos rfl
theorem plain_47 : plainC 47 = false := by decide
theorem enc_no47 (l : List Int) (hb : Bytes l) : ∀ x ∈ encL false l, x ≠ 47 := by
  intro x hx
  have h := enc_ok false l hb x hx
  rintro rfl
  unfold okC at h
  rw [plain_47] at h
  simp at h
theorem cutAt_app {c : Int} : ∀ (p q : List Int), (∀ x ∈ p, x ≠ c) → cutAt c (p ++ c :: q) = some (p, q)
  | [], q, _ => if_pos rfl
  | a :: p, q, h => by
    show (if a = c then some ([], p ++ c :: q) else (cutAt c (p ++ c :: q)).map (fun p => (a :: p.1, p.2))) = _
    rw [if_neg (h a List.mem_cons_self), cutAt_app p q (fun x hx => h x (List.mem_cons_of_mem _ hx))]
    rfl
theorem cutAt_no {c : Int} : ∀ (p : List Int), (∀ x ∈ p, x ≠ c) → cutAt c p = none
  | [], _ => rfl
  | a :: p, h => by
    show (if a = c then some ([], p) else (cutAt c p).map (fun p => (a :: p.1, p.2))) = _
    rw [if_neg (h a List.mem_cons_self), cutAt_no p (fun x hx => h x (List.mem_cons_of_mem _ hx))]
    rfl
end Go.Proofs.Ytdfghdppbfabfaa.P

/- Texts of a path: the reference's. -/
namespace Go.Proofs.Ytdfghdppbfabfaa.P
open Go.RowKit Go.Proofs.YtdfghdppbfabfaaW.PrintWords Go.Proofs.YtdfghdppbfabfaaW.PrintLast Go.Proofs.YtdfghdppbfabfaaW.PrintMore
set_option linter.unusedVariables false
set_option linter.unusedSimpArgs false

theorem ev_rPlain (c : Int) : Ev (fun k => shadowboxref28_Plain.f k c) (plainC c) := by
  unfold shadowboxref28_Plain.f plainC
  refine Ev.bind (ev_rKind c) ?_
  by_cases h5 : kindOf c = 0
  · by_cases h1 : c = 45
    · exact Ev.congr (fun k => by simp [h1, h5]) (Ev.now _)
    by_cases h2 : c = 46
    · exact Ev.congr (fun k => by simp [h2, h5]) (Ev.now _)
    by_cases h3 : c = 95
    · exact Ev.congr (fun k => by simp [h3, h5]) (Ev.now _)
    by_cases h4 : c = 126
    · exact Ev.congr (fun k => by simp [h4, h5]) (Ev.now _)
    exact Ev.congr (fun k => by simp [h1, h2, h3, h4, h5]) (Ev.now _)
  · exact Ev.congr (fun k => by rw [if_neg h5, decide_eq_true (by simp [h5])]) (Ev.now _)
abbrev digU : ByteArray := ⟨#[48, 49, 50, 51, 52, 53, 54, 55, 56, 57, 65, 66, 67, 68, 69, 70]⟩
theorem digU_cut {n : Int} (h0 : 0 ≤ n) (h1 : n < 16) : digU.extract n.toNat ((n + 1) % 256).toNat = strOfNums [hexU n] := by
  have key : ∀ m : Fin 16, digU.extract (m.val : Int).toNat (((m.val : Int) + 1) % 256).toNat = strOfNums [hexU (m.val : Int)] := by decide +kernel
  obtain ⟨m, rfl⟩ := Int.eq_ofNat_of_zero_le h0
  exact key ⟨m, by omega⟩
theorem l37 : (⟨#[37]⟩ : ByteArray) = strOfNums [37] := rfl
theorem one_cut (s : ByteArray) (i : Nat) (h : i < s.size) : s.extract i (i + 1) = strOfNums [bt s (i : Int)] := by
  rw [← strOf_bytesOf (s.extract i (i + 1)), bytesOf_extract, drop_bt s i h, show i + 1 - i = 1 by omega]
  rfl
theorem ev_rEncode_loop (s : ByteArray) (hs : s.size ≤ 10000000) (sl : Bool) : ∀ (d i : Nat) (acc : List Int), i + d = s.size → acc.length ≤ 3 * i →
    Ev (fun k => shadowboxref28_Encode.l0 k s sl (strOfNums acc) (i : Int)) (strOfNums (acc ++ encL sl ((bytesOf s).drop i))) := by
  intro d
  induction d with
  | zero =>
    intro i acc hi ha
    rw [List.drop_of_length_le (by rw [bytesOf_len]; omega)]
    exact Ev.step (fun k => by rw [shadowboxref28_Encode.l0, if_neg (by omega)]) (by rw [show acc ++ encL sl [] = acc by simp [encL]]; exact Ev.now _)
  | succ d ih =>
    intro i acc hi ha
    have hb := bt_bd s (i : Int)
    have hw : wrap64 ((i : Int) + 1) = ((i + 1 : Nat) : Int) := w64 (by omega)
    have ho := one_cut s i (by omega)
    rw [drop_bt s i (by omega)]
    have e := ih (i + 1) (acc ++ encC sl (bt s (i : Int))) (by omega) (by rw [List.length_append]; have := encC_len sl (bt s (i : Int)); omega)
    rw [List.append_assoc] at e
    have e2 : encL sl (bt s (i : Int) :: (bytesOf s).drop (i + 1)) = encC sl (bt s (i : Int)) ++ encL sl ((bytesOf s).drop (i + 1)) := rfl
    rw [e2]
    refine Ev.step (fun k => by rw [shadowboxref28_Encode.l0, if_pos (by omega), if_pos (by omega), hw]) ?_
    rw [Int.toNat_natCast, Int.toNat_natCast, ho]
    have hsz : ∀ l : List Int, (strOfNums acc).size + (strOfNums l).size = acc.length + l.length := fun l => by rw [strOfNums_size, strOfNums_size]
    generalize bt s (i : Int) = c at *
    refine Ev.bind (ev_rPlain c) ?_
    have stays : stayC sl c = true → Ev (fun k => (if (i : Int) ≤ ((i + 1 : Nat) : Int) then (if ((i + 1 : Nat) : Int) ≤ (s.size : Int) then (if (strOfNums acc).size + (strOfNums [c]).size ≤ 9223372036854775807 then (shadowboxref28_Encode.l0 k s sl (strOfNums acc ++ strOfNums [c]) ((i + 1 : Nat) : Int)) else (none)) else (none)) else (none))) (strOfNums (acc ++ (encC sl c ++ encL sl ((bytesOf s).drop (i + 1))))) := by
      intro h
      rw [show encC sl c = [c] by unfold encC; rw [if_pos h]] at e ⊢
      exact Ev.congr (fun k => by rw [if_pos (by omega), if_pos (by omega), if_pos (by rw [hsz, List.length_cons, List.length_nil]; omega), ← strOf_append]) e
    by_cases h1 : plainC c = true
    · exact Ev.congr (fun k => by rw [if_pos h1]) (stays (by unfold stayC; rw [h1]; rfl))
    · have hf : plainC c = false := by simpa using h1
      have goes : stayC sl c = false → Ev (fun k => (if (strOfNums acc).size + 1 ≤ 9223372036854775807 then (if 0 ≤ ((Int.tdiv c 16) % 256) then (if ((Int.tdiv c 16) % 256) ≤ ((((Int.tdiv c 16) % 256) + 1) % 256) then (if ((((Int.tdiv c 16) % 256) + 1) % 256) ≤ 16 then (if ((strOfNums acc) ++ (⟨#[37]⟩ : ByteArray)).size + (digU.extract (((Int.tdiv c 16) % 256) : Int).toNat (((((Int.tdiv c 16) % 256) + 1) % 256) : Int).toNat).size ≤ 9223372036854775807 then (if 0 ≤ (Int.tmod c 16) then (if (Int.tmod c 16) ≤ (((Int.tmod c 16) + 1) % 256) then (if (((Int.tmod c 16) + 1) % 256) ≤ 16 then (if (((strOfNums acc) ++ (⟨#[37]⟩ : ByteArray)) ++ (digU.extract (((Int.tdiv c 16) % 256) : Int).toNat (((((Int.tdiv c 16) % 256) + 1) % 256) : Int).toNat)).size + (digU.extract ((Int.tmod c 16) : Int).toNat ((((Int.tmod c 16) + 1) % 256) : Int).toNat).size ≤ 9223372036854775807 then (shadowboxref28_Encode.l0 k s sl ((((strOfNums acc) ++ (⟨#[37]⟩ : ByteArray)) ++ (digU.extract (((Int.tdiv c 16) % 256) : Int).toNat (((((Int.tdiv c 16) % 256) + 1) % 256) : Int).toNat)) ++ (digU.extract ((Int.tmod c 16) : Int).toNat ((((Int.tmod c 16) + 1) % 256) : Int).toNat)) ((i + 1 : Nat) : Int)) else (none)) else (none)) else (none)) else (none)) else (none)) else (none)) else (none)) else (none)) else (none))) (strOfNums (acc ++ (encC sl c ++ encL sl ((bytesOf s).drop (i + 1))))) := by
        intro h
        have t1 : Int.tdiv c 16 % 256 = c / 16 := by rw [Int.tdiv_eq_ediv_of_nonneg hb.1]; omega
        have t2 : Int.tmod c 16 = c % 16 := Int.tmod_eq_emod_of_nonneg hb.1
        rw [t1, t2]
        have x1 := digU_cut (n := c / 16) (by omega) (by omega)
        have x2 := digU_cut (n := c % 16) (by omega) (by omega)
        rw [x1, x2, l37]
        rw [show encC sl c = [37, hexU (c / 16), hexU (c % 16)] by unfold encC; rw [if_neg (by rw [h]; decide)]] at e ⊢
        have es : (((strOfNums acc) ++ strOfNums [37]) ++ strOfNums [hexU (c / 16)]) ++ strOfNums [hexU (c % 16)] = strOfNums (acc ++ [37, hexU (c / 16), hexU (c % 16)]) := by simp only [← strOf_append, List.append_assoc]; rfl
        rw [es]
        exact Ev.congr (fun k => by rw [if_pos (by rw [strOfNums_size]; omega), if_pos (by omega), if_pos (by omega), if_pos (by omega), if_pos (by simp only [ByteArray.size_append, strOfNums_size, List.length_cons, List.length_nil]; omega), if_pos (by omega), if_pos (by omega), if_pos (by omega), if_pos (by simp only [ByteArray.size_append, strOfNums_size, List.length_cons, List.length_nil]; omega)]) e
      refine Ev.congr (fun k => by rw [if_neg h1]) ?_
      cases sl with
      | false => exact Ev.congr (fun k => by rw [if_neg (by decide)]) (goes (by unfold stayC; rw [hf]; rfl))
      | true =>
        by_cases h2 : c = 47
        · exact Ev.congr (fun k => by rw [if_pos rfl, if_pos h2]) (stays (by unfold stayC; rw [hf, h2]; rfl))
        · exact Ev.congr (fun k => by rw [if_pos rfl, if_neg h2]) (goes (by unfold stayC; rw [hf]; simp [h2]))
theorem ev_rEncode (s : ByteArray) (hs : s.size ≤ 10000000) (sl : Bool) : Ev (fun k => shadowboxref28_Encode.f k s sl) (encS sl s) := by
  have e := ev_rEncode_loop s hs sl s.size 0 [] (by omega) (by simp)
  exact e
end Go.Proofs.Ytdfghdppbfabfaa.P

/- Texts of a path: the reference's Decode and Path. -/
namespace Go.Proofs.Ytdfghdppbfabfaa.P
open Go.RowKit Go.Proofs.YtdfghdppbfabfaaW.PrintWords Go.Proofs.YtdfghdppbfabfaaW.PrintLast Go.Proofs.YtdfghdppbfabfaaW.PrintMore
set_option linter.unusedVariables false
set_option linter.unusedSimpArgs false

theorem ev_rDecode_loop (s : ByteArray) (hs : s.size ≤ 100000000) : ∀ (d i : Nat) (acc : List Int), s.size ≤ i + d → i ≤ s.size → acc.length ≤ i →
    Ev (fun k => shadowboxref28_Decode.l0 k s acc (i : Int)) (pdecR acc ((bytesOf s).drop i)) := by
  intro d
  induction d with
  | zero =>
    intro i acc hi hi2 ha
    unfold pdecR
    rw [List.drop_of_length_le (by rw [bytesOf_len]; omega), pdec_nil]
    exact Ev.step (fun k => by rw [shadowboxref28_Decode.l0, if_neg (by omega)]) (by simp only [List.append_nil]; exact Ev.now _)
  | succ d ih =>
    intro i acc hi hi2 ha
    by_cases hlt : (i : Int) < (s.size : Int)
    case neg =>
      unfold pdecR
      rw [List.drop_of_length_le (by rw [bytesOf_len]; omega), pdec_nil]
      exact Ev.step (fun k => by rw [shadowboxref28_Decode.l0, if_neg hlt]) (by simp only [List.append_nil]; exact Ev.now _)
    have w1 : wrap64 ((i : Int) + 1) = ((i + 1 : Nat) : Int) := w64 (by omega)
    have w2 : wrap64 ((i : Int) + 2) = ((i + 2 : Nat) : Int) := w64 (by omega)
    have w3 : wrap64 ((i : Int) + 3) = ((i + 3 : Nat) : Int) := w64 (by omega)
    have w4 : wrap64 (((i + 2 : Nat) : Int) + 1) = ((i + 3 : Nat) : Int) := w64 (by omega)
    refine Ev.step (fun k => by rw [shadowboxref28_Decode.l0, if_pos hlt, if_pos (by omega), w1, w2, w3, w4]) ?_
    have hd := drop_bt s i (by omega)
    by_cases h37 : bt s (i : Int) = 37
    · refine Ev.congr (fun k => by rw [if_pos h37]) ?_
      rw [hd, h37]
      have hl : ((bytesOf s).drop (i + 1)).length = s.size - (i + 1) := by rw [List.length_drop, bytesOf_len]
      by_cases hsh : ((i + 2 : Nat) : Int) ≥ (s.size : Int)
      · have hnone : pdecL (37 :: (bytesOf s).drop (i + 1)) = none := by
          match (bytesOf s).drop (i + 1), hl with
          | [], _ => exact pdec_zero
          | [a], _ => exact pdec_one
          | a :: b :: t, hl => simp at hl <;> omega
        unfold pdecR
        rw [hnone]
        exact Ev.congr (fun k => by rw [if_pos hsh]) (Ev.now _)
      · obtain ⟨a, b, t, hq⟩ : ∃ a b t, (bytesOf s).drop (i + 1) = a :: b :: t := by
          match (bytesOf s).drop (i + 1), hl with
          | [], hl => simp at hl <;> omega
          | [a], hl => simp at hl <;> omega
          | a :: b :: t, _ => exact ⟨a, b, t, rfl⟩
        have hx2 : bytesOf (s.extract (i + 1) (i + 3)) = [a, b] := by
          rw [bytesOf_extract, hq, show i + 3 - (i + 1) = 2 by omega]; rfl
        have hx3 : (bytesOf s).drop (i + 3) = t := by
          rw [show i + 3 = (i + 1) + 2 by omega, ← List.drop_drop, hq]; rfl
        have hs2 : (s.extract (i + 1) (i + 3)).size = 2 := by rw [← bytesOf_len, hx2]; rfl
        refine Ev.congr (fun k => by rw [if_neg hsh, if_pos (by omega), if_pos (by omega), if_pos (by omega), Int.toNat_natCast, Int.toNat_natCast]) ?_
        refine Ev.bind (ev_rLower _ (by omega)) ?_
        refine Ev.bind (ev_rReadHex _ (by rw [lowS_size]; omega)) ?_
        rw [bytes_lowS, hx2, show [a, b].map lowB = [lowB a, lowB b] from rfl, rhex_two, hq]
        by_cases hok : hexOk (lowB a) ∧ hexOk (lowB b)
        · rw [if_pos hok]
          have e := ih (i + 3) (acc ++ [16 * hexVal (lowB a) + hexVal (lowB b)]) (by omega) (by omega) (by simp only [List.length_append, List.length_cons, List.length_nil]; omega)
          rw [hx3] at e
          have he : pdecR acc (37 :: a :: b :: t) = pdecR (acc ++ [16 * hexVal (lowB a) + hexVal (lowB b)]) t := by
            unfold pdecR
            rw [pdec_two hok]
            cases pdecL t with
            | none => rfl
            | some x => simp
          rw [he]
          exact Ev.congr (fun k => by rw [if_pos rfl, if_pos (by simp), if_pos (by omega)]; rfl) e
        · rw [if_neg hok]
          unfold pdecR
          rw [pdec_two_no hok]
          exact Ev.congr (fun k => by rw [if_neg (by decide)]) (Ev.now _)
    · refine Ev.congr (fun k => by rw [if_neg h37, if_pos (by omega)]) ?_
      have e := ih (i + 1) (acc ++ [bt s (i : Int)]) (by omega) (by omega) (by simp only [List.length_append, List.length_cons, List.length_nil]; omega)
      rw [hd]
      have he : pdecR acc (bt s (i : Int) :: (bytesOf s).drop (i + 1)) = pdecR (acc ++ [bt s (i : Int)]) ((bytesOf s).drop (i + 1)) := by
        unfold pdecR
        rw [pdec_cons h37]
        cases pdecL ((bytesOf s).drop (i + 1)) with
        | none => rfl
        | some x => simp
      rw [he]
      exact e
theorem ev_rDecode (s : ByteArray) (hs : s.size ≤ 100000000) : Ev (fun k => shadowboxref28_Decode.f k s) (pdecR [] (bytesOf s)) := by
  have e := ev_rDecode_loop s hs s.size 0 [] (by omega) (by omega) (by simp)
  exact e
theorem cut2_nil : cut2 [] = ([], []) := rfl
theorem cut2_47 (l : List Int) : cut2 (47 :: l) = ([], l) := rfl
theorem cut2_cons {a : Int} {l : List Int} (h : a ≠ 47) : cut2 (a :: l) = (a :: (cut2 l).1, (cut2 l).2) := by
  unfold cut2
  rw [cutAt, if_neg h]
  cases cutAt 47 l <;> rfl
theorem ev_rPath_end (s x : ByteArray) (i : Nat) (hs : s.size ≤ 10000000) (hx : x.size ≤ 10000000) (h1 : 1 ≤ i) (h2 : i ≤ s.size) (p q : List Int) (hp : bytesOf (s.extract 1 i) = p) (hq : bytesOf x = q) :
    Ev (fun k => shadowboxref28_Path.j3 k s (i : Int) x) (pathT p q) := by
  have hsz : (s.extract 1 i).size ≤ 100000000 := by rw [ByteArray.size_extract]; omega
  refine Ev.step (fun k => by rw [shadowboxref28_Path.j3, if_pos (by omega), if_pos (by omega), Int.toNat_natCast]) ?_
  refine Ev.bind (ev_rDecode _ hsz) ?_
  refine Ev.bind (ev_rDecode x (by omega)) ?_
  rw [hp, hq]
  unfold pdecR pathT
  cases pdecL p with
  | none => exact Ev.congr (fun k => by simp [noPath]) (Ev.now _)
  | some u =>
    cases pdecL q with
    | none => exact Ev.congr (fun k => by simp [noPath]) (Ev.now _)
    | some v => exact Ev.congr (fun k => by simp) (Ev.now _)
theorem ev_rPath_loop (s : ByteArray) (hs : s.size ≤ 10000000) (r : List Int) (hr : bytesOf s = 47 :: r) : ∀ (d j : Nat), j + 1 + d = s.size →
    Ev (fun k => shadowboxref28_Path.l0 k s ((j + 1 : Nat) : Int)) (pathT (r.take j ++ (cut2 (r.drop j)).1) (cut2 (r.drop j)).2) := by
  have hlen := bytesOf_len s
  rw [hr] at hlen
  simp at hlen
  have htk : ∀ j, bytesOf (s.extract 1 (j + 1)) = r.take j := fun j => by rw [bytesOf_extract, hr]; rfl
  intro d
  induction d with
  | zero =>
    intro j hj
    rw [show r.drop j = [] from List.drop_of_length_le (by omega), cut2_nil]
    refine Ev.step (fun k => by rw [shadowboxref28_Path.l0, if_neg (by omega)]) ?_
    refine Ev.step (fun k => by rw [shadowboxref28_Path.j2, if_neg (by omega)]) ?_
    exact ev_rPath_end s (⟨#[]⟩ : ByteArray) (j + 1) hs (by decide) (by omega) (by omega) _ _ (by rw [htk, List.append_nil]) rfl
  | succ d ih =>
    intro j hj
    have hdr : r.drop j = bt s ((j + 1 : Nat) : Int) :: r.drop (j + 1) := by
      have := drop_bt s (j + 1) (by omega)
      rw [hr] at this
      exact this
    have hw : wrap64 (((j + 1 : Nat) : Int) + 1) = ((j + 1 + 1 : Nat) : Int) := w64 (by omega)
    refine Ev.step (fun k => by rw [shadowboxref28_Path.l0, if_pos (by omega), if_pos (by omega), hw]) ?_
    rw [hdr]
    by_cases h : bt s ((j + 1 : Nat) : Int) = 47
    · refine Ev.congr (fun k => by rw [if_pos h]) ?_
      rw [h, cut2_47]
      refine Ev.step (fun k => by rw [shadowboxref28_Path.j2, if_pos (by omega), hw, if_pos (by omega), if_pos (by omega), Int.toNat_natCast]) ?_
      have hx : bytesOf (s.extract (j + 1 + 1) s.size) = r.drop (j + 1) := by rw [drop_bytes, hr]; rfl
      exact ev_rPath_end s _ (j + 1) hs (by rw [ByteArray.size_extract]; omega) (by omega) (by omega) _ _ (by rw [htk, List.append_nil]) hx
    · have e := ih (j + 1) (by omega)
      have ht : r.take (j + 1) = r.take j ++ [bt s ((j + 1 : Nat) : Int)] := by
        rw [List.take_add_one, ← List.head?_drop, hdr]; rfl
      rw [ht, List.append_assoc] at e
      rw [cut2_cons h]
      exact Ev.congr (fun k => by rw [if_neg h]) e
theorem ev_rPath (s : ByteArray) (hs : s.size ≤ 10000000) : Ev (fun k => shadowboxref28_Path.f k s) (pathR (bytesOf s)) := by
  have hlen := bytesOf_len s
  by_cases hz : s.size = 0
  · rw [show bytesOf s = [] from List.eq_nil_of_length_eq_zero (by rw [hlen]; exact hz)]
    refine Ev.congr (fun k => by rw [shadowboxref28_Path.f, if_pos (by omega)]) ?_
    exact Ev.step (fun k => by rw [shadowboxref28_Path.j0, if_pos rfl]; rfl) (Ev.now _)
  · have hd := drop_bt s 0 (by omega)
    rw [List.drop_zero, show ((0 : Nat) : Int) = 0 from rfl] at hd
    refine Ev.congr (fun k => by rw [shadowboxref28_Path.f, if_neg (by omega), if_pos (by omega)]) ?_
    by_cases h : bt s 0 = 47
    · rw [h] at hd ⊢
      rw [hd, pathR_slash]
      refine Ev.step (fun k => by rw [shadowboxref28_Path.j0, if_neg (by decide)]) ?_
      have e := ev_rPath_loop s hs _ hd (s.size - 1) 0 (by omega)
      exact e
    · have hp : pathR (bytesOf s) = noPath := by rw [hd]; unfold pathR; exact if_neg h
      rw [hp]
      exact Ev.step (fun k => by rw [shadowboxref28_Path.j0, if_pos (by simpa using h)]; rfl) (Ev.now _)
end Go.Proofs.Ytdfghdppbfabfaa.P

/- PercentTells: for every string s, of which the first 1000 bytes are taken, either answer about slashes, and every byte: the program's and the document's Encode, Decode, Path and Plain tell the same; no condition. -/
namespace Go.Proofs.Ytdfghdppbfabfaa.Pure
open Go.RowKit Go.Proofs.Ytdfghdppbfabfaa.P Go.Proofs.YtdfghdppbfabfaaW.PrintWords Go.Proofs.YtdfghdppbfabfaaW.PrintLast
set_option linter.unusedVariables false
set_option linter.unusedSimpArgs false

theorem PercentTells : shadowboxlaw28_PercentTells.Pure := by
  intro s sl c hs hc
  refine Ev.rounds ?_
  have core : ∀ t : ByteArray, t.size ≤ 1000 → Ev (fun k => shadowboxlaw28_PercentTells.j0 k t sl c) true := by
    intro t ht
    have ee : Ev (fun k => percent_Encode.f k t sl) (encS sl t) := ev_Encode t (by omega) sl
    refine Ev.step (fun k => by rw [shadowboxlaw28_PercentTells.j0]) ?_
    refine Ev.bind (ev_Decode t (by omega)) ?_
    refine Ev.bind (ev_rDecode t (by omega)) ?_
    refine Ev.bind (ev_Path t (by omega)) ?_
    refine Ev.bind (ev_rPath t (by omega)) ?_
    refine Ev.bind ee ?_
    refine Ev.bind (ev_rEncode t (by omega) sl) ?_
    refine Ev.congr (fun k => by rw [if_pos rfl, if_pos rfl, if_pos (beq_self_eq_true _), Plain_eq, Option.bind_some]) ?_
    refine Ev.bind (ev_rPlain c) ?_
    refine Ev.congr (fun k => by rw [if_pos (beq_self_eq_true _), if_pos rfl, if_pos rfl, if_pos (beq_self_eq_true _)]) ?_
    refine Ev.bind (ev_Encode (⟨#[97, 32, 98, 47, 99]⟩ : ByteArray) (by decide) true) ?_
    exact Ev.congr (fun k => show some _ = some true from congrArg some (by decide +kernel)) (Ev.now _)
  by_cases h : (s.size : Int) > 1000
  · have hx : (s.extract 0 1000).size ≤ 1000 := by rw [ByteArray.size_extract]; omega
    exact Ev.congr (fun k => by rw [shadowboxlaw28_PercentTells.f, if_pos h, if_pos (by decide), if_pos (by omega)]) (core _ hx)
  · exact Ev.congr (fun k => by rw [shadowboxlaw28_PercentTells.f, if_neg h]) (core s (by omega))
end Go.Proofs.Ytdfghdppbfabfaa.Pure

namespace Go.Proofs.Ytdfghdppbfabfaa.percentTells
open Go.ChangeShapes Go.WideShapes Go.ChangeAt Go.RowKit
open Go.ChangeMaps (open_string shut_string)
set_option linter.unusedVariables false
theorem own : ownKnob Try.prog.godebug = none := by kernel_rfl
set_option maxRecDepth 100000 in
theorem lifted (os : Os) (started : os.Started) (H : Type) (enc : TypeId × Value → H) :
    ReturnsInHanded {} Try.checked os 8 .any (Rows.percentTellsSpec.pre6 enc Try.prog Try.f8 Rows.percentTellsRow.domain false) (Rows.percentTellsSpec.post enc Try.prog Try.f8 false true false false) := by
  refine returnsInHanded_of_change_sized (C := Try.checked) own started (by kernel_rfl) Try.func8
    (ChangeSpec.witness6 (enc := enc) (C := Try.checked) false ⟨#[], #[.string ByteArray.empty, .bool false, .int .u8 0], []⟩ 8 (by kernel_rfl) (by kernel_rfl) (by kernel_rfl) (by kernel_rfl)) ?_
  intro W base args ds gs before hval0 hW hcnd hsz0 _
  have hsz : (DataW.weightsEach Try.prog (Try.f8.params.toList ++ Rows.percentTellsSpec.plain.varTypes Try.prog) (ds ++ gs)).all (· ≤ reachBytes) = true := hsz0
  have hval : ∀ (j : Nat) t v, Try.f8.params[j]? = some t → args[j]? = some v → Value.okWide Try.prog W .any base t v := hval0
  have hW' := hW
  obtain ⟨p, q, hA0, hV, rfl, hfz, hnd⟩ := hW
  have hA : DataW.TrodAll enc Try.prog W 0 (fun _ => true) true Try.f8.params.toList args.toList ds p := hA0
  rw [Try.params8] at hA hval hsz
  obtain ⟨v0, vs0, d0, ds0, p0, q0, hargs, rfl, rfl, h0, r0⟩ := trodAll_cons hA
  obtain ⟨v1, vs1, d1, ds1, p1, q1, rfl, rfl, rfl, h1, r1⟩ := trodAll_cons r0
  obtain ⟨v2, vs2, d2, ds2, p2, q2, rfl, rfl, rfl, h2, r2⟩ := trodAll_cons r1
  obtain ⟨rfl, rfl, rfl⟩ := trodAll_nil r2
  obtain rfl : args = #[v0, v1, v2] := by cases args; simp_all
  obtain ⟨rfl, rfl⟩ := trodVars_none hV
  obtain ⟨a0, rfl, rfl, rfl, y0⟩ := open_string Try.underlying9 (hval 0 9 v0 rfl rfl) h0
  have w0 : a0.size ≤ 140737488351232 := by
    have z := sized_string hsz (j := 0) (t := 9) rfl rfl
    rw [Array.length_toList] at z
    exact z
  obtain ⟨a1, rfl, rfl, rfl⟩ := open_bool Try.underlying4 (hval 1 4 v1 rfl rfl) h1
  obtain ⟨a2, rfl, rfl, rfl, w2⟩ := open_int Try.underlying5 (hval 2 5 v2 rfl rfl) h2
  clear hA0 hval0 hsz0 hsz
  refine (P.shadowboxlaw28_PercentTells.walk Pure.PercentTells a0 a1 a2 W w0 w2).mono fun e W' ⟨he, bel⟩ => ?_
  subst he
  exact ⟨_, rfl, _, _, _, [], _, [], hW', trodAll_mk1 (shut_bool Try.underlying4 _), (trodAll_cons_mk (shut_string Try.underlying9 y0) (trodAll_cons_mk (shut_bool Try.underlying4 _) (trodAll_cons_mk (shut_int Try.underlying5 w2) trodAll_mk0))), rfl, bel.frame _, fun h => by cases h⟩
theorem over : Rows.percentTellsRow.holds Try.pinned (OpenSpec.ofChange Rows.percentTellsSpec) :=
  OpenClaim.holds_of_wide 8 Try.f8 rfl rfl rfl rfl rfl rfl rfl ⟨rfl, rfl, rfl, rfl, rfl⟩ rfl rfl rfl rfl rfl (by kernel_rfl) Try.func8 (by kernel_rfl)
    (of_decide_eq_true (by kernel_rfl)) (by unfold Func.isWrapper; first | (rw [if_pos (by decide +kernel)]; kernel_rfl) | (rw [if_neg (by decide +kernel)]; exact ⟨rfl, rfl⟩))
    (fun os started H enc _ => lifted os started H enc)
theorem proved : Rows.PercentTellsSaid := over
#print axioms proved
end Go.Proofs.Ytdfghdppbfabfaa.percentTells
namespace Go.Proofs.Ytdfghdppbfabfaa
/-- The row, under a short name, for the claim. -/
theorem percentTells_holds : Rows.PercentTellsSaid := percentTells.proved
end Go.Proofs.Ytdfghdppbfabfaa
