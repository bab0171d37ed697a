/- PercentPaths: for every two strings of together at most 1000 bytes (longer ones are let go): a slash, the first encoded, a slash, the second encoded with its slashes is parted into them; without the second: the first and nothing; without the slash ahead: no path. -/
import Derived.Test.YtdfghdppbfabfaaBPercentPathsa
import Derived.Test.YtdfghdppbfabfaaRows
import Derived.WalkKit
import Derived.ProofKit
import Derived.OpenShut
import Derived.ShutString
import Derived.ChangeOld
import Derived.Below
import Derived.SizedLaws
set_option linter.unusedVariables false
set_option linter.unusedSimpArgs false

/- PercentPaths: for every two strings of together at most 1000 bytes (longer ones are let go): a slash, the first encoded, a slash, the second encoded with its slashes is parted into them; without the second: the first and nothing; without the slash ahead: no path. -/
namespace Go.Proofs.Ytdfghdppbfabfaa.Pure
open Go.RowKit Go.Proofs.Ytdfghdppbfabfaa.P Go.Proofs.YtdfghdppbfabfaaW.PrintWords Go.Proofs.YtdfghdppbfabfaaW.PrintLast
set_option linter.unusedVariables false
set_option linter.unusedSimpArgs false

theorem PercentPaths : shadowboxlaw28_PercentPaths.Pure := by
  intro s t hs ht
  refine Ev.rounds ?_
  have hw : wrap64 ((s.size : Int) + (t.size : Int)) = (s.size : Int) + (t.size : Int) := w64 (by omega)
  by_cases h : (s.size : Int) + (t.size : Int) > 1000
  · exact Ev.congr (fun k => by rw [shadowboxlaw28_PercentPaths.f, hw, if_pos h]) (Ev.now _)
  have ee : Ev (fun k => percent_Encode.f k s false) (encS false s) := ev_Encode s (by omega) false
  have e2 : Ev (fun k => percent_Encode.f k t true) (encS true t) := ev_Encode t (by omega) true
  have z1 := encS_size false s
  have z2 := encS_size true t
  have hz : (⟨#[47]⟩ : ByteArray).size = 1 := rfl
  have b1 := bytes_encS false s
  have b2 := bytes_encS true t
  have hb : bytesOf (⟨#[47]⟩ : ByteArray) = [47] := by decide
  have n1 := enc_no47 (bytesOf s) (bytes_of s)
  refine Ev.congr (fun k => by rw [shadowboxlaw28_PercentPaths.f, hw, if_neg h]) ?_
  refine Ev.bind ee ?_
  refine Ev.congr (fun k => by rw [if_pos (by omega), if_pos (by rw [ByteArray.size_append]; omega)]) ?_
  refine Ev.bind e2 ?_
  refine Ev.congr (fun k => by rw [if_pos (by simp only [ByteArray.size_append]; omega)]) ?_
  refine Ev.bind (ev_Path _ (by simp only [ByteArray.size_append]; omega)) ?_
  have p1 : pathR (bytesOf ((((⟨#[47]⟩ : ByteArray) ++ encS false s) ++ (⟨#[47]⟩ : ByteArray)) ++ encS true t)) = (s, t, true) := by
    simp only [bytesOf_append, hb, b1, b2]
    have hc : cut2 (encL false (bytesOf s) ++ [47] ++ encL true (bytesOf t)) = (encL false (bytesOf s), encL true (bytesOf t)) := by
      unfold cut2
      rw [List.append_assoc]
      rw [show encL false (bytesOf s) ++ ([47] ++ encL true (bytesOf t)) = encL false (bytesOf s) ++ 47 :: encL true (bytesOf t) from rfl, cutAt_app _ _ n1]
    rw [show [47] ++ encL false (bytesOf s) ++ [47] ++ encL true (bytesOf t) = 47 :: (encL false (bytesOf s) ++ [47] ++ encL true (bytesOf t)) from rfl, pathR_slash, hc]
    unfold pathT
    rw [pdec_enc false _ (bytes_of s), pdec_enc true _ (bytes_of t)]
    show (strOfNums (bytesOf s), strOfNums (bytesOf t), true) = _
    rw [strOf_bytesOf, strOf_bytesOf]
  rw [p1]
  refine Ev.bind ee ?_
  refine Ev.congr (fun k => by rw [if_pos (by omega)]) ?_
  refine Ev.bind (ev_Path _ (by simp only [ByteArray.size_append]; omega)) ?_
  have p2 : pathR (bytesOf ((⟨#[47]⟩ : ByteArray) ++ encS false s)) = (s, ⟨#[]⟩, true) := by
    simp only [bytesOf_append, hb, b1]
    have hc : cut2 (encL false (bytesOf s)) = (encL false (bytesOf s), []) := by
      unfold cut2
      rw [cutAt_no _ n1]
    rw [show [47] ++ encL false (bytesOf s) = 47 :: encL false (bytesOf s) from rfl, pathR_slash, hc]
    unfold pathT
    rw [pdec_enc false _ (bytes_of s), pdec_nil]
    show (strOfNums (bytesOf s), strOfNums [], true) = _
    rw [strOf_bytesOf]
    rfl
  rw [p2]
  refine Ev.bind ee ?_
  refine Ev.bind (ev_Path _ (by omega)) ?_
  have p3 : pathR (bytesOf (encS false s)) = noPath := by
    rw [b1]
    unfold pathR
    cases hl : encL false (bytesOf s) with
    | nil => rfl
    | cons a r => exact if_neg (n1 a (by rw [hl]; exact List.mem_cons_self))
  rw [p3]
  exact Ev.congr (fun k => by rw [if_pos rfl, if_pos rfl, if_pos rfl, if_pos rfl, if_pos rfl, if_pos (size_nil.2 rfl)]; rfl) (Ev.now _)
end Go.Proofs.Ytdfghdppbfabfaa.Pure

namespace Go.Proofs.Ytdfghdppbfabfaa.percentPaths
open Go.ChangeShapes Go.WideShapes Go.ChangeAt Go.RowKit
open Go.ChangeMaps (open_string shut_string)
set_option linter.unusedVariables false
theorem own : ownKnob Try.prog.godebug = none := by kernel_rfl
set_option maxRecDepth 100000 in
theorem lifted (os : Os) (started : os.Started) (H : Type) (enc : TypeId × Value → H) :
    ReturnsInHanded {} Try.checked os 9 .any (Rows.percentPathsSpec.pre6 enc Try.prog Try.f9 Rows.percentPathsRow.domain false) (Rows.percentPathsSpec.post enc Try.prog Try.f9 false true false false) := by
  refine returnsInHanded_of_change_sized (C := Try.checked) own started (by kernel_rfl) Try.func9
    (ChangeSpec.witness6 (enc := enc) (C := Try.checked) false ⟨#[], #[.string ByteArray.empty, .string ByteArray.empty], []⟩ 8 (by kernel_rfl) (by kernel_rfl) (by kernel_rfl) (by kernel_rfl)) ?_
  intro W base args ds gs before hval0 hW hcnd hsz0 _
  have hsz : (DataW.weightsEach Try.prog (Try.f9.params.toList ++ Rows.percentPathsSpec.plain.varTypes Try.prog) (ds ++ gs)).all (· ≤ reachBytes) = true := hsz0
  have hval : ∀ (j : Nat) t v, Try.f9.params[j]? = some t → args[j]? = some v → Value.okWide Try.prog W .any base t v := hval0
  have hW' := hW
  obtain ⟨p, q, hA0, hV, rfl, hfz, hnd⟩ := hW
  have hA : DataW.TrodAll enc Try.prog W 0 (fun _ => true) true Try.f9.params.toList args.toList ds p := hA0
  rw [Try.params9] at hA hval hsz
  obtain ⟨v0, vs0, d0, ds0, p0, q0, hargs, rfl, rfl, h0, r0⟩ := trodAll_cons hA
  obtain ⟨v1, vs1, d1, ds1, p1, q1, rfl, rfl, rfl, h1, r1⟩ := trodAll_cons r0
  obtain ⟨rfl, rfl, rfl⟩ := trodAll_nil r1
  obtain rfl : args = #[v0, v1] := by cases args; simp_all
  obtain ⟨rfl, rfl⟩ := trodVars_none hV
  obtain ⟨a0, rfl, rfl, rfl, y0⟩ := open_string Try.underlying9 (hval 0 9 v0 rfl rfl) h0
  have w0 : a0.size ≤ 140737488351232 := by
    have z := sized_string hsz (j := 0) (t := 9) rfl rfl
    rw [Array.length_toList] at z
    exact z
  obtain ⟨a1, rfl, rfl, rfl, y1⟩ := open_string Try.underlying9 (hval 1 9 v1 rfl rfl) h1
  have w1 : a1.size ≤ 140737488351232 := by
    have z := sized_string hsz (j := 1) (t := 9) rfl rfl
    rw [Array.length_toList] at z
    exact z
  clear hA0 hval0 hsz0 hsz
  refine (P.shadowboxlaw28_PercentPaths.walk Pure.PercentPaths a0 a1 W w0 w1).mono fun e W' ⟨he, bel⟩ => ?_
  subst he
  exact ⟨_, rfl, _, _, _, [], _, [], hW', trodAll_mk1 (shut_bool Try.underlying4 _), (trodAll_cons_mk (shut_string Try.underlying9 y0) (trodAll_cons_mk (shut_string Try.underlying9 y1) trodAll_mk0)), rfl, bel.frame _, fun h => by cases h⟩
theorem over : Rows.percentPathsRow.holds Try.pinned (OpenSpec.ofChange Rows.percentPathsSpec) :=
  OpenClaim.holds_of_wide 9 Try.f9 rfl rfl rfl rfl rfl rfl rfl ⟨rfl, rfl, rfl, rfl, rfl⟩ rfl rfl rfl rfl rfl (by kernel_rfl) Try.func9 (by kernel_rfl)
    (of_decide_eq_true (by kernel_rfl)) (by unfold Func.isWrapper; first | (rw [if_pos (by decide +kernel)]; kernel_rfl) | (rw [if_neg (by decide +kernel)]; exact ⟨rfl, rfl⟩))
    (fun os started H enc _ => lifted os started H enc)
theorem proved : Rows.PercentPathsSaid := over
#print axioms proved
end Go.Proofs.Ytdfghdppbfabfaa.percentPaths
namespace Go.Proofs.Ytdfghdppbfabfaa
/-- The row, under a short name, for the claim. -/
theorem percentPaths_holds : Rows.PercentPathsSaid := percentPaths.proved
end Go.Proofs.Ytdfghdppbfabfaa
