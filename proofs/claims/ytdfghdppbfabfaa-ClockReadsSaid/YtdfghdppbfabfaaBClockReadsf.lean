/- Part of the proof of ClockReads: walks and plain words, merged. -/
import Derived.Test.YtdfghdppbfabfaaBClockReadse
import Derived.Test.YtdfghdppbfabfaaRows
import Derived.Test.YtdfghdppbfabfaaChecked
import Derived.WalkKit
import Derived.ProofKit
import Derived.OpenShut
set_option linter.unusedVariables false
set_option linter.unusedSimpArgs false

/- The calendar: web times that are read, and the law ClockReads. -/
set_option linter.unusedVariables false
set_option linter.unusedSimpArgs false
namespace Go.Proofs.YtdfghdppbfabfaaX
open Go

theorem nmI_3 (s : List UInt8) (v : Int) (h : 0 ≤ v) (h2 : 3 * v + 3 ≤ s.length) : (nmI s v).length = 3 := by
  unfold nmI
  rw [List.length_drop, List.length_take]; omega
theorem web_cuts {t : Tm} (hr : rT t) : cut (webT t) 12 16 = numL 4 t.1.toNat ∧ cut (webT t) 5 7 = numL 2 t.2.2.1.toNat ∧ cut (webT t) 17 19 = numL 2 t.2.2.2.1.toNat ∧ cut (webT t) 20 22 = numL 2 t.2.2.2.2.1.toNat ∧ cut (webT t) 23 25 = numL 2 t.2.2.2.2.2.toNat ∧ cut (webT t) 8 11 = nmI janL (t.2.1 - 1) ∧ (webT t).length = 29 := by
  have hb := weekT_bd hr
  obtain ⟨f1, f2, f3, f4, f5, f6⟩ := rT_fits hr
  unfold webT timeT cut
  obtain ⟨a, b, c, d, e1⟩ := len4 (numL_len 4 t.1.toNat)
  obtain ⟨x2, y2, e3⟩ := len2 (numL_len 2 t.2.2.1.toNat)
  obtain ⟨x3, y3, e4⟩ := len2 (numL_len 2 t.2.2.2.1.toNat)
  obtain ⟨x4, y4, e5⟩ := len2 (numL_len 2 t.2.2.2.2.1.toNat)
  obtain ⟨x5, y5, e6⟩ := len2 (numL_len 2 t.2.2.2.2.2.toNat)
  obtain ⟨p1, p2, p3, e7⟩ := len3 (nmI_3 sunL (weekT t) (by omega) (by show _ ≤ (21 : Int); omega))
  obtain ⟨q1, q2, q3, e8⟩ := len3 (nmI_3 janL (t.2.1 - 1) (by omega) (by show _ ≤ (36 : Int); omega))
  rw [e1, e3, e4, e5, e6, e7, e8]
  exact ⟨rfl, rfl, rfl, rfl, rfl, rfl, rfl⟩
def scanM (sl : List UInt8) : Nat → Nat → Int → Int
  | 0, _, mo => mo
  | d + 1, k, mo => scanM sl d (k + 1) (if nmI janL (k : Int) = sl then (k : Int) + 1 else mo)
theorem scan_hit {M : Int} (h : 1 ≤ M ∧ M ≤ 12) : scanM (nmI janL (M - 1)) 12 0 0 = M := by
  have : ∀ r : Fin 12, scanM (nmI janL ((r.val : Int) + 1 - 1)) 12 0 0 = (r.val : Int) + 1 := by decide
  obtain ⟨k, rfl⟩ : ∃ k : Nat, M = (k : Int) + 1 := ⟨(M - 1).toNat, by omega⟩
  exact this ⟨k, by omega⟩
def tmW (s : List UInt8) : Tm := (valP (cut s 12 16), scanM (cut s 8 11) 12 0 0, valP (cut s 5 7), valP (cut s 17 19), valP (cut s 20 22), valP (cut s 23 25))
theorem web_val {t : Tm} (hr : rT t) : tmW (webT t) = t ∧ valQ (cut (webT t) 12 16) = t.1 ∧ valQ (cut (webT t) 5 7) = t.2.2.1 ∧ valQ (cut (webT t) 17 19) = t.2.2.2.1 ∧ valQ (cut (webT t) 20 22) = t.2.2.2.2.1 ∧ valQ (cut (webT t) 23 25) = t.2.2.2.2.2 := by
  obtain ⟨f1, f2, f3, f4, f5, f6⟩ := rT_fits hr
  obtain ⟨c1, c3, c4, c5, c6, c2, _⟩ := web_cuts hr
  have e1 := val_eq c1 (by omega) (by omega)
  have e3 := val_eq c3 (by omega) (by omega)
  have e4 := val_eq c4 (by omega) (by omega)
  have e5 := val_eq c5 (by omega) (by omega)
  have e6 := val_eq c6 (by omega) (by omega)
  refine ⟨?_, e1.2, e3.2, e4.2, e5.2, e6.2⟩
  unfold tmW
  rw [e1.1, e3.1, e4.1, e5.1, e6.1, c2, scan_hit f2]
theorem web_inj (t u : Tm) (h : rT t) (k : rT u) (e : webT t = webT u) : t = u := by rw [← (web_val h).1, e, (web_val k).1]
theorem iso_inj (t u : Tm) (h : rT t) (k : rT u) (e : isoT t = isoT u) : t = u := by rw [← (iso_val (rT_fits h)).1, e, (iso_val (rT_fits k)).1]
theorem short_inj (t u : Tm) (h : rT t) (k : rT u) (e : shortT t = shortT u) : t = u := by rw [← (short_val (rT_fits h)).1, e, (short_val (rT_fits k)).1]
theorem web_ne (t : Tm) : webT t ≠ [] := by unfold webT; simp
theorem ev_web_l (s : List UInt8) (hs : s.length = 29) (Y D h m c : Int) : ∀ (d k : Nat) (mo : Int), k + d = 12 →
    Ev (fun n => F29_L1 n s (k : Int) Y mo D h m c) (if rT (Y, scanM (cut s 8 11) d k mo, D, h, m, c) ∧ webT (Y, scanM (cut s 8 11) d k mo, D, h, m, c) = s then ((Y, scanM (cut s 8 11) d k mo, D, h, m, c), true) else zeroT) := by
  intro d
  induction d with
  | zero =>
    intro k mo hk
    rw [scanM]
    obtain ⟨N, hN⟩ := ev_Web (Y, mo, D, h, m, c)
    refine Ev.step ⟨N, fun n hn => ?_⟩
    have e : F16 n (Y, mo, D, h, m, c) = some (orE (rT (Y, mo, D, h, m, c)) (webT (Y, mo, D, h, m, c))) := hN n hn
    show F29_L1 (n + 1) s (k : Int) Y mo D h m c = _
    rw [F29_L1, decide_eq_false (by omega), iteB_f, e, bind_some', kept_eq n _ _ s (web_ne _), bind_some']
  | succ d ih =>
    intro k mo hk
    have w1 : IntKind.wrap .i64 ((k : Int) + 1) = ((k + 1 : Nat) : Int) := by rw [w64 (by omega)]; omega
    have nm : ∀ n, F49 n janL (k : Int) = some (nmI janL (k : Int)) := fun n => name_eq n janL (k : Int) (by omega) (by show _ ≤ (36 : Int); omega)
    rw [scanM]
    by_cases he : nmI janL (k : Int) = cut s 8 11
    · rw [if_pos he]
      refine Ev.step ((ih (k + 1) ((k : Int) + 1) (by omega)).congr fun n => ?_)
      have nm1 := nm n
      unfold janL at nm1
      rw [F29_L1, decide_eq_true (by omega), iteB_t, nm1, bind_some', grd_t _ (by omega), w1]
      show iteB (nmI janL (k : Int) == cut s 8 11) _ _ = _
      rw [he, beq_self_eq_true, iteB_t]
      congr 1
    · rw [if_neg he]
      refine Ev.step ((ih (k + 1) mo (by omega)).congr fun n => ?_)
      have nm1 := nm n
      unfold janL at nm1
      rw [F29_L1, decide_eq_true (by omega), iteB_t, nm1, bind_some', grd_t _ (by omega), w1]
      show iteB (nmI janL (k : Int) == cut s 8 11) _ _ = _
      rw [show (nmI janL (k : Int) == cut s 8 11) = false by rw [beq_eq_false_iff_ne]; exact he, iteB_f]
theorem ev_ReadWeb (s : List UInt8) : ∃ r, isR webT s r ∧ Ev (fun k => F29 k s) r := by
  by_cases hs : s.length = 29
  · refine ⟨_, isR_of (u := tmW s) (fun t hr e => by rw [← e]; exact (web_val hr).1), ?_⟩
    obtain ⟨N, hN⟩ := ev_fields s 12 16 5 7 17 19 20 22 23 25 23 25 (by omega)
    obtain ⟨M, hM⟩ := ev_web_l s hs (valP (cut s 12 16)) (valP (cut s 5 7)) (valP (cut s 17 19)) (valP (cut s 20 22)) (valP (cut s 23 25)) 12 0 0 (by omega)
    refine ⟨N + M, fun n hn => ?_⟩
    obtain ⟨k1, k2, k3, k4, k5, k6⟩ := hN n (by omega)
    have k7 := hM n (by omega)
    dsimp only at k7
    have kk1 : F55 n s 12 16 = some (valP (cut s 12 16)) := k1
    have kk2 : F55 n s 5 7 = some (valP (cut s 5 7)) := k2
    have kk3 : F55 n s 17 19 = some (valP (cut s 17 19)) := k3
    have kk4 : F55 n s 20 22 = some (valP (cut s 20 22)) := k4
    have kk5 : F55 n s 23 25 = some (valP (cut s 23 25)) := k5
    show F29 n s = _
    rw [F29, show ((s.length : Int) != 29) = false by rw [hs]; rfl, iteB_f, kk1, bind_some', kk2, bind_some', kk3, bind_some', kk4, bind_some', kk5, bind_some']
    exact k7
  · refine ⟨zeroT, len_no 29 (fun t hr => (web_cuts hr).2.2.2.2.2.2) hs, Ev.pure.congr fun k => ?_⟩
    rw [F29, show ((s.length : Int) != 29) = true by rw [bne_iff_ne]; omega, iteB_t]; rfl
theorem orE_beq {t : Tm} {l s : List UInt8} {n : Nat} (hs : s.length = n + 1) : (orE (rT t) l == s) = decide (rT t ∧ l = s) := by
  unfold orE
  by_cases hr : rT t
  · rw [if_pos hr]
    by_cases he : l = s
    · rw [decide_eq_true ⟨hr, he⟩, he, beq_self_eq_true]
    · rw [decide_eq_false (fun h => he h.2), beq_eq_false_iff_ne]; exact he
  · rw [if_neg hr, decide_eq_false (fun h => hr h.1), beq_eq_false_iff_ne]; exact fun e => ne_nil hs e.symm
theorem ev_rweb_no (s : List UInt8) (hs : s.length = 29) (hn : ¬ ∃ t, rT t ∧ webT t = s) (Y D h m c : Int) : ∀ (d k : Nat) (x : Int), k + d = 13 →
    Ev (fun n => F30_L1 n s (k : Int) Y x D h m c) zeroT := by
  intro d
  induction d with
  | zero =>
    intro k x hk
    refine Ev.step (Ev.pure.congr fun n => ?_)
    rw [F30_L1, decide_eq_false (by omega), iteB_f]; rfl
  | succ d ih =>
    intro k x hk
    have w1 : IntKind.wrap .i64 ((k : Int) + 1) = ((k + 1 : Nat) : Int) := by rw [w64 (by omega)]; omega
    obtain ⟨N, hN⟩ := ev_rWeb (Y, (k : Int), D, h, m, c)
    obtain ⟨M, hM⟩ := ih (k + 1) (k : Int) (by omega)
    refine Ev.step ⟨N + M, fun n hn' => ?_⟩
    have e : F21 n (Y, (k : Int), D, h, m, c) = some (orE (rT (Y, (k : Int), D, h, m, c)) (webT (Y, (k : Int), D, h, m, c))) := hN n (by omega)
    have e2 : F30_L1 n s ((k + 1 : Nat) : Int) Y (k : Int) D h m c = some zeroT := hM n (by omega)
    show F30_L1 (n + 1) s (k : Int) Y x D h m c = _
    rw [F30_L1, decide_eq_true (by omega), iteB_t, e, bind_some', orE_beq hs, decide_eq_false (fun h => hn ⟨_, h⟩), iteB_f, w1, e2]
theorem ev_rweb_yes (s : List UInt8) (hs : s.length = 29) (t : Tm) (hr : rT t) (ht : webT t = s) : ∀ (d k : Nat) (x : Int), (k : Int) + d = t.2.1 →
    Ev (fun n => F30_L1 n s (k : Int) t.1 x t.2.2.1 t.2.2.2.1 t.2.2.2.2.1 t.2.2.2.2.2) (t, true) := by
  have hm := right_month' hr
  intro d
  induction d with
  | zero =>
    intro k x hk
    have hk' : (k : Int) = t.2.1 := by omega
    rw [hk']
    obtain ⟨N, hN⟩ := ev_rWeb t
    refine Ev.step ⟨N, fun n hn' => ?_⟩
    have e : F21 n t = some (orE (rT t) (webT t)) := hN n (by omega)
    show F30_L1 (n + 1) s t.2.1 t.1 x t.2.2.1 t.2.2.2.1 t.2.2.2.2.1 t.2.2.2.2.2 = _
    rw [F30_L1, decide_eq_true (by omega), iteB_t, tm_eta, e, bind_some', orE_beq hs, decide_eq_true ⟨hr, ht⟩, iteB_t]
  | succ d ih =>
    intro k x hk
    have w1 : IntKind.wrap .i64 ((k : Int) + 1) = ((k + 1 : Nat) : Int) := by rw [w64 (by omega)]; omega
    obtain ⟨N, hN⟩ := ev_rWeb (t.1, (k : Int), t.2.2.1, t.2.2.2.1, t.2.2.2.2.1, t.2.2.2.2.2)
    obtain ⟨M, hM⟩ := ih (k + 1) (k : Int) (by omega)
    refine Ev.step ⟨N + M, fun n hn' => ?_⟩
    have e := hN n (by omega)
    dsimp only at e
    have e2 : F30_L1 n s ((k + 1 : Nat) : Int) t.1 (k : Int) t.2.2.1 t.2.2.2.1 t.2.2.2.2.1 t.2.2.2.2.2 = some (t, true) := hM n (by omega)
    show F30_L1 (n + 1) s (k : Int) t.1 x t.2.2.1 t.2.2.2.1 t.2.2.2.2.1 t.2.2.2.2.2 = _
    rw [F30_L1, decide_eq_true (by omega), iteB_t, e, bind_some', orE_beq hs, decide_eq_false (fun h => ?_), iteB_f, w1, e2]
    have := web_inj _ t h.1 hr (h.2.trans ht.symm)
    have h2 : (k : Int) = t.2.1 := congrArg (fun t : Tm => t.2.1) this
    omega
theorem ev_rReadWeb (s : List UInt8) : ∃ r, isR webT s r ∧ Ev (fun k => F30 k s) r := by
  by_cases hs : s.length = 29
  · obtain ⟨N, hN⟩ := ev_values s 12 16 5 7 17 19 20 22 23 25 23 25 (by omega)
    have step : ∀ r, Ev (fun n => F30_L1 n s 1 (valQ (cut s 12 16)) 0 (valQ (cut s 5 7)) (valQ (cut s 17 19)) (valQ (cut s 20 22)) (valQ (cut s 23 25))) r → Ev (fun k => F30 k s) r := by
      intro r ⟨M, hM⟩
      refine ⟨N + M, fun n hn => ?_⟩
      obtain ⟨k1, k2, k3, k4, k5, k6⟩ := hN n (by omega)
      have k7 := hM n (by omega)
      show F30 n s = _
      rw [F30, show ((s.length : Int) != 29) = false by rw [hs]; rfl, iteB_f, k1, k2, k3, k4, k5]
      repeat (first | rw [bind_some'] | rw [grd_t _ (by omega)])
      exact k7
    by_cases h : ∃ t, rT t ∧ webT t = s
    · obtain ⟨t, hr, ht⟩ := h
      refine ⟨(t, true), Or.inl ⟨t, hr, ht, rfl⟩, step _ ?_⟩
      obtain ⟨_, e1, e3, e4, e5, e6⟩ := web_val hr
      rw [ht] at e1 e3 e4 e5 e6
      rw [e1, e3, e4, e5, e6]
      have hm := right_month' hr
      exact ev_rweb_yes s hs t hr ht (t.2.1 - 1).toNat 1 0 (by omega)
    · refine ⟨zeroT, Or.inr ⟨h, rfl⟩, step _ ?_⟩
      exact ev_rweb_no s hs h _ _ _ _ _ 12 1 0 (by omega)
  · refine ⟨zeroT, len_no 29 (fun t hr => (web_cuts hr).2.2.2.2.2.2) hs, Ev.pure.congr fun k => ?_⟩
    rw [F30, show ((s.length : Int) != 29) = true by rw [bne_iff_ne]; omega, iteB_t]; rfl
def exL : List UInt8 := 83 :: 117 :: 110 :: 44 :: 32 :: 48 :: 54 :: 32 :: 78 :: 111 :: 118 :: 32 :: 49 :: 57 :: 57 :: 52 :: 32 :: 48 :: 56 :: 58 :: 52 :: 57 :: 58 :: 51 :: 55 :: 32 :: 71 :: 77 :: 84 :: ([] : List UInt8)
def exT : Tm := (1994, 11, 6, 8, 49, 37)
theorem ex_right : rT exT := by decide
theorem ex_told : webT exT = exL := by decide
theorem law_j (s : List UInt8) : Ev (fun n => F6_J1 n s) true := by
  obtain ⟨a, ha, N1, k1⟩ := ev_ReadWeb s
  obtain ⟨a', ha', N2, k2⟩ := ev_rReadWeb s
  obtain rfl := isR_one web_inj ha ha'
  obtain ⟨b, hb, N3, k3⟩ := ev_ReadIso s
  obtain ⟨b', hb', N4, k4⟩ := ev_rReadIso s
  obtain rfl := isR_one iso_inj hb hb'
  obtain ⟨c, hc, N5, k5⟩ := ev_ReadShort s
  obtain ⟨c', hc', N6, k6⟩ := ev_rReadShort s
  obtain rfl := isR_one short_inj hc hc'
  obtain ⟨e, he, N7, k7⟩ := ev_ReadWeb exL
  obtain rfl := isR_one web_inj he (Or.inl ⟨exT, ex_right, ex_told, rfl⟩)
  refine ⟨N1 + N2 + N3 + N4 + N5 + N6 + N7, fun n hn => ?_⟩
  have e1 : F29 n s = some a := k1 n (by omega)
  have e2 : F30 n s = some a := k2 n (by omega)
  have e3 : F31 n s = some b := k3 n (by omega)
  have e4 : F32 n s = some b := k4 n (by omega)
  have e5 : F33 n s = some c := k5 n (by omega)
  have e6 : F34 n s = some c := k6 n (by omega)
  have e7 : F29 n exL = some (exT, true) := k7 n (by omega)
  unfold exL at e7
  show F6_J1 n s = _
  rw [F6_J1, e1, e2, e3, e4, e5, e6, e7]
  simp only [bind_some', beq_self_eq_true, Bool.and_self, iteB_t]
  rfl
theorem law_main (v0 : List UInt8) (h0 : okT9 v0) : ∃ n, F6 n v0 = some true := by
  by_cases h : (200 : Int) < (v0.length : Int)
  · obtain ⟨N, hN⟩ := law_j (v0.take 200)
    refine ⟨N, ?_⟩
    rw [F6, decide_eq_true h, iteB_t, grd_t _ (by omega)]
    exact hN N (Nat.le_refl _)
  · obtain ⟨N, hN⟩ := law_j v0
    refine ⟨N, ?_⟩
    rw [F6, decide_eq_false h, iteB_f]
    exact hN N (Nat.le_refl _)
end Go.Proofs.YtdfghdppbfabfaaX

set_option linter.unusedVariables false
namespace Go.Proofs.YtdfghdppbfabfaaX
open Go Go.RowKit Go.Proofs
set_option maxRecDepth 100000
theorem shapedRow (xs : List T) (h : ShapesW Try.prog [9] xs) : FnC Try.prog 6 xs (tb true) := shapedClockReads law_main xs h
end Go.Proofs.YtdfghdppbfabfaaX
namespace Go.Proofs.Ytdfghdppbfabfaa.clockReads
open Go.ChangeShapes Go.WideShapes Go.ChangeAt Go.RowKit
set_option linter.unusedVariables false
theorem own : ownKnob Try.prog.godebug = none := by kernel_rfl
set_option maxRecDepth 100000 in
theorem lifted (os : Os) (started : os.Started) (H : Type) (enc : TypeId × Value → H) :
    ReturnsInHanded {} Try.checked os 6 .any (Rows.clockReadsSpec.pre6 enc Try.prog Try.f6 Rows.clockReadsRow.domain false) (Rows.clockReadsSpec.post enc Try.prog Try.f6 false true false false) := by
  refine returnsInHanded_of_change_sized (C := Try.checked) own started (by kernel_rfl) Try.func6
    (ChangeSpec.witness6 (enc := enc) (C := Try.checked) false ⟨#[], #[.string ByteArray.empty], []⟩ 8 (by kernel_rfl) (by kernel_rfl) (by kernel_rfl) (by kernel_rfl)) ?_
  intro W base args ds gs before hval0 hW hcnd hsz0 _
  exact YtdfghdppbfabfaaX.row_contract (P := Try.prog) (fn := Try.f6) (s := Rows.clockReadsSpec) (ts := [9]) (tb := 4) (L := [9]) (by kernel_rfl) (by kernel_rfl) (by kernel_rfl) (by kernel_rfl) (by kernel_rfl) (by kernel_rfl) rfl
    (fun H ds h => by
      match ds, h with
      | [d0], _ => rfl) YtdfghdppbfabfaaX.shapedRow W base args ds gs before hval0 hW
theorem over : Rows.clockReadsRow.holds Try.pinned (OpenSpec.ofChange Rows.clockReadsSpec) :=
  OpenClaim.holds_of_wide 6 Try.f6 rfl rfl rfl rfl rfl rfl rfl ⟨rfl, rfl, rfl, rfl, rfl⟩ rfl rfl rfl rfl rfl (by kernel_rfl) Try.func6 (by kernel_rfl)
    (of_decide_eq_true (by kernel_rfl)) (by unfold Func.isWrapper; first | (rw [if_pos (by decide +kernel)]; kernel_rfl) | (rw [if_neg (by decide +kernel)]; exact ⟨rfl, rfl⟩))
    (fun os started H enc _ => lifted os started H enc)
theorem proved : Rows.ClockReadsSaid := over
#print axioms proved
end Go.Proofs.Ytdfghdppbfabfaa.clockReads
namespace Go.Proofs.Ytdfghdppbfabfaa
/-- The row, under a short name, for the claim. -/
theorem clockReads_holds : Rows.ClockReadsSaid := clockReads.proved
end Go.Proofs.Ytdfghdppbfabfaa
