/- Part of the proof of LifecycleStays: walks and plain words, merged. -/
import Derived.Test.YtjkfobmfddfjhaaDoorBLifecycleStayse
import Derived.Test.YtjkfobmfddfjhaaDoorBLifecycleStaysc
import Derived.Test.YtjkfobmfddfjhaaDoorBLifecycleStaysd
import Derived.Test.YtjkfobmfddfjhaaDoorRows
import Derived.Test.YtjkfobmfddfjhaaDoorCards
import Derived.Test.YtjkfobmfddfjhaaDoorTie
import Derived.Test.YtjkfobmfddfjhaaDoorChecked
import Derived.WalkKit
import Derived.ProofKit
import Derived.OpenShut
import Derived.Lay
import Derived.LaidMore
import Derived.LaidOnce
import Derived.SevenTiedAt
set_option linter.unusedVariables false
set_option linter.unusedSimpArgs false

/- XmlinTexts: a text that is escaped is told as it was. -/
set_option linter.unusedVariables false
set_option linter.unusedSimpArgs false
namespace Go.Proofs.YtjkfobmfddfjhaaDoorX
open Go
theorem toB_ints (s : List UInt8) : (ints s).map toB = s := (of_ints rfl).symm
theorem ints_app (a b : List UInt8) : ints (a ++ b) = ints a ++ ints b := by simp [ints]
theorem read_nil : readD [] = (0, false) := rfl
/-! ### Characters that have names -/
def ent (c : Int) : Prop := c = 60 ∨ c = 62 ∨ c = 38 ∨ c = 34 ∨ c = 13
instance (c : Int) : Decidable (ent c) := by unfold ent; exact inferInstance
def entN (c : Int) : List UInt8 := if c = 60 then [108, 116] else if c = 62 then [103, 116] else if c = 38 then [97, 109, 112] else if c = 34 then [113, 117, 111, 116] else [35, 49, 51]
def cln (c : Int) : Int := if ent c then c else if c = 9 ∨ c = 10 then c else if c = 65534 ∨ c = 65535 then 65533 else if c < 32 then 65533 else c
theorem esc_ent {c : Int} (h : ent c) : (esc1 c).map toB = 38 :: (entN c ++ [59]) ∧ (59 : UInt8) ∉ entN c ∧ putU (cln c) = [c] ∧ 0 ≤ c ∧ c ≤ 255 := by
  unfold ent at h
  rcases h with rfl | rfl | rfl | rfl | rfl <;> exact ⟨by decide, by decide, by decide, by decide, by decide⟩
theorem esc_plain {c : Int} (h : ¬ ent c) (hr : rightU c) : esc1 c = putU (cln c) ∧ ∀ x ∈ putU (cln c), x ≠ 38 := by
  have e : esc1 c = putU (cln c) := by
    unfold ent at h
    unfold esc1 escC cln
    rw [if_neg (by omega), if_neg (by omega), if_neg (by omega), if_neg (by omega), if_neg (by omega), if_neg (show ¬ ent c from h)]
    split
    · exact flatU_one c
    · split
      · exact flatU_one _
      · split
        · exact flatU_one _
        · exact flatU_one c
  refine ⟨e, fun x hx => ?_⟩
  have hc : rightU (cln c) ∧ cln c ≠ 38 := by
    unfold ent at h
    unfold cln
    rw [if_neg (show ¬ ent c from h)]
    split
    · exact ⟨hr, by omega⟩
    · split
      · exact ⟨right_fffd, by omega⟩
      · split
        · exact ⟨right_fffd, by omega⟩
        · exact ⟨hr, by omega⟩
  by_cases h8 : cln c < 128
  · rw [putU_1 hc.1 h8] at hx
    simp only [List.mem_cons, List.not_mem_nil, or_false] at hx
    rw [hx]; exact hc.2
  · have := putU_hi hc.1 (by omega) x hx
    omega
theorem ent_split : ∀ cs : List Int, (∀ c ∈ cs, ¬ ent c) ∨ ∃ ps c r, cs = ps ++ c :: r ∧ (∀ p ∈ ps, ¬ ent p) ∧ ent c
  | [] => .inl (by simp)
  | c :: cs => by
    by_cases h : ent c
    · exact .inr ⟨[], c, cs, rfl, by simp, h⟩
    · rcases ent_split cs with h1 | ⟨ps, d, r, rfl, h2, h3⟩
      · refine .inl fun x hx => ?_
        rcases List.mem_cons.1 hx with rfl | hx
        · exact h
        · exact h1 x hx
      · refine .inr ⟨c :: ps, d, r, rfl, fun x hx => ?_, h3⟩
        rcases List.mem_cons.1 hx with rfl | hx
        · exact h
        · exact h2 x hx
theorem esc_flat : ∀ {ps : List Int}, (∀ p ∈ ps, ¬ ent p) → (∀ p ∈ ps, rightU p) → escU ps = flatU (ps.map cln) ∧ ∀ x ∈ escU ps, x ≠ 38
  | [], _, _ => ⟨rfl, by intro x hx; cases hx⟩
  | p :: ps, h, hr => by
    obtain ⟨h1, h2⟩ := esc_plain (h p (by simp)) (hr p (by simp))
    obtain ⟨h3, h4⟩ := esc_flat (ps := ps) (fun x hx => h x (by simp [hx])) (fun x hx => hr x (by simp [hx]))
    refine ⟨?_, fun x hx => ?_⟩
    · show esc1 p ++ escU ps = putU (cln p) ++ flatU (ps.map cln)
      rw [h1, h3]
    · have hx : x ∈ esc1 p ++ escU ps := hx
      rcases List.mem_append.1 hx with hx | hx
      · rw [h1] at hx; exact h2 x hx
      · exact h4 x hx
theorem no38 {l : List Int} (hb : Bytes l) (h : ∀ x ∈ l, x ≠ 38) : (38 : UInt8) ∉ l.map toB := by
  intro hm
  obtain ⟨x, hx, e⟩ := List.mem_map.1 hm
  have := ofB_toB (hb x hx)
  rw [e] at this
  exact h x hx this.symm
theorem escU_app (a b : List Int) : escU (a ++ b) = escU a ++ escU b := by simp [escU]
theorem escU_cons (c : Int) (b : List Int) : escU (c :: b) = esc1 c ++ escU b := rfl
/-! ### What a name tells -/
theorem cut_pre (n : Nat) (s p : List UInt8) : F106 n s p = some (if p.length ≤ s.length ∧ s.take p.length = p then (s.drop p.length, true) else (s, false)) := by
  rw [F106, F135, F118]
  by_cases h : p.length ≤ s.length
  · rw [decide_eq_true (by omega), iteB_t, grd_t _ (by omega), bind_some', toNat_nat]
    by_cases hb : s.take p.length = p
    · rw [if_pos ⟨h, hb⟩, show (s.take p.length == p) = true by rw [beq_iff_eq]; exact hb]
      show (grd _ _).bind _ = _
      rw [grd_t _ (by omega)]; rfl
    · rw [if_neg (fun e => hb e.2), show (s.take p.length == p) = false by rw [beq_eq_false_iff_ne]; exact hb]
      rfl
  · rw [decide_eq_false (by omega), iteB_f, bind_some', if_neg (fun e => h e.1)]; rfl
theorem named_any (N : List UInt8) : ∃ v : List UInt8 × Bool, Ev (fun n => F149 n N) v ∧ v.1.length ≤ 4 ∧ (N.length ≤ 1 → v.2 = false) := by
  by_cases h1 : N = [108, 116]
  · subst h1; exact ⟨([60], true), Ev.pure.congr fun n => by rw [F149]; rfl, by decide, by intro h; simp at h⟩
  by_cases h2 : N = [103, 116]
  · subst h2; exact ⟨([62], true), Ev.pure.congr fun n => by rw [F149]; rfl, by decide, by intro h; simp at h⟩
  by_cases h3 : N = [97, 109, 112]
  · subst h3; exact ⟨([38], true), Ev.pure.congr fun n => by rw [F149]; rfl, by decide, by intro h; simp at h⟩
  by_cases h4 : N = [113, 117, 111, 116]
  · subst h4; exact ⟨([34], true), Ev.pure.congr fun n => by rw [F149]; rfl, by decide, by intro h; simp at h⟩
  by_cases h5 : N = [97, 112, 111, 115]
  · subst h5; exact ⟨([39], true), Ev.pure.congr fun n => by rw [F149]; rfl, by decide, by intro h; simp at h⟩
  have hne : ∀ p : List UInt8, N ≠ p → (N == p) = false := fun p h => beq_eq_false_iff_ne.2 h
  obtain ⟨M1, j1⟩ := ev_ReadDecimal N
  have rest : ∀ (d : List UInt8) (is : Bool), (∀ n, F106 n N [35] = some (d, is)) → (N.length ≤ 1 → is = false ∨ (readD d).2 = false) → ∃ v : List UInt8 × Bool, Ev (fun n => F149 n N) v ∧ v.1.length ≤ 4 ∧ (N.length ≤ 1 → v.2 = false) := by
    intro d is hcut hshort
    obtain ⟨M, j⟩ := ev_ReadDecimal d
    have hN : ∀ n, F149 n N = (F97 n d).bind fun v7 => iteB (!is) (some ([], false)) (iteB (!v7.2) (some ([], false)) (iteB (decide ((7 : Int) < (d.length : Int))) (some ([], false)) (iteB (v7.1 == (0 : Int)) (some ([], false)) (iteB (decide ((1114111 : Int) < v7.1)) (some ([], false)) ((F78 n [] (IntKind.wrap .i32 (v7.1))).bind fun v13 => some ((v13.map toB), (decide ((0 : Int) < (v13.length : Int))))))))) := by
      intro n
      rw [F149, hne _ h1, iteB_f, hne _ h2, iteB_f, hne _ h3, iteB_f, hne _ h4, iteB_f, hne _ h5, iteB_f, hcut, bind_some']
    have none_ : (∀ n, M ≤ n → F149 n N = some ([], false)) → ∃ v : List UInt8 × Bool, Ev (fun n => F149 n N) v ∧ v.1.length ≤ 4 ∧ (N.length ≤ 1 → v.2 = false) :=
      fun h => ⟨([], false), ⟨M, h⟩, by simp, fun _ => rfl⟩
    have hb := readD_bd d
    by_cases g1 : is = true
    case neg => exact none_ fun n hn => by rw [hN, show F97 n d = some (readD d) from j n hn, bind_some', show is = false by simpa using g1]; rfl
    by_cases g2 : (readD d).2 = true
    case neg => exact none_ fun n hn => by rw [hN, show F97 n d = some (readD d) from j n hn, bind_some', g1, Bool.not_true, iteB_f, show (readD d).2 = false by simpa using g2]; rfl
    by_cases g3 : (7 : Int) < (d.length : Int)
    · exact none_ fun n hn => by rw [hN, show F97 n d = some (readD d) from j n hn, bind_some', g1, g2, Bool.not_true, iteB_f, iteB_f, decide_eq_true g3, iteB_t]
    by_cases g4 : (readD d).1 = 0
    · exact none_ fun n hn => by rw [hN, show F97 n d = some (readD d) from j n hn, bind_some', g1, g2, Bool.not_true, iteB_f, iteB_f, decide_eq_false g3, iteB_f, bqt g4, iteB_t]
    by_cases g5 : (1114111 : Int) < (readD d).1
    · exact none_ fun n hn => by rw [hN, show F97 n d = some (readD d) from j n hn, bind_some', g1, g2, Bool.not_true, iteB_f, iteB_f, decide_eq_false g3, iteB_f, bq g4, iteB_f, decide_eq_true g5, iteB_t]
    have hw : IntKind.wrap .i32 (readD d).1 = (readD d).1 := w32 (by omega)
    obtain ⟨M2, j2⟩ := ev_Put [] (readD d).1 (by omega) (by omega) (by decide)
    have hl4 := putU_bd (readD d).1
    refine ⟨((putU (readD d).1).map toB, decide ((0 : Int) < ((putU (readD d).1).length : Int))), ⟨M + M2, fun n hn => ?_⟩, by simpa using hl4, fun hs => ?_⟩
    · show F149 n N = _
      have q2 : F78 n [] (readD d).1 = some (putU (readD d).1) := by simpa using j2 n (by omega)
      rw [hN, show F97 n d = some (readD d) from j n (by omega), bind_some', g1, g2, Bool.not_true, iteB_f, iteB_f, decide_eq_false g3, iteB_f, bq g4, iteB_f, decide_eq_false g5, iteB_f, hw, q2, bind_some']
    · rcases hshort hs with h | h
      · rw [h] at g1; cases g1
      · rw [h] at g2; cases g2
  by_cases hp : ([35] : List UInt8).length ≤ N.length ∧ N.take ([35] : List UInt8).length = [35]
  · refine rest (N.drop 1) true (fun n => by rw [cut_pre, if_pos hp]; rfl) fun hs => .inr ?_
    rw [List.drop_of_length_le (by omega), read_nil]
  · exact rest N false (fun n => by rw [cut_pre, if_neg hp]) fun _ => .inl rfl
theorem named_ent {c : Int} (h : ent c) : Ev (fun n => F149 n (entN c)) ([toB c], true) := by
  unfold ent at h
  rcases h with rfl | rfl | rfl | rfl | rfl
  · exact Ev.pure.congr fun n => by rw [F149]; rfl
  · exact Ev.pure.congr fun n => by rw [F149]; rfl
  · exact Ev.pure.congr fun n => by rw [F149]; rfl
  · exact Ev.pure.congr fun n => by rw [F149]; rfl
  · obtain ⟨M, j⟩ := ev_ReadDecimal [49, 51]
    obtain ⟨M2, j2⟩ := ev_Put [] 13 (by decide) (by decide) (by decide)
    refine ⟨M + M2, fun n hn => ?_⟩
    have q1 : F97 n [49, 51] = some (13, true) := j n (by omega)
    have q2 : F78 n [] 13 = some [13] := j2 n (by omega)
    show F149 n [35, 49, 51] = _
    rw [F149, show (([35, 49, 51] : List UInt8) == [108, 116]) = false from rfl, iteB_f, show (([35, 49, 51] : List UInt8) == [103, 116]) = false from rfl, iteB_f, show (([35, 49, 51] : List UInt8) == [97, 109, 112]) = false from rfl, iteB_f, show (([35, 49, 51] : List UInt8) == [113, 117, 111, 116]) = false from rfl, iteB_f, show (([35, 49, 51] : List UInt8) == [97, 112, 111, 115]) = false from rfl, iteB_f, cut_pre]
    show (F97 n [49, 51]).bind _ = _
    rw [q1, bind_some']
    show (F78 n [] 13).bind _ = _
    rw [q2]; rfl
/-! ### Texts without bytes that may not be -/
def okP (x : Int) : Bool := if x < 32 then (x == 9 || x == 10 || x == 13) else true
theorem ixb_fin : ∀ k : Fin 32, decide (Lib.indexByte [9, 10, 13, 32] (UInt8.ofNat k.val) < 0) = !okP (k.val : Int) := by decide +kernel
theorem ixb_eq (n : Nat) (c : UInt8) (h : (c.toNat : Int) < 32) : ∃ v : Int, F113 n [9, 10, 13, 32] (c.toNat : Int) = some v ∧ decide (v < 0) = !okP (c.toNat : Int) := by
  refine ⟨Lib.indexByte [9, 10, 13, 32] c, ?_, ?_⟩
  · rw [F113, F138, bind_some', toNat_nat, show c.toNat.toUInt8 = c by simp]
  · have h := ixb_fin ⟨c.toNat, by omega⟩
    simpa using h
theorem plain_loop (s : List UInt8) (hs : s.length ≤ 1000000) : ∀ (d i : Nat), i + d = s.length → Ev (fun n => F147_L1 n s (i : Int)) (((ints s).drop i).all okP && decide ((0 : Int) ≤ countU 0 (ints s))) := by
  intro d
  induction d with
  | zero =>
    intro i hi
    rw [List.drop_of_length_le (by rw [ints_len]; omega), List.all_nil, Bool.true_and]
    obtain ⟨N, e⟩ := ev_Right s (by omega)
    refine Ev.step ⟨N, fun n hn => ?_⟩
    have q := e n hn
    dsimp only at q
    show F147_L1 (n + 1) s (i : Int) = _
    rw [F147_L1, decide_eq_false (by omega), iteB_f, q, bind_some']
  | succ d ih =>
    intro i hi
    rw [drop_bt s i (by omega), List.all_cons]
    have hok : ∀ x : Int, ¬ x < 32 → okP x = true := fun x h => if_neg h
    by_cases h : bt s i < 32
    · cases ho : okP (bt s i) with
      | true =>
        rw [Bool.true_and]
        refine Ev.step ((ih (i + 1) (by omega)).congr fun n => ?_)
        obtain ⟨v, h1, h2⟩ := ixb_eq n (s.getD i 0) h
        rw [show okP ((s.getD i 0).toNat : Int) = true from ho] at h2
        rw [F147_L1, decide_eq_true (by omega), iteB_t, toNat_nat, g64 i (by omega), grd_t _ (by omega), show decide (((s.getD i 0).toNat : Int) < 32) = true from decide_eq_true h, iteB_t, grd_t _ (by omega), h1, bind_some', h2, Bool.not_true, iteB_f]
      | false =>
        rw [Bool.false_and, Bool.false_and]
        refine Ev.step (Ev.pure.congr fun n => ?_)
        obtain ⟨v, h1, h2⟩ := ixb_eq n (s.getD i 0) h
        rw [show okP ((s.getD i 0).toNat : Int) = false from ho] at h2
        rw [F147_L1, decide_eq_true (by omega), iteB_t, toNat_nat, grd_t _ (by omega), show decide (((s.getD i 0).toNat : Int) < 32) = true from decide_eq_true h, iteB_t, grd_t _ (by omega), h1, bind_some', h2, Bool.not_false, iteB_t]
    · rw [hok _ h, Bool.true_and]
      refine Ev.step ((ih (i + 1) (by omega)).congr fun n => ?_)
      rw [F147_L1, decide_eq_true (by omega), iteB_t, toNat_nat, g64 i (by omega), grd_t _ (by omega), show decide (((s.getD i 0).toNat : Int) < 32) = false from decide_eq_false h, iteB_f]
theorem ev_plain (s : List UInt8) (hs : s.length ≤ 1000000) : Ev (fun n => F147 n s) ((ints s).all okP && decide ((0 : Int) ≤ countU 0 (ints s))) := by
  have h := plain_loop s hs s.length 0 (by omega)
  rw [List.drop_zero] at h
  exact h.congr fun n => rfl
/-! ### Text -/
theorem text_any : ∀ (d : Nat) (s : List UInt8) (b : Bool) (t : List UInt8), s.length ≤ d → d ≤ 100000 → t.length + 5 * s.length ≤ 2000000 →
    ∃ v : List UInt8 × Bool, Ev (fun n => F128_L1 n s b (ints t)) v ∧ (∀ s', s = 38 :: s' → s'.length ≤ 2 → v.2 = false) := by
  intro d
  induction d with
  | zero =>
    intro s b t hs hd ht
    obtain rfl := List.eq_nil_of_length_eq_zero (by omega : s.length = 0)
    refine ⟨(t, true), Ev.step (Ev.pure.congr fun n => ?_), fun s' h => by cases h⟩
    rw [F128_L1, Cut_eq n [] 38 (by simp), bind_some', cut_none 38 [] (by simp), bld_Write n b _ [] (by rw [ints_len]; simp; omega), bind_some', Bool.not_false, iteB_t]
    dsimp only
    rw [show ints [] = [] from rfl, List.append_nil, bld_String n true _ (ints_bytes t) (by rw [ints_len]; omega), bind_some', toB_ints]
  | succ d ih =>
    intro s b t hs hd ht
    rcases idx_cases 38 s with ⟨h1, h2, h3, h4⟩ | ⟨m, h1, h2, h3, h4, h5, h6⟩
    · refine ⟨(t ++ s, true), Ev.step (Ev.pure.congr fun n => ?_), fun s' h => ?_⟩
      · rw [F128_L1, Cut_eq n s 38 (by omega), bind_some', cut_none 38 s h2, bld_Write n b _ s (by rw [ints_len]; omega), bind_some', Bool.not_false, iteB_t]
        dsimp only
        rw [← ints_app, bld_String n true _ (ints_bytes _) (by rw [ints_len]; simp; omega), bind_some', toB_ints]
      · rw [h] at h2; simp at h2
    · have hc : cutB 38 s = (s.take m, s.drop (m + 1), true) := by
        conv => lhs; rw [h4]
        exact cut_app 38 _ _ h3
      generalize hR : s.drop (m + 1) = R at hc
      have hRl : R.length + 1 ≤ s.length := by rw [← hR, List.length_drop]; omega
      have hAl : (s.take m).length ≤ s.length := by rw [List.length_take]; omega
      have hAR : (s.take m).length + R.length + 1 = s.length := by rw [← hR, List.length_drop, List.length_take]; omega
      have hfirst : ∀ n, F128_L1 (n + 1) s b (ints t) = (F148 n R [59]).bind fun v10 => (F149 n v10.1).bind fun v11 => iteB (!v10.2.2) (some ([], false)) (iteB (!v11.2) (some ([], false)) ((F37 n (true, ints (t ++ s.take m)) v11.1).bind fun v14 => F128_L1 n v10.2.1 v14.2.2.1 v14.2.2.2)) := fun n => by
        rw [F128_L1, Cut_eq n s 38 (by omega), bind_some', hc]
        dsimp only
        rw [bld_Write n b _ _ (by rw [ints_len]; omega), bind_some', Bool.not_true, iteB_f]
        dsimp only
        rw [← ints_app]
      obtain ⟨l1, l2⟩ : (cutB 59 R).1.length ≤ R.length ∧ (cutB 59 R).2.1.length ≤ R.length := by
        unfold cutB
        split
        · simp only [List.length_take, List.length_drop]; omega
        · simp
      obtain ⟨w, ⟨N1, e1⟩, hw4, hw1⟩ := named_any (cutB 59 R).1
      have short : ∀ s', s = 38 :: s' → s'.length ≤ 2 → (cutB 59 R).2.2 = true → w.2 = false := by
        intro s' h hs' h59
        refine hw1 ?_
        have hm0 : m = 0 := by
          rcases Nat.eq_zero_or_pos m with h0 | h0
          · exact h0
          · exfalso
            apply h3
            rw [h]
            obtain ⟨k, rfl⟩ : ∃ k, m = k + 1 := ⟨m - 1, by omega⟩
            simp
        have hRs : R = s' := by rw [← hR, hm0, h]; rfl
        rw [hRs] at h59 ⊢
        unfold cutB at h59 ⊢
        by_cases h9 : (59 : UInt8) ∈ s'
        · rw [if_pos h9]
          rcases idx_cases 59 s' with ⟨g1, g2, _, _⟩ | ⟨k, g1, g2, _, _, _, _⟩
          · exact absurd h9 g2
          · rw [g2]; simp only [toNat_nat, List.length_take]; omega
        · rw [if_neg h9] at h59; cases h59
      have hcut : ∀ n, F148 n R [59] = some (cutB 59 R) := fun n => Cut_eq n R 59 (by omega)
      cases h9 : (cutB 59 R).2.2 with
      | false =>
        refine ⟨([], false), Ev.step ⟨N1, fun n hn => ?_⟩, fun _ _ _ => rfl⟩
        have q1 : F149 n (cutB 59 R).1 = some w := e1 n hn
        show F128_L1 (n + 1) s b (ints t) = _
        rw [hfirst n, hcut, bind_some', q1, bind_some', h9]; rfl
      | true =>
        cases hw2 : w.2 with
        | false =>
          refine ⟨([], false), Ev.step ⟨N1, fun n hn => ?_⟩, fun _ _ _ => rfl⟩
          have q1 : F149 n (cutB 59 R).1 = some w := e1 n hn
          show F128_L1 (n + 1) s b (ints t) = _
          rw [hfirst n, hcut, bind_some', q1, bind_some', h9, hw2]; rfl
        | true =>
          obtain ⟨v, ⟨N2, e2⟩, _⟩ := ih (cutB 59 R).2.1 true (t ++ s.take m ++ w.1) (by omega) (by omega) (by simp only [List.length_append]; omega)
          refine ⟨v, Ev.step ⟨N1 + N2, fun n hn => ?_⟩, fun s' h hs' => ?_⟩
          · have q1 : F149 n (cutB 59 R).1 = some w := e1 n (by omega)
            have q2 := e2 n (by omega)
            dsimp only at q2
            show F128_L1 (n + 1) s b (ints t) = _
            rw [hfirst n, hcut, bind_some', q1, bind_some', h9, hw2, Bool.not_true, iteB_f, iteB_f, bld_Write n true _ _ (by rw [ints_len]; simp only [List.length_append]; omega), bind_some']
            dsimp only
            rw [← ints_app, q2]
          · have := short s' h hs' h9
            rw [this] at hw2; cases hw2
theorem ev_Text_any (s : List UInt8) (hs : s.length ≤ 10000) : ∃ v : List UInt8 × Bool, Ev (fun n => F128 n s) v ∧ (∀ s', s = 38 :: s' → s'.length ≤ 2 → v.2 = false) := by
  obtain ⟨N1, e1⟩ := ev_plain s (by omega)
  cases hp : ((ints s).all okP && decide ((0 : Int) ≤ countU 0 (ints s))) with
  | false =>
    rw [hp] at e1
    refine ⟨([], false), ⟨N1, fun n hn => ?_⟩, fun _ _ _ => rfl⟩
    have q := e1 n hn
    dsimp only at q
    show F128 n s = _
    rw [F128, q]; rfl
  | true =>
    rw [hp] at e1
    obtain ⟨v, ⟨N2, e2⟩, h2⟩ := text_any s.length s false [] (Nat.le_refl _) (by omega) (by simp; omega)
    refine ⟨v, ⟨N1 + N2, fun n hn => ?_⟩, h2⟩
    have q := e1 n (by omega)
    have q2 := e2 n (by omega)
    dsimp only at q q2
    show F128 n s = _
    rw [F128, q, bind_some', Bool.not_true, iteB_f]
    exact q2
theorem text_loop : ∀ (d : Nat) (cs : List Int) (b : Bool) (t : List UInt8), cs.length ≤ d → (∀ c ∈ cs, rightU c) → d ≤ 10000 → t.length + 100 * cs.length ≤ 2000000 →
    Ev (fun n => F128_L1 n ((escU cs).map toB) b (ints t)) (t ++ (flatU (cs.map cln)).map toB, true) := by
  intro d
  induction d with
  | zero =>
    intro cs b t hs hr hd ht
    obtain rfl := List.eq_nil_of_length_eq_zero (by omega : cs.length = 0)
    refine Ev.step (Ev.pure.congr fun n => ?_)
    show F128_L1 (n + 1) [] b (ints t) = _
    rw [F128_L1, Cut_eq n [] 38 (by simp), bind_some', cut_none 38 [] (by simp), bld_Write n b _ [] (by rw [ints_len]; simp; omega), bind_some', Bool.not_false, iteB_t]
    dsimp only
    rw [show ints [] = [] from rfl, List.append_nil, bld_String n true _ (ints_bytes t) (by rw [ints_len]; omega), bind_some', toB_ints]
    simp [flatU]
  | succ d ih =>
    intro cs b t hs hr hd ht
    have hel := escU_len cs
    rcases ent_split cs with h | ⟨ps, c, r, rfl, h1, h2⟩
    · obtain ⟨g1, g2⟩ := esc_flat h hr
      have h38 := no38 (escU_bytes cs) g2
      refine Ev.step (Ev.pure.congr fun n => ?_)
      rw [F128_L1, Cut_eq n _ 38 (by rw [List.length_map]; omega), bind_some', cut_none 38 _ h38, bld_Write n b _ _ (by rw [ints_len, List.length_map]; omega), bind_some', Bool.not_false, iteB_t]
      dsimp only
      rw [← ints_app, bld_String n true _ (ints_bytes _) (by rw [ints_len]; simp; omega), bind_some', toB_ints, g1]
    · obtain ⟨g1, g2⟩ := esc_flat h1 (fun p hp => hr p (by simp [hp]))
      have h38 := no38 (escU_bytes ps) g2
      obtain ⟨k1, k2, k3, k4, k5⟩ := esc_ent h2
      have he : (escU (ps ++ c :: r)).map toB = (escU ps).map toB ++ 38 :: (entN c ++ 59 :: (escU r).map toB) := by
        rw [escU_app, escU_cons, List.map_append, List.map_append, k1]
        simp
      have hpl := escU_len ps
      have hrl := escU_len r
      have hn4 : (entN c).length ≤ 4 := by
        unfold entN
        repeat' split
        all_goals simp
      simp only [List.length_append, List.length_cons] at hs ht
      have hfl : (flatU (ps.map cln)).length ≤ 4 * ps.length := by have := flatU_len (ps.map cln); rwa [List.length_map] at this
      rw [g1] at hpl
      have ih' := ih r true (t ++ (flatU (ps.map cln)).map toB ++ [toB c]) (by omega) (fun x hx => hr x (by simp [hx])) (by omega) (by simp only [List.length_append, List.length_map, List.length_singleton]; omega)
      have hres : t ++ (flatU ((ps ++ c :: r).map cln)).map toB = t ++ (flatU (ps.map cln)).map toB ++ [toB c] ++ (flatU (r.map cln)).map toB := by
        rw [List.map_append, List.map_cons, flatU_append, List.map_append, show flatU (cln c :: r.map cln) = putU (cln c) ++ flatU (r.map cln) from rfl, k3]
        simp
      rw [hres]
      obtain ⟨N1, e1⟩ := ih'
      obtain ⟨N2, e2⟩ := named_ent h2
      refine Ev.step ⟨N1 + N2, fun n hn => ?_⟩
      have q1 := e1 n (by omega)
      have q2 := e2 n (by omega)
      dsimp only at q1 q2
      show F128_L1 (n + 1) ((escU (ps ++ c :: r)).map toB) b (ints t) = _
      have hcap : ((escU ps).map toB ++ 38 :: (entN c ++ 59 :: (escU r).map toB)).length ≤ 1000000 := by
        simp only [List.length_append, List.length_cons, List.length_map]; rw [g1]; omega
      rw [he, F128_L1, Cut_eq n _ 38 hcap, bind_some', cut_app 38 _ _ h38, bld_Write n b _ _ (by rw [ints_len, List.length_map, g1]; omega), bind_some', Bool.not_true, iteB_f]
      dsimp only
      rw [Cut_eq n _ 59 (by simp only [List.length_append, List.length_cons, List.length_map]; omega), bind_some', cut_app 59 _ _ k2]
      dsimp only
      rw [q2, bind_some', Bool.not_true, iteB_f, iteB_f, ← ints_app, g1, bld_Write n true _ _ (by rw [ints_len]; simp only [List.length_append, List.length_map, List.length_singleton]; omega), bind_some']
      dsimp only
      rw [← ints_app]
      exact q1
theorem ev_Text_esc (cs : List Int) (hr : ∀ c ∈ cs, rightU c) (hl : cs.length ≤ 2000) : Ev (fun n => F128 n ((escU cs).map toB)) ((flatU (cs.map cln)).map toB, true) := by
  have hel := escU_len cs
  obtain ⟨N1, e1⟩ := ev_plain ((escU cs).map toB) (by rw [List.length_map]; omega)
  have hi : ints ((escU cs).map toB) = escU cs := ints_toB (escU_bytes cs)
  have hp : ((ints ((escU cs).map toB)).all okP && decide ((0 : Int) ≤ countU 0 (ints ((escU cs).map toB)))) = true := by
    rw [hi, decide_eq_true (count_ge.2 (escU_well hr)), Bool.and_true, List.all_eq_true]
    intro x hx
    have := escU_ok hr x hx
    unfold badS at this
    unfold okP
    by_cases h : x < 32
    · rw [if_pos h]
      have : x = 9 ∨ x = 10 := by omega
      rcases this with rfl | rfl <;> rfl
    · rw [if_neg h]
  rw [hp] at e1
  obtain ⟨N2, e2⟩ := text_loop cs.length cs false [] (Nat.le_refl _) hr (by omega) (by simp; omega)
  rw [List.nil_append] at e2
  refine ⟨N1 + N2, fun n hn => ?_⟩
  have q := e1 n (by omega)
  have q2 := e2 n (by omega)
  dsimp only at q q2
  show F128 n _ = _
  rw [F128, q, bind_some', Bool.not_true, iteB_f]
  exact q2
end Go.Proofs.YtjkfobmfddfjhaaDoorX

/- Rules: whether they may be, plainly: that it is told, and what follows. -/
set_option linter.unusedVariables false
set_option linter.unusedSimpArgs false
namespace Go.Proofs.YtjkfobmfddfjhaaDoorX
open Go
abbrev Rl := List UInt8 × List UInt8 × Bool × Int × Int × Int
abbrev En := List UInt8 × Int × Bool × Int
abbrev Ac := Int × List UInt8 × Int
theorem ev_nm : ∀ (k i : Nat) (l : List Int), i + k = l.length → l.length ≤ 1000 → ∃ b, Ev (fun n => F127000125_L1 n l (i : Int)) b
  | 0, i, l, hi, hl => ⟨false, Ev.step (Ev.pure.congr fun n => by rw [F127000125_L1, decide_eq_false (by omega), iteB_f])⟩
  | k + 1, i, l, hi, hl => by
    have u : ∀ n, F127000125_L1 (n + 1) l (i : Int) = iteB (kindOf (l.getD i default) == 0) (some true) (F127000125_L1 n l ((i + 1 : Nat) : Int)) := by
      intro n
      rw [F127000125_L1, decide_eq_true (by omega), iteB_t, grd_t _ (by omega), toNat_nat, g64 i (by omega)]
      rfl
    cases h : (kindOf (l.getD i default) == 0) with
    | true => exact ⟨true, Ev.step (Ev.pure.congr fun n => by rw [u, h, iteB_t])⟩
    | false =>
      obtain ⟨b, e⟩ := ev_nm k (i + 1) l (by omega) hl
      exact ⟨b, Ev.step (e.congr fun n => by rw [u, h, iteB_f])⟩
theorem ev_named (s : List UInt8) : ∃ b, Ev (fun n => F89 n s) b := by
  by_cases h0 : s = []
  · subst h0; exact ⟨false, Ev.pure.congr fun n => by rw [F89]; rfl⟩
  by_cases h1 : s.length ≤ 32
  · obtain ⟨b, e⟩ := ev_nm s.length 0 (ints s) (by rw [ints_len]; omega) (by rw [ints_len]; omega)
    refine ⟨!b, (e.bind (g := fun n v => some (!v)) Ev.pure).congr fun n => ?_⟩
    rw [F89, show (s == []) = false from beq_eq_false_iff_ne.2 h0, Bool.not_false, iteB_t, decide_eq_true (by omega), iteB_t]
    rfl
  · exact ⟨false, Ev.pure.congr fun n => by rw [F89, show (s == []) = false from beq_eq_false_iff_ne.2 h0, Bool.not_false, iteB_t, decide_eq_false (by omega), iteB_f]⟩
theorem ev_px : ∀ (k i : Nat) (l : List Int), i + k = l.length → l.length ≤ 1000 → ∃ b, Ev (fun n => F131000125_L1 n l (i : Int)) b
  | 0, i, l, hi, hl => ⟨false, Ev.step (Ev.pure.congr fun n => by rw [F131000125_L1, decide_eq_false (by omega), iteB_f])⟩
  | k + 1, i, l, hi, hl => by
    have u : ∀ n, F131000125_L1 (n + 1) l (i : Int) = iteB (decide (l.getD i default < (32 : Int))) (some true) (F131000125_L1 n l ((i + 1 : Nat) : Int)) := by
      intro n
      rw [F131000125_L1, decide_eq_true (by omega), iteB_t, grd_t _ (by omega), toNat_nat, g64 i (by omega)]
      rfl
    cases h : decide (l.getD i default < (32 : Int)) with
    | true => exact ⟨true, Ev.step (Ev.pure.congr fun n => by rw [u, h, iteB_t])⟩
    | false =>
      obtain ⟨b, e⟩ := ev_px k (i + 1) l (by omega) hl
      exact ⟨b, Ev.step (e.congr fun n => by rw [u, h, iteB_f])⟩
theorem ev_tail (s : List UInt8) (hs : s.length ≤ 64) : ∃ b, Ev (fun n => (F129 n s).bind fun v7 => (F128 n v7).bind fun v8 => iteB v8.2 (iteB (v8.1 == s) ((F113 n s (34 : Int)).bind fun v11 => iteB (decide (v11 < (0 : Int))) ((F131000125 n (s.map ofB)).bind fun v13 => some (!v13)) (some false)) (some false)) (some false)) b := by
  obtain ⟨b1, e1⟩ := ev_px s.length 0 (ints s) (by rw [ints_len]; omega) (by rw [ints_len]; omega)
  have hel : ((escU (chs s)).map toB).length ≤ 10000 := by
    have h1 := escU_len (chs s)
    have h2 := chs_len s
    rw [List.length_map]; omega
  obtain ⟨v, e2, _⟩ := ev_Text_any _ hel
  obtain ⟨ix, hix⟩ : ∃ ix : Int, ∀ n, F113 n s (34 : Int) = some ix := ⟨_, fun n => by rw [F113, F138]; rfl⟩
  refine ⟨if v.2 = true then if (v.1 == s) = true then if ix < 0 then !b1 else false else false else false, ((ev_Escape s (by omega)).bind (g := fun n v7 => (F128 n v7).bind fun v8 => iteB v8.2 (iteB (v8.1 == s) ((F113 n s (34 : Int)).bind fun v11 => iteB (decide (v11 < (0 : Int))) ((F131000125 n (s.map ofB)).bind fun v13 => some (!v13)) (some false)) (some false)) (some false)) (e2.bind (g := fun n v8 => iteB v8.2 (iteB (v8.1 == s) ((F113 n s (34 : Int)).bind fun v11 => iteB (decide (v11 < (0 : Int))) ((F131000125 n (s.map ofB)).bind fun v13 => some (!v13)) (some false)) (some false)) (some false)) ?_))⟩
  cases hv2 : v.2 with
  | false => exact Ev.pure
  | true =>
    rw [if_pos rfl]
    cases hv1 : (v.1 == s) with
    | false => exact Ev.pure
    | true =>
      rw [if_pos rfl]
      by_cases hi : ix < 0
      · rw [if_pos hi]
        refine (e1.bind (g := fun n v13 => some (!v13)) Ev.pure).congr fun n => ?_
        rw [iteB_t, iteB_t, hix, bind_some', decide_eq_true hi, iteB_t]; rfl
      · rw [if_neg hi]
        exact Ev.pure.congr fun n => by rw [iteB_t, iteB_t, hix, bind_some', decide_eq_false hi, iteB_f]
def tailG (s : List UInt8) (n : Nat) : Option Bool := (F129 n s).bind fun v7 => (F128 n v7).bind fun v8 => iteB v8.2 (iteB (v8.1 == s) ((F113 n s (34 : Int)).bind fun v11 => iteB (decide (v11 < (0 : Int))) ((F131000125 n (s.map ofB)).bind fun v13 => some (!v13)) (some false)) (some false)) (some false)
def preG (s : List UInt8) (n : Nat) (v2 : Bool) : Option Bool := iteB (!v2) (some false) (iteB (!(s == [])) ((F30 n s ([32] : List UInt8)).bind fun v5 => iteB (v5 == []) (some false) (tailG s n)) (tailG s n))
theorem pre_eq (s : List UInt8) (n : Nat) : F90 n s = iteB (decide ((64 : Int) < (s.length : Int))) (some false) ((F119 n s).bind (preG s n)) := by
  rw [F90]; rfl
theorem ev_prefix (s : List UInt8) : ∃ b, Ev (fun n => F90 n s) b := by
  by_cases h64 : (64 : Int) < (s.length : Int)
  · exact ⟨false, Ev.pure.congr fun n => by rw [pre_eq, decide_eq_true h64, iteB_t]⟩
  obtain ⟨b, e⟩ := ev_tail s (by omega)
  have e : Ev (tailG s) b := e
  have er := ev_Right s (by omega)
  have key : ∃ b', Ev (fun n => preG s n (decide ((0 : Int) ≤ countU 0 (ints s)))) b' := by
    cases decide ((0 : Int) ≤ countU 0 (ints s)) with
    | false => exact ⟨false, Ev.pure.congr fun n => by rw [preG]; rfl⟩
    | true =>
      by_cases h0 : s = []
      · subst h0
        exact ⟨b, e.congr fun n => by rw [preG]; rfl⟩
      · have ht : ∀ n, F30 n s ([32] : List UInt8) = some (Lib.trimS s [32]) := by
          intro n
          unfold F30
          rw [if_pos ⟨by omega, by decide, by decide⟩]
        have u : ∀ n, preG s n true = iteB (Lib.trimS s [32] == []) (some false) (tailG s n) := by
          intro n
          rw [preG, Bool.not_true, iteB_f, show (s == []) = false from beq_eq_false_iff_ne.2 h0, Bool.not_false, iteB_t, ht, bind_some']
        cases hb : (Lib.trimS s [32] == []) with
        | true => exact ⟨false, Ev.pure.congr fun n => by rw [u, hb, iteB_t]⟩
        | false => exact ⟨b, e.congr fun n => by rw [u, hb, iteB_f]⟩
  obtain ⟨b', e'⟩ := key
  exact ⟨b', (er.bind (g := preG s) e').congr fun n => by rw [pre_eq, decide_eq_false h64, iteB_f]⟩
def dayB (d : Int) : Prop := 0 ≤ d ∧ d ≤ 100000
instance (d : Int) : Decidable (dayB d) := inferInstanceAs (Decidable (0 ≤ d ∧ d ≤ 100000))
theorem odd_eq (n : Nat) (d : Int) : F88 n d = some (decide (¬ dayB d)) := by
  rw [F88]
  by_cases h : d < 0
  · rw [decide_eq_true h, iteB_t, decide_eq_true (show ¬ dayB d from fun k => by have := k.1; omega)]
  · rw [decide_eq_false h, iteB_f]
    congr 1
    unfold dayB
    by_cases h2 : 100000 < d
    · rw [decide_eq_true h2, decide_eq_true (by omega)]
    · rw [decide_eq_false h2, decide_eq_false (by omega)]
theorem ev_odd (l : List Int) (hl : l.length ≤ 1000) : ∀ (k i : Nat), i + k = l.length → Ev (fun n => F89000091_L1 n l (i : Int)) ((l.drop i).any fun d => decide (¬ dayB d))
  | 0, i, hi => by
    rw [List.drop_of_length_le (by omega)]
    exact Ev.step (Ev.pure.congr fun n => by rw [F89000091_L1, decide_eq_false (by omega), iteB_f]; rfl)
  | k + 1, i, hi => by
    rw [drop_cons l i default (by omega), List.any_cons]
    have u : ∀ n, F89000091_L1 (n + 1) l (i : Int) = iteB (decide (¬ dayB (l.getD i default))) (some true) (F89000091_L1 n l ((i + 1 : Nat) : Int)) := by
      intro n
      rw [F89000091_L1, decide_eq_true (by omega), iteB_t, grd_t _ (by omega), toNat_nat, g64 i (by omega), odd_eq, bind_some']
    cases h : decide (¬ dayB (l.getD i default)) with
    | true => exact Ev.step (Ev.pure.congr fun n => by rw [u, h, iteB_t]; rfl)
    | false =>
      rw [Bool.false_or]
      exact Ev.step ((ev_odd l hl k (i + 1) (by omega)).congr fun n => by rw [u, h, iteB_f])
theorem ev_some (l : List Int) (hl : l.length ≤ 1000) : ∀ (k i : Nat), i + k = l.length → Ev (fun n => F93000091_L1 n l (i : Int)) ((l.drop i).any fun d => decide (0 < d))
  | 0, i, hi => by
    rw [List.drop_of_length_le (by omega)]
    exact Ev.step (Ev.pure.congr fun n => by rw [F93000091_L1, decide_eq_false (by omega), iteB_f]; rfl)
  | k + 1, i, hi => by
    rw [drop_cons l i default (by omega), List.any_cons]
    have u : ∀ n, F93000091_L1 (n + 1) l (i : Int) = iteB (decide (0 < l.getD i default)) (some true) (F93000091_L1 n l ((i + 1 : Nat) : Int)) := by
      intro n
      rw [F93000091_L1, decide_eq_true (by omega), iteB_t, grd_t _ (by omega), toNat_nat, g64 i (by omega)]
      rfl
    cases h : decide (0 < l.getD i default) with
    | true => exact Ev.step (Ev.pure.congr fun n => by rw [u, h, iteB_t]; rfl)
    | false =>
      rw [Bool.false_or]
      exact Ev.step ((ev_some l hl k (i + 1) (by omega)).congr fun n => by rw [u, h, iteB_f])
def daysOk (r : Rl) : Prop := dayB r.2.2.2.1 ∧ dayB r.2.2.2.2.1 ∧ dayB r.2.2.2.2.2
theorem ev_right (r : Rl) : ∃ b, Ev (fun n => F59 n r) b ∧ (b = true → daysOk r) := by
  obtain ⟨b1, e1⟩ := ev_named r.1
  obtain ⟨b2, e2⟩ := ev_prefix r.2.1
  have e3 := ev_odd [r.2.2.2.1, r.2.2.2.2.1, r.2.2.2.2.2] (by simp) 3 0 rfl
  have e4 := ev_some [r.2.2.2.1, r.2.2.2.2.1, r.2.2.2.2.2] (by simp) 3 0 rfl
  rw [List.drop_zero] at e3 e4
  generalize hO : ([r.2.2.2.1, r.2.2.2.2.1, r.2.2.2.2.2].any fun d => decide (¬ dayB d)) = o at e3
  generalize ([r.2.2.2.1, r.2.2.2.2.1, r.2.2.2.2.2].any fun d => decide (0 < d)) = p at e4
  refine ⟨b1 && (b2 && (!o && p)), (e1.bind (g := fun n v1 => iteB v1 ((F90 n r.2.1).bind fun v3 => iteB v3 ((F89000091 n [r.2.2.2.1, r.2.2.2.2.1, r.2.2.2.2.2]).bind fun v5 => iteB (!v5) ((F93000091 n [r.2.2.2.1, r.2.2.2.2.1, r.2.2.2.2.2]).bind fun v7 => some v7) (some false)) (some false)) (some false)) ?_).congr fun n => by rw [F59], fun h => ?_⟩
  · cases b1 with
    | false => exact Ev.pure
    | true =>
      refine (e2.bind (g := fun n v3 => iteB v3 ((F89000091 n [r.2.2.2.1, r.2.2.2.2.1, r.2.2.2.2.2]).bind fun v5 => iteB (!v5) ((F93000091 n [r.2.2.2.1, r.2.2.2.2.1, r.2.2.2.2.2]).bind fun v7 => some v7) (some false)) (some false)) ?_).congr fun n => rfl
      cases b2 with
      | false => exact Ev.pure
      | true =>
        refine (e3.bind (g := fun n v5 => iteB (!v5) ((F93000091 n [r.2.2.2.1, r.2.2.2.2.1, r.2.2.2.2.2]).bind fun v7 => some v7) (some false)) ?_).congr fun n => rfl
        cases o with
        | true => exact Ev.pure
        | false => exact (e4.bind (g := fun n v7 => some v7) Ev.pure).congr fun n => rfl
  · rw [Bool.and_eq_true, Bool.and_eq_true, Bool.and_eq_true] at h
    have ho : o = false := by cases o with | false => rfl | true => exact absurd h.2.2.1 (by decide)
    rw [ho] at hO
    simp only [List.any_cons, List.any_nil, Bool.or_false, Bool.or_eq_false_iff, decide_eq_false_iff_not, Classical.not_not] at hO
    exact hO
theorem ev_twice (l : List Rl) (hl : l.length ≤ 1000) : ∀ (k i : Nat) (x : Rl), i + k = l.length → ∃ b : Bool, Ev (fun n => F61000044_L1 n l (i : Int) x.1 x.2.1 x.2.2.1 x.2.2.2.1 x.2.2.2.2.1 x.2.2.2.2.2) (b, x)
  | 0, i, x, hi => ⟨false, Ev.step (Ev.pure.congr fun n => by rw [F61000044_L1, decide_eq_false (by omega), iteB_f])⟩
  | k + 1, i, x, hi => by
    have u : ∀ n, F61000044_L1 (n + 1) l (i : Int) x.1 x.2.1 x.2.2.1 x.2.2.2.1 x.2.2.2.2.1 x.2.2.2.2.2 = iteB ((l.getD i default).1 == x.1) (some (true, x)) (F61000044_L1 n l ((i + 1 : Nat) : Int) x.1 x.2.1 x.2.2.1 x.2.2.2.1 x.2.2.2.2.1 x.2.2.2.2.2) := by
      intro n
      rw [F61000044_L1, decide_eq_true (by omega), iteB_t, grd_t _ (by omega), toNat_nat, g64 i (by omega)]
      rfl
    cases h : ((l.getD i default).1 == x.1) with
    | true => exact ⟨true, Ev.step (Ev.pure.congr fun n => by rw [u, h, iteB_t])⟩
    | false =>
      obtain ⟨b, e⟩ := ev_twice l hl k (i + 1) x (by omega)
      exact ⟨b, Ev.step (e.congr fun n => by rw [u, h, iteB_f])⟩
theorem ev_rl (l : List Rl) (hl : l.length ≤ 1000) : ∀ (k i : Nat), i + k = l.length → (∀ r ∈ l.take i, daysOk r) → ∃ b, Ev (fun n => F27_L1 n l (i : Int)) b ∧ (b = true → ∀ r ∈ l, daysOk r)
  | 0, i, hi, hd => by
    rw [List.take_of_length_le (by omega)] at hd
    refine ⟨if 0 < l.length then decide ((l.length : Int) ≤ 16) else false, Ev.step (Ev.pure.congr fun n => ?_), fun _ => hd⟩
    rw [F27_L1, decide_eq_false (by omega), iteB_f]
    by_cases h : 0 < l.length
    · rw [if_pos h, decide_eq_true (by omega), iteB_t]
    · rw [if_neg h, decide_eq_false (by omega), iteB_f]
  | k + 1, i, hi, hd => by
    obtain ⟨b1, e1, hb1⟩ := ev_right (l.getD i default)
    obtain ⟨b2, e2⟩ := ev_twice (l.take i) (by rw [List.length_take]; omega) i 0 (l.getD i default) (by rw [List.length_take]; omega)
    have u : ∀ n, F27_L1 (n + 1) l (i : Int) = (F59 n (l.getD i default)).bind fun v4 => iteB (!v4) (some false) ((F61000044 n (l.take i) (l.getD i default)).bind fun v7 => iteB v7.1 (some false) (F27_L1 n l ((i + 1 : Nat) : Int))) := by
      intro n
      rw [F27_L1, decide_eq_true (by omega), iteB_t, grd_t _ (by omega), toNat_nat, g64 i (by omega)]
      congr 1
      funext v4
      rw [grd_t _ (by omega)]
    cases b1 with
    | false => exact ⟨false, Ev.step ((e1.bind (g := fun n v4 => iteB (!v4) (some false) ((F61000044 n (l.take i) (l.getD i default)).bind fun v7 => iteB v7.1 (some false) (F27_L1 n l ((i + 1 : Nat) : Int)))) Ev.pure).congr u), fun h => by cases h⟩
    | true =>
      obtain ⟨b3, e3, hb3⟩ := ev_rl l hl k (i + 1) (by omega) (fun r hr => by
        rw [List.take_succ_eq_append_getElem (by omega)] at hr
        rcases List.mem_append.1 hr with hr | hr
        · exact hd r hr
        · rw [List.mem_singleton.1 hr]
          have := hb1 rfl
          rwa [List.getD_eq_getElem?_getD, List.getElem?_eq_getElem (by omega)] at this)
      have e2' : Ev (fun n => F61000044 n (l.take i) (l.getD i default)) (b2, l.getD i default) := e2.congr fun n => by rw [F61000044]; rfl
      refine ⟨if b2 = true then false else b3, Ev.step ((e1.bind (g := fun n v4 => iteB (!v4) (some false) ((F61000044 n (l.take i) (l.getD i default)).bind fun v7 => iteB v7.1 (some false) (F27_L1 n l ((i + 1 : Nat) : Int)))) ((e2'.bind (g := fun n v7 => iteB v7.1 (some false) (F27_L1 n l ((i + 1 : Nat) : Int))) ?_).congr fun n => rfl)).congr u), ?_⟩
      · cases b2 with
        | true => exact Ev.pure
        | false => exact e3
      · intro h
        cases b2 with
        | true => cases h
        | false => exact hb3 h
theorem ev_Rights (l : List Rl) (hl : l.length ≤ 1000) : ∃ b, Ev (fun n => F27 n l) b ∧ (b = true → ∀ r ∈ l, daysOk r) := by
  obtain ⟨b, e, h⟩ := ev_rl l hl l.length 0 (by omega) (fun r hr => by cases hr)
  exact ⟨b, e.congr fun n => by rw [F27]; rfl, h⟩
/-! One that is right. -/
def oneR : Rl := ([97], [], true, 1, 0, 0)
theorem one_prefix : Ev (fun n => F90 n []) true := by
  have er := ev_Right [] (by decide)
  have e1 := ev_Escape [] (by decide)
  have e2 := ev_Text_esc [] (fun c hc => by cases hc) (by decide)
  have hr : decide ((0 : Int) ≤ countU 0 (ints [])) = true := by
    show decide ((0 : Int) ≤ countU 0 []) = true
    rw [count_nil]; decide
  have hc : chs [] = [] := by unfold chs; exact chars_nil
  rw [hr] at er
  rw [hc] at e1
  have e1 : Ev (fun n => F129 n []) [] := e1
  have e2 : Ev (fun n => F128 n []) ([], true) := e2
  have e3 : Ev (fun n => F131000125_L1 n [] (0 : Int)) false := Ev.step (Ev.pure.congr fun n => by rw [F131000125_L1]; rfl)
  obtain ⟨N1, e1⟩ := e1
  obtain ⟨N2, e2⟩ := e2
  obtain ⟨N3, e3⟩ := e3
  obtain ⟨N4, er⟩ := er
  refine ⟨N1 + N2 + N3 + N4, fun n hn => ?_⟩
  have q1 := e1 n (by omega)
  have q2 := e2 n (by omega)
  have q3 := e3 n (by omega)
  have q4 := er n (by omega)
  dsimp only at q1 q2 q3 q4
  show F90 n [] = _
  rw [pre_eq, q4]
  show tailG [] n = _
  unfold tailG
  rw [q1, bind_some', q2, bind_some']
  show iteB true (iteB true ((F113 n [] 34).bind _) _) _ = _
  rw [iteB_t, iteB_t]
  rw [F113, F138]
  show (F131000125 n []).bind _ = _
  rw [F131000125, q3]
  rfl
theorem one_named : Ev (fun n => F89 n [97]) true := by
  have e : Ev (fun n => F127000125_L1 n [97] (0 : Int)) false := by
    refine ⟨2, fun n hn => ?_⟩
    obtain ⟨m, rfl⟩ : ∃ m, n = m + 1 + 1 := ⟨n - 2, by omega⟩
    show F127000125_L1 (m + 1 + 1) [97] (0 : Int) = some false
    rw [F127000125_L1]
    show iteB false (some true) (F127000125_L1 (m + 1) [97] 1) = _
    rw [iteB_f, F127000125_L1]
    rfl
  refine (e.bind (g := fun n v => some (!v)) Ev.pure).congr fun n => ?_
  rw [F89]
  rfl
theorem one_right : Ev (fun n => F27 n [oneR]) true := by
  have e3 := ev_odd [1, 0, 0] (by decide) 3 0 rfl
  have e4 := ev_some [1, 0, 0] (by decide) 3 0 rfl
  have hr : Ev (fun n => F59 n oneR) true := by
    obtain ⟨N1, e1⟩ := one_named
    obtain ⟨N2, e2⟩ := one_prefix
    obtain ⟨N3, e3⟩ := e3
    obtain ⟨N4, e4⟩ := e4
    refine ⟨N1 + N2 + N3 + N4, fun n hn => ?_⟩
    have q1 := e1 n (by omega)
    have q2 := e2 n (by omega)
    have q3 := e3 n (by omega)
    have q4 := e4 n (by omega)
    dsimp only at q1 q2 q3 q4
    show F59 n oneR = _
    rw [F59]
    show (F89 n [97]).bind _ = _
    rw [q1, bind_some', iteB_t]
    show (F90 n []).bind _ = _
    rw [q2, bind_some', iteB_t]
    show (F89000091_L1 n [1, 0, 0] ((0 : Nat) : Int)).bind _ = _
    rw [q3, bind_some']
    show (F93000091_L1 n [1, 0, 0] ((0 : Nat) : Int)).bind _ = _
    rw [q4]
    rfl
  obtain ⟨N1, e1⟩ := hr
  refine Ev.congr (g := fun n => F27_L1 n [oneR] (0 : Int)) (Ev.step (Ev.step ⟨N1 + 1, fun n hn => ?_⟩)) fun n => by rw [F27]
  have q1 := e1 (n + 1) (by omega)
  dsimp only at q1
  show F27_L1 (n + 1 + 1) [oneR] 0 = some true
  rw [F27_L1]
  show (F59 (n + 1) oneR).bind _ = _
  rw [q1, bind_some', Bool.not_true, iteB_f, grd_t _ ⟨by decide, by decide⟩]
  show (F61000044 (n + 1) [] oneR).bind _ = _
  rw [F61000044, F61000044_L1]
  show F27_L1 (n + 1) [oneR] 1 = _
  rw [F27_L1]
  rfl
end Go.Proofs.YtjkfobmfddfjhaaDoorX

/- What is due, plainly. -/
set_option linter.unusedVariables false
set_option linter.unusedSimpArgs false
namespace Go.Proofs.YtjkfobmfddfjhaaDoorX
open Go
def hasP (s p : List UInt8) : Bool := if p.length ≤ s.length then (s.take p.length == p) else false
theorem hasP_eq (n : Nat) (s p : List UInt8) : F80 n s p = some (hasP s p) := by
  rw [F80, F118]
  unfold hasP
  by_cases h : p.length ≤ s.length
  · rw [if_pos h, decide_eq_true (by omega), iteB_t, grd_t _ (by omega), toNat_nat]; rfl
  · rw [if_neg h, decide_eq_false (by omega), iteB_f]; rfl
def meansS (r : Rl) (name : List UInt8) : Bool := r.2.2.1 && hasP name r.2.1
theorem means_eq (n : Nat) (r : Rl) (name : List UInt8) : F46 n r name = some (meansS r name) := by
  rw [F46, hasP_eq, bind_some']
  unfold meansS
  cases r.2.2.1 <;> rfl
def clampS (n : Int) : Int := if (1125899906842624 : Int) < (if n < (0 : Int) then (0 : Int) else n) then (1125899906842624 : Int) else (if n < (0 : Int) then (0 : Int) else n)
theorem clamp_eq (n : Nat) (x : Int) : F81 n x = some (clampS x) := by rw [F81]; rfl
def dueS (d time now : Int) : Bool := if 0 < d then decide (clampS time ≤ IntKind.wrap .i64 (clampS now - IntKind.wrap .i64 (d * 86400))) else false
theorem due_eq (n : Nat) (d time now : Int) : F47 n d time now = some (dueS d time now) := by
  rw [F47, clamp_eq, bind_some', clamp_eq, bind_some']
  unfold dueS
  by_cases h : 0 < d
  · rw [if_pos h, decide_eq_true h, iteB_t]
  · rw [if_neg h, decide_eq_false h, iteB_f]
theorem clamp_bd (x : Int) : 0 ≤ clampS x ∧ clampS x ≤ 1125899906842624 := by
  unfold clampS
  split <;> split <;> omega
theorem due_mono {d time now now' : Int} (hd : dayB d) (h : clampS now ≤ clampS now') (h1 : dueS d time now = true) : dueS d time now' = true := by
  obtain ⟨h0, h2⟩ := hd
  have c1 := clamp_bd now
  have c2 := clamp_bd now'
  unfold dueS at h1 ⊢
  split at h1
  · rename_i hp
    rw [if_pos hp]
    rw [decide_eq_true_eq, w64 (n := d * 86400) (by omega), w64 (by omega)] at h1
    rw [decide_eq_true_eq, w64 (n := d * 86400) (by omega), w64 (by omega)]
    omega
  · cases h1
def selO (r : Rl) : Int := r.2.2.2.2.1
def selD (r : Rl) : Int := r.2.2.2.1
def askS (sel : Rl → Int) (l : List Rl) (e : En) (time now : Int) : Bool := l.any fun r => meansS r e.1 && dueS (sel r) time now
theorem ask_mono {sel : Rl → Int} {l : List Rl} {e : En} {time now now' : Int} (hd : ∀ r ∈ l, dayB (sel r)) (h : clampS now ≤ clampS now') (h1 : askS sel l e time now = true) : askS sel l e time now' = true := by
  unfold askS at h1 ⊢
  rw [List.any_eq_true] at h1 ⊢
  obtain ⟨r, hr, h2⟩ := h1
  rw [Bool.and_eq_true] at h2
  exact ⟨r, hr, by rw [Bool.and_eq_true]; exact ⟨h2.1, due_mono (hd r hr) h h2.2⟩⟩
theorem ask_off {sel : Rl → Int} {l : List Rl} {e : En} {time now : Int} (h : ∀ r ∈ l, r.2.2.1 = false) : askS sel l e time now = false := by
  unfold askS
  rw [List.any_eq_false]
  intro r hr
  unfold meansS
  rw [h r hr, Bool.false_and, Bool.false_and]; decide
theorem old_one (n : Nat) (r : Rl) (e : En) (time now : Int) : F1000001001000045 n r e () time now = some (meansS r e.1 && dueS (selO r) time now, e, (), time, now) := by
  have h : F1000001001000045 n r e () time now = (F46 n r e.1).bind fun v1 => iteB v1 ((F48 n r).bind fun v3 => (F47 n v3 time now).bind fun v4 => some (v4, e, (), time, now)) (some (false, e, (), time, now)) := by
    rw [F1000001001000045]; try rfl
  rw [h, means_eq, bind_some']
  cases meansS r e.1 with
  | false => rfl
  | true =>
    rw [iteB_t, F48, bind_some', due_eq]
    try rfl
theorem ev_oldL (l : List Rl) (hl : l.length ≤ 1000) (e : En) (time now : Int) : ∀ (k i : Nat), i + k = l.length → Ev (fun n => F1000000000046000044_L1 n l (i : Int) e.1 e.2.1 e.2.2.1 e.2.2.2 time now) ((l.drop i).any (fun r => meansS r e.1 && dueS (selO r) time now), e, (), time, now)
  | 0, i, hi => by
    rw [List.drop_of_length_le (by omega)]
    exact Ev.step (Ev.pure.congr fun n => by rw [F1000000000046000044_L1, decide_eq_false (by omega), iteB_f]; try rfl)
  | k + 1, i, hi => by
    rw [drop_cons l i default (by omega), List.any_cons]
    have u : ∀ n, F1000000000046000044_L1 (n + 1) l (i : Int) e.1 e.2.1 e.2.2.1 e.2.2.2 time now = iteB (meansS (l.getD i default) e.1 && dueS (selO (l.getD i default)) time now) (some (true, e, (), time, now)) (F1000000000046000044_L1 n l ((i + 1 : Nat) : Int) e.1 e.2.1 e.2.2.1 e.2.2.2 time now) := by
      intro n
      rw [F1000000000046000044_L1, decide_eq_true (by omega), iteB_t, grd_t _ (by omega), toNat_nat, g64 i (by omega)]
      show (F1000001001000045 n (l.getD i default) e () time now).bind _ = _
      rw [old_one, bind_some']
    cases h : (meansS (l.getD i default) e.1 && dueS (selO (l.getD i default)) time now) with
    | true => exact Ev.step (Ev.pure.congr fun n => by rw [u, h, iteB_t]; try rfl)
    | false =>
      rw [Bool.false_or]
      exact Ev.step ((ev_oldL l hl e time now k (i + 1) (by omega)).congr fun n => by rw [u, h, iteB_f])
theorem ev_old (l : List Rl) (hl : l.length ≤ 1000) (e : En) (time now : Int) : Ev (fun n => F49000043 n time l e now) (askS selO l e time now, l, e, now) := by
  refine ((ev_oldL l hl e time now l.length 0 (by omega)).bind (g := fun n v1 => some (v1.1, l, (v1.2.1.1, v1.2.1.2.1, v1.2.1.2.2.1, v1.2.1.2.2.2), v1.2.2.2.2)) Ev.pure).congr fun n => ?_
  rw [F49000043, F1000000000046000044]
  rfl
theorem day_one (n : Nat) (r : Rl) (e : En) (time now : Int) : F1000000001000045 n r e () time now = some (meansS r e.1 && dueS (selD r) time now, e, (), time, now) := by
  have h : F1000000001000045 n r e () time now = (F46 n r e.1).bind fun v1 => iteB v1 ((F49 n r).bind fun v3 => (F47 n v3 time now).bind fun v4 => some (v4, e, (), time, now)) (some (false, e, (), time, now)) := by
    rw [F1000000001000045]; try rfl
  rw [h, means_eq, bind_some']
  cases meansS r e.1 with
  | false => rfl
  | true =>
    rw [iteB_t, F49, bind_some', due_eq]
    try rfl
theorem ev_dayL (l : List Rl) (hl : l.length ≤ 1000) (e : En) (time now : Int) : ∀ (k i : Nat), i + k = l.length → Ev (fun n => F46000044_L1 n l (i : Int) e.1 e.2.1 e.2.2.1 e.2.2.2 time now) ((l.drop i).any (fun r => meansS r e.1 && dueS (selD r) time now), e, (), time, now)
  | 0, i, hi => by
    rw [List.drop_of_length_le (by omega)]
    exact Ev.step (Ev.pure.congr fun n => by rw [F46000044_L1, decide_eq_false (by omega), iteB_f]; try rfl)
  | k + 1, i, hi => by
    rw [drop_cons l i default (by omega), List.any_cons]
    have u : ∀ n, F46000044_L1 (n + 1) l (i : Int) e.1 e.2.1 e.2.2.1 e.2.2.2 time now = iteB (meansS (l.getD i default) e.1 && dueS (selD (l.getD i default)) time now) (some (true, e, (), time, now)) (F46000044_L1 n l ((i + 1 : Nat) : Int) e.1 e.2.1 e.2.2.1 e.2.2.2 time now) := by
      intro n
      rw [F46000044_L1, decide_eq_true (by omega), iteB_t, grd_t _ (by omega), toNat_nat, g64 i (by omega)]
      show (F1000000001000045 n (l.getD i default) e () time now).bind _ = _
      rw [day_one, bind_some']
    cases h : (meansS (l.getD i default) e.1 && dueS (selD (l.getD i default)) time now) with
    | true => exact Ev.step (Ev.pure.congr fun n => by rw [u, h, iteB_t]; try rfl)
    | false =>
      rw [Bool.false_or]
      exact Ev.step ((ev_dayL l hl e time now k (i + 1) (by omega)).congr fun n => by rw [u, h, iteB_f])
theorem ev_day (l : List Rl) (hl : l.length ≤ 1000) (e : En) (time now : Int) : Ev (fun n => F50000043 n time l e now) (askS selD l e time now, l, e, now) := by
  refine ((ev_dayL l hl e time now l.length 0 (by omega)).bind (g := fun n v1 => some (v1.1, l, (v1.2.1.1, v1.2.1.2.1, v1.2.1.2.2.1, v1.2.1.2.2.2), v1.2.2.2.2)) Ev.pure).congr fun n => ?_
  rw [F50000043, F46000044]
  rfl
def actB (nw al mk bo bp : Bool) (e : En) : List Ac := if ((!nw && bo) || ((nw && al) && (mk && bp))) = true then [((2 : Int), e.1, e.2.1)] else if (nw && (!mk && bp)) = true then [((1 : Int), e.1, e.2.1)] else []
def nwS (es : List En) (i : Nat) : Bool := if i = 0 then true else !((es.getD (i - 1) default).1 == (es.getD i default).1)
def alS (es : List En) (i : Nat) : Bool := if i + 1 = es.length then true else !((es.getD (i + 1) default).1 == (es.getD i default).1)
def actS (l : List Rl) (es : List En) (made : List Int) (now : Int) (i : Nat) : List Ac := actB (nwS es i) (alS es i) (es.getD i default).2.2.1 (askS selO l (es.getD i default) (made.getD (i - 1) default) now) (askS selD l (es.getD i default) (made.getD i default) now) (es.getD i default)
theorem J2_d (l : List Rl) (es : List En) (made : List Int) (now : Int) (n i : Nat) (acc : List Ac) (bp al : Bool) (e : En) (he : es.getD i default = e) (hgm : (0 ≤ (i : Int) ∧ (i : Int) < (made.length : Int)) = True) (hac : (acc.length + 1 ≤ 549755813888) = True) (w1 : IntKind.wrap .i64 ((i : Int) + 1) = ((i + 1 : Nat) : Int))
    (h2 : F50000043 n (made.getD i default) l e now = some (bp, l, e, now)) (bo : Bool) :
    F22_J2 n es made acc (i : Int) l now al = F22_L1 n es made ((i + 1 : Nat) : Int) l now (acc ++ actB true al e.2.2.1 bo bp e) := by
  obtain ⟨nm, id, mk, a⟩ := e
  cases mk <;> cases al <;> cases bp <;> simp only [F22_J2, F22_J3, F22_J4, toNat_nat, he, h2, bind_some', iteB_t, iteB_f, Bool.not_true, Bool.not_false, hgm, grd_True, hac, w1, actB, Bool.false_and, Bool.true_and, Bool.and_true, Bool.and_false, Bool.false_or, Bool.or_false, Bool.or_true, Bool.true_or, if_true, Bool.false_eq_true, if_false, List.append_nil]
theorem J5_d (l : List Rl) (es : List En) (made : List Int) (now : Int) (n i : Nat) (acc : List Ac) (bo bp al q : Bool) (e : En) (he : es.getD i default = e) (hq : ((es.getD (i - 1) default).1 == e.1) = q) (hgm : (0 ≤ (i : Int) ∧ (i : Int) < (made.length : Int)) = True) (hgm1 : (0 ≤ ((i - 1 : Nat) : Int) ∧ ((i - 1 : Nat) : Int) < (made.length : Int)) = True) (hac : (acc.length + 1 ≤ 549755813888) = True) (w1 : IntKind.wrap .i64 ((i : Int) + 1) = ((i + 1 : Nat) : Int)) (w2 : IntKind.wrap .i64 ((i : Int) - 1) = ((i - 1 : Nat) : Int))
    (h1 : F49000043 n (made.getD (i - 1) default) l e now = some (bo, l, e, now)) (h2 : F50000043 n (made.getD i default) l e now = some (bp, l, e, now)) (hal : q = true → al = false) :
    F22_J5 n es made acc (i : Int) l now al = F22_L1 n es made ((i + 1 : Nat) : Int) l now (acc ++ actB (!q) al e.2.2.1 bo bp e) := by
  obtain ⟨nm, id, mk, a⟩ := e
  have hq : ((es.getD (i - 1) default).1 == nm) = q := hq
  cases q
  · cases mk <;> cases al <;> cases bp <;> simp only [F22_J5, F22_J6, F22_J7, toNat_nat, he, hq, h1, h2, bind_some', iteB_t, iteB_f, Bool.not_true, Bool.not_false, hgm, hgm1, grd_True, hac, w1, w2, actB, Bool.false_and, Bool.true_and, Bool.and_true, Bool.and_false, Bool.false_or, Bool.or_false, Bool.or_true, Bool.true_or, if_true, Bool.false_eq_true, if_false, List.append_nil]
  · obtain rfl : al = false := hal rfl
    cases mk <;> cases bo <;> cases bp <;> simp only [F22_J5, F22_J6, F22_J7, toNat_nat, he, hq, h1, h2, bind_some', iteB_t, iteB_f, Bool.not_true, Bool.not_false, hgm, hgm1, grd_True, hac, w1, w2, actB, Bool.false_and, Bool.true_and, Bool.and_true, Bool.and_false, Bool.false_or, Bool.or_false, Bool.or_true, Bool.true_or, if_true, Bool.false_eq_true, if_false, List.append_nil]
theorem actB_al (q al mk bo bp : Bool) (e : En) (h : q = true) : actB (!q) al mk bo bp e = actB (!q) false mk bo bp e := by
  subst h
  cases al <;> rfl
theorem due_step (l : List Rl) (es : List En) (made : List Int) (now : Int) (hm : made.length = es.length) (hes : es.length ≤ 1000) (n i : Nat) (hi : i < es.length) (acc : List Ac) (ha : acc.length ≤ 1000) (bo bp : Bool)
    (h1 : F49000043 n (made.getD (i - 1) default) l (es.getD i default) now = some (bo, l, es.getD i default, now)) (h2 : F50000043 n (made.getD i default) l (es.getD i default) now = some (bp, l, es.getD i default, now)) :
    F22_L1 (n + 1) es made (i : Int) l now acc = F22_L1 n es made ((i + 1 : Nat) : Int) l now (acc ++ actB (nwS es i) (alS es i) (es.getD i default).2.2.1 bo bp (es.getD i default)) := by
  have w1 : IntKind.wrap .i64 ((i : Int) + 1) = ((i + 1 : Nat) : Int) := g64 i (by omega)
  have hgm : (0 ≤ (i : Int) ∧ (i : Int) < (made.length : Int)) = True := eq_true (by omega)
  have hac : (acc.length + 1 ≤ 549755813888) = True := eq_true (by omega)
  rw [F22_L1, decide_eq_true (by omega), iteB_t, grd_t _ (by omega), w1]
  by_cases h0 : i = 0
  · rw [show ((i : Int) == 0) = true from bqt (by omega), iteB_t]
    have hnw : nwS es i = true := by unfold nwS; rw [if_pos h0]
    rw [hnw]
    by_cases hl : i + 1 = es.length
    · rw [bqt (by omega), iteB_t, J2_d l es made now n i acc bp true _ rfl hgm hac w1 h2 bo]
      try (unfold alS; rw [if_pos hl])
    · rw [bq (by omega), iteB_f, grd_t _ (by omega), toNat_nat, toNat_nat, J2_d l es made now n i acc bp _ _ rfl hgm hac w1 h2 bo]
      try (unfold alS; rw [if_neg hl])
  · have w2 : IntKind.wrap .i64 ((i : Int) - 1) = ((i - 1 : Nat) : Int) := by rw [w64 (by omega)]; omega
    have hgm1 : (0 ≤ ((i - 1 : Nat) : Int) ∧ ((i - 1 : Nat) : Int) < (made.length : Int)) = True := eq_true (by omega)
    rw [show ((i : Int) == 0) = false from bq (by omega), iteB_f, w2, grd_t _ (by omega), toNat_nat, toNat_nat]
    have hnw : nwS es i = !((es.getD (i - 1) default).1 == (es.getD i default).1) := by unfold nwS; rw [if_neg h0]
    rw [hnw]
    cases hq : ((es.getD (i - 1) default).1 == (es.getD i default).1) with
    | true =>
      rw [Bool.not_true, iteB_f, J5_d l es made now n i acc bo bp false true _ rfl hq hgm hgm1 hac w1 w2 h1 h2 (fun _ => rfl)]
      congr 2
      try exact (actB_al true (alS es i) _ bo bp _ rfl).symm
    | false =>
      rw [Bool.not_false, iteB_t]
      by_cases hl : i + 1 = es.length
      · rw [bqt (by omega), iteB_t, J5_d l es made now n i acc bo bp true false _ rfl hq hgm hgm1 hac w1 w2 h1 h2 (fun h => by cases h)]
        unfold alS; rw [if_pos hl]; try rfl
      · rw [bq (by omega), iteB_f, grd_t _ (by omega), toNat_nat, J5_d l es made now n i acc bo bp _ false _ rfl hq hgm hgm1 hac w1 w2 h1 h2 (fun h => by cases h)]
        unfold alS; rw [if_neg hl]; try rfl
theorem act_len (l : List Rl) (es : List En) (made : List Int) (now : Int) (i : Nat) : (actS l es made now i).length ≤ 1 := by
  unfold actS actB
  split
  · exact Nat.le_refl 1
  · split
    · exact Nat.le_refl 1
    · exact Nat.zero_le _
def actsF (l : List Rl) (es : List En) (made : List Int) (now : Int) : Nat → Nat → List Ac
  | 0, _ => []
  | k + 1, i => actS l es made now i ++ actsF l es made now k (i + 1)
theorem ev_dueL (l : List Rl) (hl : l.length ≤ 1000) (es : List En) (made : List Int) (now : Int) (hm : made.length = es.length) (hes : es.length ≤ 500) : ∀ (k i : Nat) (acc : List Ac), i + k = es.length → acc.length ≤ i → Ev (fun n => F22_L1 n es made (i : Int) l now acc) (acc ++ actsF l es made now k i)
  | 0, i, acc, hi, ha => by
    rw [actsF, List.append_nil]
    exact Ev.step (Ev.pure.congr fun n => by rw [F22_L1, decide_eq_false (by omega), iteB_f])
  | k + 1, i, acc, hi, ha => by
    have hal := act_len l es made now i
    obtain ⟨N1, e1⟩ := ev_old l hl (es.getD i default) (made.getD (i - 1) default) now
    obtain ⟨N2, e2⟩ := ev_day l hl (es.getD i default) (made.getD i default) now
    obtain ⟨N3, e3⟩ := ev_dueL l hl es made now hm hes k (i + 1) (acc ++ actS l es made now i) (by omega) (by rw [List.length_append]; omega)
    rw [actsF, ← List.append_assoc]
    refine Ev.step ⟨N1 + N2 + N3, fun n hn => ?_⟩
    have q1 := e1 n (by omega)
    have q2 := e2 n (by omega)
    have q3 := e3 n (by omega)
    dsimp only at q1 q2 q3
    show F22_L1 (n + 1) es made (i : Int) l now acc = _
    rw [due_step l es made now hm (by omega) n i (by omega) acc (by omega) _ _ q1 q2]
    exact q3
end Go.Proofs.YtjkfobmfddfjhaaDoorX

/- Entries in order, and what is due of them. -/
set_option linter.unusedVariables false
set_option linter.unusedSimpArgs false
namespace Go.Proofs.YtjkfobmfddfjhaaDoorX
open Go
theorem bl_irr : ∀ a : List UInt8, Op.bytesLess a a = false
  | [] => rfl
  | a :: x => by
    have h := bl_irr x
    simp only [Op.bytesLess, h, Bool.and_false, Bool.or_false, decide_eq_false_iff_not]
    exact UInt8.lt_irrefl a
theorem bl_trans : ∀ a b c : List UInt8, Op.bytesLess a b = true → Op.bytesLess b c = true → Op.bytesLess a c = true
  | _, [], _, h, _ => by simp [Op.bytesLess] at h
  | [], _ :: _, [], _, h => by simp [Op.bytesLess] at h
  | [], _ :: _, _ :: _, _, _ => by simp [Op.bytesLess]
  | _ :: _, _ :: _, [], _, h => by simp [Op.bytesLess] at h
  | a :: x, b :: y, c :: z, h, h' => by
    simp only [Op.bytesLess, Bool.or_eq_true, decide_eq_true_eq, Bool.and_eq_true, beq_iff_eq] at h h' ⊢
    rcases h with h | ⟨rfl, h⟩
    · rcases h' with h' | ⟨rfl, h'⟩
      · exact .inl (UInt8.lt_trans h h')
      · exact .inl h
    · rcases h' with h' | ⟨rfl, h'⟩
      · exact .inl h'
      · exact .inr ⟨rfl, bl_trans x y z h h'⟩
def ltE (a b : En) : Prop := Op.bytesLess a.1 b.1 = true ∨ (a.1 = b.1 ∧ b.2.1 < a.2.1)
theorem ltE.trans {a b c : En} (h : ltE a b) (h' : ltE b c) : ltE a c := by
  rcases h with h | ⟨e, h⟩
  · rcases h' with h' | ⟨e', h'⟩
    · exact .inl (bl_trans _ _ _ h h')
    · exact .inl (e' ▸ h)
  · rcases h' with h' | ⟨e', h'⟩
    · exact .inl (e ▸ h')
    · exact .inr ⟨e.trans e', by omega⟩
theorem ltE.ne {a b : En} (h : ltE a b) : ¬ (a.1 = b.1 ∧ a.2.1 = b.2.1) := by
  rintro ⟨h1, h2⟩
  rcases h with h | ⟨_, h⟩
  · rw [h1, bl_irr] at h; cases h
  · omega
def ordE (es : List En) : Prop := ∀ i, 0 < i → i < es.length → ltE (es.getD (i - 1) default) (es.getD i default)
theorem ordE.all {es : List En} (h : ordE es) : ∀ (d i : Nat), i + d + 1 < es.length → ltE (es.getD i default) (es.getD (i + d + 1) default)
  | 0, i, hi => h (i + 1) (by omega) (by omega)
  | d + 1, i, hi => (ordE.all h d i (by omega)).trans (h (i + (d + 1) + 1) (by omega) hi)
theorem ev_ordL (es : List En) (hes : es.length ≤ 1000) : ∀ (k i : Nat), i + k = es.length + 1 → 0 < i → (∀ j, 0 < j → j < i → j < es.length → ltE (es.getD (j - 1) default) (es.getD j default)) → ∃ b, Ev (fun n => F42_L1 n es (i : Int)) b ∧ (b = true → ordE es)
  | 0, i, hi, h0, hj => ⟨true, Ev.step (Ev.pure.congr fun n => by rw [F42_L1, decide_eq_false (by omega), iteB_f]), fun _ j h1 h2 => hj j h1 (by omega) h2⟩
  | k + 1, i, hi, h0, hj => by
    by_cases hl : i < es.length
    · have w1 : IntKind.wrap .i64 ((i : Int) - 1) = ((i - 1 : Nat) : Int) := by rw [w64 (by omega)]; omega
      generalize ha : es.getD (i - 1) default = a at *
      generalize hb : es.getD i default = b at *
      have u : ∀ n, F42_L1 (n + 1) es (i : Int) = iteB (!(Op.bytesLess a.1 b.1 || a.1 == b.1)) (some false) (iteB (a.1 == b.1) (iteB (decide (a.2.1 ≤ b.2.1)) (some false) (F42_L1 n es ((i + 1 : Nat) : Int))) (F42_L1 n es ((i + 1 : Nat) : Int))) := by
        intro n
        rw [F42_L1, decide_eq_true (by omega), iteB_t, w1, grd_t _ (by omega), grd_t _ (by omega), toNat_nat, toNat_nat, ha, hb, g64 i (by omega)]
      have go : ltE a b → ∃ b, Ev (fun n => F42_L1 n es ((i + 1 : Nat) : Int)) b ∧ (b = true → ordE es) := fun hlt =>
        ev_ordL es hes k (i + 1) (by omega) (by omega) (fun j h1 h2 h3 => by
          by_cases e : j = i
          · subst e; rw [ha, hb]; exact hlt
          · exact hj j h1 (by omega) h3)
      cases hx : Op.bytesLess a.1 b.1 with
      | true =>
        obtain ⟨r, e, hr⟩ := go (.inl hx)
        cases hy : (a.1 == b.1) with
        | true =>
          have : a.1 = b.1 := beq_iff_eq.1 hy
          rw [this, bl_irr] at hx; cases hx
        | false => exact ⟨r, Ev.step (e.congr fun n => by rw [u, hx, hy]; rfl), hr⟩
      | false =>
        cases hy : (a.1 == b.1) with
        | false => exact ⟨false, Ev.step (Ev.pure.congr fun n => by rw [u, hx, hy]; rfl), fun h => by cases h⟩
        | true =>
          by_cases hz : a.2.1 ≤ b.2.1
          · exact ⟨false, Ev.step (Ev.pure.congr fun n => by rw [u, hx, hy, decide_eq_true hz]; rfl), fun h => by cases h⟩
          · obtain ⟨r, e, hr⟩ := go (.inr ⟨beq_iff_eq.1 hy, by omega⟩)
            exact ⟨r, Ev.step (e.congr fun n => by rw [u, hx, hy, decide_eq_false hz]; rfl), hr⟩
    · exact ⟨true, Ev.step (Ev.pure.congr fun n => by rw [F42_L1, decide_eq_false (by omega), iteB_f]), fun _ j h1 h2 => hj j h1 (by omega) h2⟩
theorem ev_ord (es : List En) (hes : es.length ≤ 1000) : ∃ b, Ev (fun n => F42 n es) b ∧ (b = true → ordE es) := by
  obtain ⟨b, e, h⟩ := ev_ordL es hes es.length 1 (by omega) (by omega) (fun j h1 h2 _ => by omega)
  exact ⟨b, e.congr fun n => by rw [F42]; rfl, h⟩
def dueA (l : List Rl) (es : List En) (made : List Int) (now : Int) (o r : Bool) : List Ac := if made.length ≠ es.length then [] else if o = false then [] else if r = false then [] else actsF l es made now es.length 0
theorem ev_Due (l : List Rl) (hl : l.length ≤ 1000) (es : List En) (hes : es.length ≤ 500) (made : List Int) (hml : made.length ≤ 1000) (now : Int) {o r : Bool} (eo : Ev (fun n => F42 n es) o) (er : Ev (fun n => F27 n l) r) : Ev (fun n => F22 n l es made now) (dueA l es made now o r) := by
  unfold dueA
  by_cases hm : made.length = es.length
  · rw [if_neg (fun h => h hm)]
    have hq : ((made.length : Int) != (es.length : Int)) = false := by
      show (!((made.length : Int) == (es.length : Int))) = false
      rw [bqt (by omega)]; rfl
    have u : ∀ n, F22 n l es made now = (F42 n es).bind fun v2 => iteB (!v2) (some []) ((F27 n l).bind fun v4 => iteB (!v4) (some []) (F22_L1 n es made (0 : Int) l now [])) := by
      intro n
      rw [F22, hq, iteB_f]
    refine (eo.bind (g := fun n v2 => iteB (!v2) (some []) ((F27 n l).bind fun v4 => iteB (!v4) (some []) (F22_L1 n es made (0 : Int) l now []))) ?_).congr u
    cases o with
    | false => exact Ev.pure
    | true =>
      rw [if_neg (by decide)]
      refine (er.bind (g := fun n v4 => iteB (!v4) (some []) (F22_L1 n es made (0 : Int) l now [])) ?_).congr fun n => rfl
      cases r with
      | false => exact Ev.pure
      | true =>
        rw [if_neg (by decide)]
        have e := ev_dueL l hl es made now hm hes es.length 0 [] (by omega) (Nat.le_refl _)
        rw [List.nil_append] at e
        exact e.congr fun n => rfl
  · rw [if_pos hm]
    refine Ev.pure.congr fun n => ?_
    rw [F22, show ((made.length : Int) != (es.length : Int)) = true by rw [bne_iff_ne]; omega, iteB_t]
theorem acts_len (l : List Rl) (es : List En) (made : List Int) (now : Int) : ∀ k i, (actsF l es made now k i).length ≤ k
  | 0, i => Nat.le_refl _
  | k + 1, i => by
    have h1 := act_len l es made now i
    have h2 := acts_len l es made now k (i + 1)
    rw [actsF, List.length_append]; omega
theorem actB_key {nw al mk bo bp : Bool} {e : En} {y : Ac} (h : y ∈ actB nw al mk bo bp e) : y.2 = (e.1, e.2.1) := by
  unfold actB at h
  split at h
  · rw [List.mem_singleton.1 h]
  · split at h
    · rw [List.mem_singleton.1 h]
    · cases h
theorem actB_mono {nw al mk bo bp bo' bp' : Bool} {e : En} {y : Ac} (ho : bo = true → bo' = true) (hp : bp = true → bp' = true) (h : y ∈ actB nw al mk bo bp e) : y ∈ actB nw al mk bo' bp' e := by
  cases bo with
  | false =>
    cases bp with
    | false => cases nw <;> cases al <;> cases mk <;> cases h
    | true =>
      rw [hp rfl]
      cases nw <;> cases al <;> cases mk <;> cases bo' <;> first | exact h | cases h
  | true =>
    rw [ho rfl]
    cases bp with
    | false => cases bp' <;> cases nw <;> cases al <;> cases mk <;> first | exact h | cases h
    | true => rw [hp rfl]; exact h
theorem acts_mem {l : List Rl} {es : List En} {made : List Int} {now : Int} {y : Ac} : ∀ {k i}, y ∈ actsF l es made now k i → ∃ j, i ≤ j ∧ j < i + k ∧ y ∈ actS l es made now j
  | 0, i, h => by cases h
  | k + 1, i, h => by
    rw [actsF] at h
    rcases List.mem_append.1 h with h | h
    · exact ⟨i, Nat.le_refl _, by omega, h⟩
    · obtain ⟨j, h1, h2, h3⟩ := acts_mem h
      exact ⟨j, by omega, by omega, h3⟩
theorem mem_acts {l : List Rl} {es : List En} {made : List Int} {now : Int} {y : Ac} : ∀ {k i j}, i ≤ j → j < i + k → y ∈ actS l es made now j → y ∈ actsF l es made now k i
  | 0, i, j, h1, h2, h3 => by omega
  | k + 1, i, j, h1, h2, h3 => by
    rw [actsF]
    by_cases e : i = j
    · subst e; exact List.mem_append_left _ h3
    · exact List.mem_append_right _ (mem_acts (by omega) (by omega) h3)
theorem acts_nodup {l : List Rl} {es : List En} {made : List Int} {now : Int} (ho : ordE es) : ∀ (k i : Nat), i + k ≤ es.length → (actsF l es made now k i).Nodup
  | 0, i, h => List.nodup_nil
  | k + 1, i, h => by
    rw [actsF, List.nodup_append]
    refine ⟨?_, acts_nodup ho k (i + 1) (by omega), ?_⟩
    · have := act_len l es made now i
      generalize actS l es made now i = x at this
      match x, this with
      | [], _ => exact List.nodup_nil
      | [a], _ => exact List.nodup_cons.2 ⟨by simp, List.nodup_nil⟩
    · intro a ha b hb e
      subst e
      obtain ⟨j, h1, h2, h3⟩ := acts_mem hb
      have k1 := actB_key ha
      have k2 := actB_key h3
      have hlt := ordE.all ho (j - i - 1) i (by omega)
      rw [show i + (j - i - 1) + 1 = j by omega] at hlt
      have := k1.symm.trans k2
      exact hlt.ne ⟨(Prod.mk.inj this).1, (Prod.mk.inj this).2⟩
theorem acts_sub {l : List Rl} {es : List En} {made : List Int} {now now' : Int} (hd : ∀ r ∈ l, daysOk r) (hc : clampS now ≤ clampS now') {y : Ac} {k i : Nat} (h : y ∈ actsF l es made now k i) : y ∈ actsF l es made now' k i := by
  obtain ⟨j, h1, h2, h3⟩ := acts_mem h
  exact mem_acts h1 h2 (actB_mono (ask_mono (fun r hr => (hd r hr).2.1) hc) (ask_mono (fun r hr => (hd r hr).1) hc) h3)
theorem acts_le {l : List Rl} {es : List En} {made : List Int} {now now' : Int} (hd : ∀ r ∈ l, daysOk r) (hc : clampS now ≤ clampS now') : ∀ k i, (actsF l es made now k i).length ≤ (actsF l es made now' k i).length
  | 0, i => Nat.le_refl _
  | k + 1, i => by
    have ih := acts_le (es := es) (made := made) hd hc k (i + 1)
    rw [actsF, actsF, List.length_append, List.length_append]
    have h1 := act_len l es made now i
    have : (actS l es made now i).length ≤ (actS l es made now' i).length := by
      match hx : actS l es made now i, h1 with
      | [], _ => exact Nat.zero_le _
      | [a], _ =>
        have ha : a ∈ actS l es made now i := by rw [hx]; simp
        have := actB_mono (ask_mono (fun r hr => (hd r hr).2.1) hc) (ask_mono (fun r hr => (hd r hr).1) hc) ha
        exact List.length_pos_of_mem this
    omega
theorem acts_off {l : List Rl} {es : List En} {made : List Int} {now : Int} (h : ∀ r ∈ l, r.2.2.1 = false) : ∀ k i, actsF l es made now k i = []
  | 0, i => rfl
  | k + 1, i => by
    rw [actsF, acts_off h k (i + 1), List.append_nil]
    unfold actS
    rw [ask_off h, ask_off h]
    cases nwS es i <;> cases alS es i <;> cases (es.getD i default).2.2.1 <;> rfl
end Go.Proofs.YtjkfobmfddfjhaaDoorX

/- What stays with a lifecycle: the law. -/
set_option linter.unusedVariables false
set_option linter.unusedSimpArgs false
namespace Go.Proofs.YtjkfobmfddfjhaaDoorX
open Go
theorem low48 (x : Int) : ∃ m : Nat, m < 281474976710656 ∧ IntKind.wrap .i64 (bAnd .i64 x 281474976710655) = (m : Int) := by
  have hm : (BitVec.ofInt 64 281474976710655).toNat = 281474976710655 := by decide
  have h : (BitVec.ofInt 64 x &&& BitVec.ofInt 64 281474976710655).toNat < 281474976710656 := by
    rw [BitVec.toNat_and, hm]
    have := Nat.and_le_right (n := (BitVec.ofInt 64 x).toNat) (m := 281474976710655)
    omega
  refine ⟨(BitVec.ofInt 64 x &&& BitVec.ofInt 64 281474976710655).toNat, h, ?_⟩
  show IntKind.wrap .i64 ((BitVec.ofInt 64 x &&& BitVec.ofInt 64 281474976710655).toNat : Int) = _
  exact w64 (by omega)
theorem clamp_mono {a b : Int} (h : a ≤ b) : clampS a ≤ clampS b := by
  unfold clampS
  repeat' split
  all_goals omega
theorem ev_ownL (l : List Rl) : ∀ (k i : Nat) (x : Int) (acc : List Rl), i + k = l.length → 10 * (i : Int) ≤ x → x ≤ 1500 → acc.length = i → ∃ v, Ev (fun n => F20_L1 n l x (i : Int) acc) v
  | 0, i, x, acc, hi, h1, h2, ha => ⟨(acc, true), Ev.step (Ev.pure.congr fun n => by rw [F20_L1, decide_eq_false (by omega), iteB_f])⟩
  | k + 1, i, x, acc, hi, h1, h2, ha => by
    obtain ⟨p, hp0, hp⟩ : ∃ p : Nat, p ≤ 900 ∧ (if (900 : Int) < (((l.getD i default).1).length : Int) then (900 : Int) else (((l.getD i default).1).length : Int)) = (p : Int) := by
      split
      · exact ⟨900, by omega, rfl⟩
      · exact ⟨_, by omega, rfl⟩
    obtain ⟨q, hq0, hq⟩ : ∃ q : Nat, q ≤ 900 ∧ (if (900 : Int) < (((l.getD i default).2.1).length : Int) then (900 : Int) else (((l.getD i default).2.1).length : Int)) = (q : Int) := by
      split
      · exact ⟨900, by omega, rfl⟩
      · exact ⟨_, by omega, rfl⟩
    have hw : IntKind.wrap .i64 (IntKind.wrap .i64 (IntKind.wrap .i64 (x + 10) + (p : Int)) + (q : Int)) = x + 10 + p + q := by
      rw [w64 (n := x + 10) (by omega), w64 (n := x + 10 + p) (by omega), w64 (by omega)]
    have u : ∀ n, F20_L1 (n + 1) l x (i : Int) acc = iteB (decide ((1500 : Int) < x + 10 + p + q)) (some ([], false)) (grd ((acc.length + 1) ≤ 549755813888) (F20_L1 n l (x + 10 + p + q) ((i + 1 : Nat) : Int) (acc ++ [l.getD i default]))) := by
      intro n
      rw [F20_L1, decide_eq_true (by omega), iteB_t, grd_t _ (by omega), grd_t _ (by omega), grd_t _ (by omega), toNat_nat, hp, hq, hw, g64 i (by omega)]
    by_cases hb : (1500 : Int) < x + 10 + p + q
    · exact ⟨_, Ev.step (Ev.pure.congr fun n => by rw [u, decide_eq_true hb, iteB_t])⟩
    · obtain ⟨v, e⟩ := ev_ownL l k (i + 1) (x + 10 + p + q) (acc ++ [l.getD i default]) (by omega) (by omega) (by omega) (by rw [List.length_append]; simp; omega)
      exact ⟨v, Ev.step (e.congr fun n => by rw [u, decide_eq_false hb, iteB_f, grd_t _ (by omega)])⟩
theorem ev_own (l : List Rl) : ∃ v, Ev (fun n => F20 n l) v := by
  obtain ⟨v, e⟩ := ev_ownL l l.length 0 0 [] (by omega) (by omega) (by omega) rfl
  exact ⟨v, e.congr fun n => by rw [F20]; rfl⟩
theorem ev_entL (es : List En) : ∀ (k i : Nat) (acc : List En), i + k = es.length → i ≤ 101 → acc.length = i → ∃ v, Ev (fun n => F21_L1 n es (i : Int) acc) v ∧ (v.2 = true → es.length ≤ 101)
  | 0, i, acc, hi, h1, ha => ⟨(acc, true), Ev.step (Ev.pure.congr fun n => by rw [F21_L1, decide_eq_false (by omega), iteB_f]), fun _ => by omega⟩
  | k + 1, i, acc, hi, h1, ha => by
    have u : ∀ n, F21_L1 (n + 1) es (i : Int) acc = iteB (decide ((200 : Int) < (((es.getD i default).1).length : Int))) (some ([], false)) (iteB (decide ((100 : Int) < (i : Int))) (some ([], false)) (F21_L1 n es ((i + 1 : Nat) : Int) (acc ++ [es.getD i default]))) := by
      intro n
      rw [F21_L1, decide_eq_true (by omega), iteB_t, grd_t _ (by omega), grd_t _ (by omega), grd_t _ (by omega), toNat_nat, g64 i (by omega)]
    by_cases hb : (200 : Int) < (((es.getD i default).1).length : Int)
    · exact ⟨_, Ev.step (Ev.pure.congr fun n => by rw [u, decide_eq_true hb, iteB_t]), fun h => by cases h⟩
    · by_cases hc : (100 : Int) < (i : Int)
      · exact ⟨_, Ev.step (Ev.pure.congr fun n => by rw [u, decide_eq_false hb, iteB_f, decide_eq_true hc, iteB_t]), fun h => by cases h⟩
      · obtain ⟨v, e, h⟩ := ev_entL es k (i + 1) (acc ++ [es.getD i default]) (by omega) (by omega) (by rw [List.length_append]; simp; omega)
        exact ⟨v, Ev.step (e.congr fun n => by rw [u, decide_eq_false hb, iteB_f, decide_eq_false hc, iteB_f]), h⟩
theorem ev_ent (es : List En) : ∃ v, Ev (fun n => F21 n es) v ∧ (v.2 = true → es.length ≤ 101) := by
  obtain ⟨v, e, h⟩ := ev_entL es es.length 0 [] (by omega) (by omega) rfl
  exact ⟨v, e.congr fun n => by rw [F21]; rfl, h⟩
/-! Rules that are off. -/
def offR (r : Rl) : Rl := (r.1, r.2.1, false, r.2.2.2.1, r.2.2.2.2.1, r.2.2.2.2.2)
theorem up_one (n : Nat) (r : Rl) (hr : r.2.2.1 = false) (e : En) (made : List Int) (x now : Int) : F50 n r e made x now = some (false, e, made, x, now) := by
  have hm : meansS r e.1 = false := by unfold meansS; rw [hr]; rfl
  have h : F50 n r e made x now = (F46 n r e.1).bind fun v1 => iteB v1 (grd (0 ≤ x ∧ x < (made.length : Int)) ((F47 n r.2.2.2.2.2 (made.getD x.toNat default) now).bind fun v4 => some (v4, e, made, x, now))) (some (false, e, made, x, now)) := by
    rw [F50]
  rw [h, means_eq, bind_some', hm, iteB_f]
theorem ev_upsL (l : List Rl) (hl : l.length ≤ 1000) (ho : ∀ r ∈ l, r.2.2.1 = false) (e : En) (made : List Int) (x now : Int) : ∀ (k i : Nat), i + k = l.length → Ev (fun n => F51000044_L1 n l (i : Int) e.1 e.2.1 e.2.2.1 e.2.2.2 made x now) (false, e, made, x, now)
  | 0, i, hi => Ev.step (Ev.pure.congr fun n => by rw [F51000044_L1, decide_eq_false (by omega), iteB_f])
  | k + 1, i, hi => by
    have hm : l.getD i default ∈ l := by
      rw [List.getD_eq_getElem?_getD, List.getElem?_eq_getElem (by omega)]
      exact List.getElem_mem _
    refine Ev.step ((ev_upsL l hl ho e made x now k (i + 1) (by omega)).congr fun n => ?_)
    rw [F51000044_L1, decide_eq_true (by omega), iteB_t, grd_t _ (by omega), toNat_nat, g64 i (by omega)]
    show (F50 n (l.getD i default) e made x now).bind _ = _
    rw [up_one n _ (ho _ hm), bind_some', iteB_f]
theorem ev_uploadsL (l : List Rl) (hl : l.length ≤ 1000) (ho : ∀ r ∈ l, r.2.2.1 = false) (es : List En) (hes : es.length ≤ 1000) (made : List Int) (now : Int) : ∀ (k i : Nat), i + k = es.length → Ev (fun n => F23_L1 n l es (i : Int) made now []) []
  | 0, i, hi => Ev.step (Ev.pure.congr fun n => by rw [F23_L1, decide_eq_false (by omega), iteB_f])
  | k + 1, i, hi => by
    have e1 := ev_upsL l hl ho (es.getD i default) made (i : Int) now l.length 0 (by omega)
    refine Ev.step ((e1.bind (g := fun n v10 => iteB v10.1 (grd ((([] : List Ac).length + 1) ≤ 549755813888) (F23_L1 n l es ((i + 1 : Nat) : Int) v10.2.2.1 v10.2.2.2.2 ([] ++ [((3 : Int), v10.2.1.1, v10.2.1.2.1)]))) (F23_L1 n l es ((i + 1 : Nat) : Int) v10.2.2.1 v10.2.2.2.2 [])) (ev_uploadsL l hl ho es hes made now k (i + 1) (by omega))).congr fun n => ?_)
    rw [F23_L1, decide_eq_true (by omega), iteB_t, grd_t _ (by omega), toNat_nat, g64 i (by omega)]
    show (F51000044_L1 n l (0 : Int) (es.getD i default).1 (es.getD i default).2.1 (es.getD i default).2.2.1 (es.getD i default).2.2.2 made (i : Int) now).bind _ = (F51000044_L1 n l (0 : Int) (es.getD i default).1 (es.getD i default).2.1 (es.getD i default).2.2.1 (es.getD i default).2.2.2 made (i : Int) now).bind _
    rfl
theorem ev_uploads (l : List Rl) (hl : l.length ≤ 1000) (ho : ∀ r ∈ l, r.2.2.1 = false) (es : List En) (hes : es.length ≤ 1000) (made : List Int) (now : Int) : Ev (fun n => F23 n l es made now) [] := by
  obtain ⟨b, eb, _⟩ := ev_Rights l hl
  cases hm : ((made.length : Int) != (es.length : Int)) with
  | true => exact Ev.pure.congr fun n => by rw [F23, hm, iteB_t]
  | false =>
    refine (eb.bind (g := fun n v2 => iteB (!v2) (some []) (F23_L1 n l es (0 : Int) made now [])) ?_).congr fun n => by rw [F23, hm, iteB_f]
    cases b with
    | false => exact Ev.pure
    | true => exact (ev_uploadsL l hl ho es hes made now es.length 0 (by omega)).congr fun n => rfl
/-! Each once. -/
theorem ac_beq (x y : Ac) : ((x.1 == y.1) && ((x.2.1 == y.2.1) && (x.2.2 == y.2.2))) = decide (x = y) := by
  obtain ⟨a, b, c⟩ := x
  obtain ⟨a', b', c'⟩ := y
  rw [Bool.eq_iff_iff]
  simp only [Bool.and_eq_true, beq_iff_eq, decide_eq_true_eq, Prod.mk.injEq]
def cntA (b : Ac) : List Ac → Nat
  | [] => 0
  | x :: l => (if x = b then 1 else 0) + cntA b l
theorem cnt_not (b : Ac) : ∀ l : List Ac, b ∉ l → cntA b l = 0
  | [], _ => rfl
  | x :: l, h => by
    rw [cntA, if_neg (fun e => h (by rw [e]; exact List.mem_cons_self)), cnt_not b l (fun k => h (List.mem_cons_of_mem _ k))]
theorem cnt_one (b : Ac) : ∀ l : List Ac, l.Nodup → b ∈ l → cntA b l = 1
  | [], _, h => by cases h
  | x :: l, hn, h => by
    rw [List.nodup_cons] at hn
    rw [cntA]
    by_cases e : x = b
    · subst e
      rw [if_pos rfl, cnt_not _ l hn.1]
    · rw [if_neg e, cnt_one b l hn.2 (by rcases List.mem_cons.1 h with k | k; exact absurd k.symm e; exact k)]
theorem ev_cntL (a0 : List Rl) (a1 : List En) (c8 c9 : List Ac) (h8 : c8.length ≤ 1000) (j : Nat) (hj : j < c9.length) (h9 : c9.length ≤ 1000) (a2 : List Int × Int) (er : Ev (fun n => F7_L1 n a0 a1 c8 c9 a2 ((j + 1 : Nat) : Int)) true) : ∀ (k i c : Nat), i + k = c8.length → c ≤ i → c + cntA (c9.getD j default) (c8.drop i) = 1 → Ev (fun n => F7_L2 n a0 a1 c8 c9 (j : Int) a2 (c : Int) (i : Int)) true
  | 0, i, c, hi, hc, h1 => by
    rw [List.drop_of_length_le (by omega)] at h1
    have : c = 1 := h1
    subst this
    refine Ev.step (er.congr fun n => ?_)
    rw [F7_L2, decide_eq_false (by omega), iteB_f, show ((((1 : Nat) : Int)) != 1) = false from rfl, iteB_f, g64 j (by omega)]
  | k + 1, i, c, hi, hc, h1 => by
    rw [drop_cons c8 i default (by omega), cntA] at h1
    have u : ∀ n, F7_L2 (n + 1) a0 a1 c8 c9 (j : Int) a2 (c : Int) (i : Int) = iteB (decide (c8.getD i default = c9.getD j default)) (F7_L2 n a0 a1 c8 c9 (j : Int) a2 ((c + 1 : Nat) : Int) ((i + 1 : Nat) : Int)) (F7_L2 n a0 a1 c8 c9 (j : Int) a2 (c : Int) ((i + 1 : Nat) : Int)) := by
      intro n
      rw [F7_L2, decide_eq_true (by omega), iteB_t, grd_t _ (by omega), grd_t _ (by omega), toNat_nat, toNat_nat, g64 i (by omega), g64 c (by omega), ac_beq]
    by_cases he : c8.getD i default = c9.getD j default
    · rw [if_pos he] at h1
      exact Ev.step ((ev_cntL a0 a1 c8 c9 h8 j hj h9 a2 er k (i + 1) (c + 1) (by omega) (by omega) (by omega)).congr fun n => by rw [u, decide_eq_true he, iteB_t])
    · rw [if_neg he] at h1
      exact Ev.step ((ev_cntL a0 a1 c8 c9 h8 j hj h9 a2 er k (i + 1) c (by omega) (by omega) (by omega)).congr fun n => by rw [u, decide_eq_false he, iteB_f])
theorem ev_eachL (a0 : List Rl) (a1 : List En) (c8 c9 : List Ac) (h8 : c8.length ≤ 1000) (h9 : c9.length ≤ 1000) (hn : c8.Nodup) (hs : ∀ y ∈ c9, y ∈ c8) (a2 : List Int × Int) (er : Ev (fun n => F7_L3 n a0 a1 a2 (0 : Int) []) true) : ∀ (k j : Nat), j + k = c9.length → Ev (fun n => F7_L1 n a0 a1 c8 c9 a2 (j : Int)) true
  | 0, j, hj => Ev.step (er.congr fun n => by rw [F7_L1, decide_eq_false (by omega), iteB_f])
  | k + 1, j, hj => by
    have hm : c9.getD j default ∈ c9 := by
      rw [List.getD_eq_getElem?_getD, List.getElem?_eq_getElem (by omega)]
      exact List.getElem_mem _
    have h1 := cnt_one (c9.getD j default) c8 hn (hs _ hm)
    have e := ev_cntL a0 a1 c8 c9 h8 j (by omega) h9 a2 (ev_eachL a0 a1 c8 c9 h8 h9 hn hs a2 er k (j + 1) (by omega)) c8.length 0 0 (by omega) (Nat.le_refl _) (by rw [List.drop_zero]; omega)
    exact Ev.step (e.congr fun n => by rw [F7_L1, decide_eq_true (by omega), iteB_t]; rfl)
/-! The end. -/
theorem ev_dueOne : Ev (fun n => F22 n [oneR] [([107], 7, false, 0)] [0] 86400) [((1 : Int), ([107] : List UInt8), (7 : Int))] := by
  have eo : Ev (fun n => F42 n [([107], 7, false, 0)]) true := by
    refine Ev.congr (g := fun n => F42_L1 n [([107], 7, false, 0)] (1 : Int)) (Ev.step (Ev.pure.congr fun n => ?_)) fun n => by rw [F42]
    rw [F42_L1]
    rfl
  have e := ev_Due [oneR] (by decide) [([107], 7, false, 0)] (by decide) [0] (by decide) 86400 eo one_right
  have hd : dueA [oneR] [([107], 7, false, 0)] [0] 86400 true true = [((1 : Int), ([107] : List UInt8), (7 : Int))] := by decide +kernel
  rw [hd] at e
  exact e
theorem ev_dueOff (l : List Rl) (hl : l.length ≤ 1000) (ho : ∀ r ∈ l, r.2.2.1 = false) (es : List En) (hes : es.length ≤ 500) (made : List Int) (hm : made.length ≤ 1000) (now : Int) : Ev (fun n => F22 n l es made now) [] := by
  obtain ⟨b, eb, _⟩ := ev_Rights l hl
  obtain ⟨o, eo, _⟩ := ev_ord es (by omega)
  have e := ev_Due l hl es hes made hm now eo eb
  have hd : dueA l es made now o b = [] := by
    unfold dueA
    rw [acts_off ho]
    split
    · rfl
    · split
      · rfl
      · split <;> rfl
  rw [hd] at e
  exact e
theorem ev_endL (a0 : List Rl) (h0 : a0.length ≤ 16) (a1 : List En) (h1 : a1.length ≤ 101) (a2 : List Int × Int) (h2 : a2.1.length ≤ 200) : ∀ (k i : Nat), i + k = a0.length → Ev (fun n => F7_L3 n a0 a1 a2 (i : Int) ((a0.take i).map offR)) true
  | 0, i, hi => by
    have ht : (a0.take i) = a0 := List.take_of_length_le (by omega)
    have hl : (a0.map offR).length ≤ 1000 := by rw [List.length_map]; omega
    have ho : ∀ r ∈ a0.map offR, r.2.2.1 = false := by
      intro r hr
      obtain ⟨x, _, rfl⟩ := List.mem_map.1 hr
      rfl
    obtain ⟨N1, e1⟩ := ev_dueOne
    obtain ⟨N2, e2⟩ := ev_dueOff (a0.map offR) hl ho a1 (by omega) a2.1 (by omega) a2.2
    obtain ⟨N3, e3⟩ := ev_uploads (a0.map offR) hl ho a1 (by omega) a2.1 a2.2
    refine Ev.step ⟨N1 + N2 + N3, fun n hn => ?_⟩
    have q1 := e1 n (by omega)
    have q2 := e2 n (by omega)
    have q3 := e3 n (by omega)
    dsimp only at q1 q2 q3
    rw [ht]
    show F7_L3 (n + 1) a0 a1 a2 (i : Int) (a0.map offR) = some true
    rw [F7_L3, decide_eq_false (by omega), iteB_f]
    show (F22 n [oneR] [([107], 7, false, 0)] [0] 86400).bind _ = _
    rw [q1, bind_some', q2, bind_some']
    show (F23 n (a0.map offR) a1 a2.1 a2.2).bind _ = _
    rw [q3]
    rfl
  | k + 1, i, hi => by
    refine Ev.step ((ev_endL a0 h0 a1 h1 a2 h2 k (i + 1) (by omega)).congr fun n => ?_)
    have ht : (a0.take (i + 1)).map offR = (a0.take i).map offR ++ [offR (a0.getD i default)] := by
      rw [List.take_succ_eq_append_getElem (by omega), List.map_append, List.getD_eq_getElem?_getD, List.getElem?_eq_getElem (by omega)]; rfl
    rw [F7_L3, decide_eq_true (by omega), iteB_t, grd_t _ (by omega), grd_t _ (by rw [List.length_map, List.length_take]; omega), toNat_nat, g64 i (by omega), ht]
    rfl
theorem law_main (v0 : List Rl) (v1 : List En) (v2 : List Int × Int) (h0 : okT40 v0) (h1 : okT41 v1) (h2 : okT43 v2) : ∃ n, F7 n v0 v1 v2 = some true := by
  have key : Ev (fun n => F7 n v0 v1 v2) true := by
    obtain ⟨w1, e1⟩ := ev_own v0
    obtain ⟨w2, e2, hw2⟩ := ev_ent v1
    obtain ⟨N1, e1⟩ := e1
    obtain ⟨N2, e2⟩ := e2
    cases hf1 : w1.2 with
    | false =>
      refine ⟨N1 + N2, fun n hn => ?_⟩
      have q1 := e1 n (by omega)
      have q2 := e2 n (by omega)
      dsimp only at q1 q2
      show F7 n v0 v1 v2 = _
      rw [F7, q1, bind_some', q2, bind_some', hf1, Bool.not_false, iteB_t]
    | true =>
    cases hf2 : w2.2 with
    | false =>
      refine ⟨N1 + N2, fun n hn => ?_⟩
      have q1 := e1 n (by omega)
      have q2 := e2 n (by omega)
      dsimp only at q1 q2
      show F7 n v0 v1 v2 = _
      rw [F7, q1, bind_some', q2, bind_some', hf1, hf2, Bool.not_true, iteB_f, Bool.not_false, iteB_t]
    | true =>
    have hes := hw2 hf2
    by_cases h200 : (200 : Int) < (v2.1.length : Int)
    · refine ⟨N1 + N2, fun n hn => ?_⟩
      have q1 := e1 n (by omega)
      have q2 := e2 n (by omega)
      dsimp only at q1 q2
      show F7 n v0 v1 v2 = _
      rw [F7, q1, bind_some', q2, bind_some', hf1, hf2, Bool.not_true, iteB_f, iteB_f, decide_eq_true h200, iteB_t]
    by_cases h16 : (16 : Int) < (v0.length : Int)
    · refine ⟨N1 + N2, fun n hn => ?_⟩
      have q1 := e1 n (by omega)
      have q2 := e2 n (by omega)
      dsimp only at q1 q2
      show F7 n v0 v1 v2 = _
      rw [F7, q1, bind_some', q2, bind_some', hf1, hf2, Bool.not_true, iteB_f, iteB_f, decide_eq_false h200, iteB_f, decide_eq_true h16, iteB_t]
    obtain ⟨b, eb, hb⟩ := ev_Rights v0 (by omega)
    obtain ⟨o, eo, ho⟩ := ev_ord v1 (by omega)
    obtain ⟨m, hm, em⟩ := low48 v2.2
    have em2 : IntKind.wrap .i64 ((m : Int) + 8640000000) = (m : Int) + 8640000000 := w64 (by omega)
    have ea := ev_Due v0 (by omega) v1 (by omega) v2.1 (by omega) v2.2 eo eb
    have ec := ev_Due v0 (by omega) v1 (by omega) v2.1 (by omega) ((m : Int) + 8640000000) eo eb
    have ef := ev_Due v0 (by omega) v1 (by omega) v2.1 (by omega) (m : Int) eo eb
    have hlen : ∀ now, (dueA v0 v1 v2.1 now o b).length ≤ v1.length := by
      intro now
      unfold dueA
      split
      · exact Nat.zero_le _
      · split
        · exact Nat.zero_le _
        · split
          · exact Nat.zero_le _
          · exact acts_len _ _ _ _ _ _
    have hc : clampS (m : Int) ≤ clampS ((m : Int) + 8640000000) := clamp_mono (by omega)
    have hle : (dueA v0 v1 v2.1 (m : Int) o b).length ≤ (dueA v0 v1 v2.1 ((m : Int) + 8640000000) o b).length := by
      unfold dueA
      split
      · exact Nat.le_refl _
      · split
        · exact Nat.le_refl _
        · split
          · exact Nat.le_refl _
          · rename_i hbt
            exact acts_le (hb (by simpa using hbt)) hc _ _
    have hsub : ∀ y ∈ dueA v0 v1 v2.1 (m : Int) o b, y ∈ dueA v0 v1 v2.1 ((m : Int) + 8640000000) o b := by
      intro y hy
      unfold dueA at hy ⊢
      split at hy
      · cases hy
      · rename_i k1
        rw [if_neg k1]
        split at hy
        · cases hy
        · rename_i k2
          rw [if_neg k2]
          split at hy
          · cases hy
          · rename_i k3
            rw [if_neg k3]
            exact acts_sub (hb (by simpa using k3)) hc hy
    have hnd : (dueA v0 v1 v2.1 ((m : Int) + 8640000000) o b).Nodup := by
      unfold dueA
      split
      · exact List.nodup_nil
      · split
        · exact List.nodup_nil
        · rename_i hot
          split
          · exact List.nodup_nil
          · exact acts_nodup (ho (by simpa using hot)) _ _ (by omega)
    have hl1 := hlen v2.2
    have hl2 := hlen ((m : Int) + 8640000000)
    have hl3 := hlen (m : Int)
    have ee : Ev (fun n => F7_L3 n v0 v1 v2 (0 : Int) []) true := ev_endL v0 (by omega) v1 hes v2 (by omega) v0.length 0 (by omega)
    obtain ⟨N6, e6⟩ := ev_eachL v0 v1 _ _ (by omega) (by omega) hnd hsub v2 ee _ 0 (Nat.zero_add _)
    obtain ⟨N3, e3⟩ := ea
    obtain ⟨N4, e4⟩ := ec
    obtain ⟨N5, e5⟩ := ef
    refine ⟨N1 + N2 + N3 + N4 + N5 + N6, fun n hn => ?_⟩
    have q1 := e1 n (by omega)
    have q2 := e2 n (by omega)
    have q3 := e3 n (by omega)
    have q4 := e4 n (by omega)
    have q5 := e5 n (by omega)
    have q6 := e6 n (by omega)
    dsimp only at q1 q2 q3 q4 q5 q6
    show F7 n v0 v1 v2 = _
    rw [F7, q1, bind_some', q2, bind_some', hf1, hf2, Bool.not_true, iteB_f, iteB_f, decide_eq_false h200, iteB_f, decide_eq_false h16, iteB_f, q3, bind_some', em, em2, q4, bind_some', q5, bind_some', decide_eq_false (by omega), iteB_f, decide_eq_false (by omega), iteB_f]
    exact q6
  obtain ⟨N, h⟩ := key
  exact ⟨N, h N (Nat.le_refl _)⟩
end Go.Proofs.YtjkfobmfddfjhaaDoorX

set_option linter.unusedVariables false
namespace Go.Proofs.YtjkfobmfddfjhaaDoorX
open Go Go.RowKit Go.Proofs
set_option maxRecDepth 100000
theorem shapedRow (xs : List T) (h : ShapesW Tryd.prog [40, 41, 44] xs) : FnC Tryd.prog 7 xs (tb true) := shapedLifecycleStays law_main xs h
end Go.Proofs.YtjkfobmfddfjhaaDoorX
namespace Go.Proofs.YtjkfobmfddfjhaaDoor.lifecycleStays
open Go.ChangeShapes Go.WideShapes Go.ChangeAt Go.RowKit
set_option linter.unusedVariables false
theorem own : ownKnob Tryd.prog.godebug = none := by kernel_rfl
set_option maxRecDepth 100000 in
theorem lifted (os : Os) (started : os.Started) (H : Type) (enc : TypeId × Value → H) :
    ReturnsInHanded {} Tryd.checked os 7 .any (fun w args => (Rows.lifecycleStaysSpec.pre enc Tryd.prog Tryd.f7 [] false w args ∧ laidMetH Tryd.prog Rows.lifecycleStaysRow.laid w) ∧ sizedMet enc Tryd.prog Tryd.f7 (OpenSpec.ofChange Rows.lifecycleStaysSpec) false w args) (Rows.lifecycleStaysSpec.post enc Tryd.prog Tryd.f7 false true false false) := by
  refine returnsInHanded_of_change_and (C := Tryd.checked) (X := fun w _ => laidMetH Tryd.prog Rows.lifecycleStaysRow.laid w) (fun _ _ _ hh h => h.of_heap hh) own started (by kernel_rfl) Tryd.func7
    (ChangeSpec.witness_shaped (enc := enc) (C := Tryd.checked) (os := os) (X := fun w _ => laidMetH Tryd.prog Rows.lifecycleStaysRow.laid w) false (World.laidAll Tryd.prog os Rows.lifecycleStaysRow.laid) #[.slice none 0 0, .slice none 0 0, .agg #[.slice none 0 0, .int .i64 0]] 8 (World.laidAll_os _ _ _)
      (World.shaped_of_ZipB (by kernel_rfl) (by kernel_rfl)) (by kernel_rfl) (by kernel_rfl) (by kernel_rfl)
      (by rw [MakeChecks.laidMetH_plain _ _ _ (by kernel_rfl)]; exact laidMet_laidAll _ (by kernel_rfl) (by kernel_rfl))) ?_
  intro W base args ds gs before hval0 hW _ _ hL _
  exact YtjkfobmfddfjhaaDoorX.row_contract (P := Tryd.prog) (fn := Tryd.f7) (s := Rows.lifecycleStaysSpec) (ts := [40, 41, 44]) (tb := 4) (L := [40, 41, 44, 56, 58, 43, 55, 57, 42, 3, 9, 4]) (by kernel_rfl) (by kernel_rfl) (by kernel_rfl) (by kernel_rfl) (by kernel_rfl) (by kernel_rfl) rfl
    (fun H ds h => by
      match ds, h with
      | [d0, d1, d2], _ => rfl) YtjkfobmfddfjhaaDoorX.shapedRow W base args ds gs before hval0 hW
theorem over : Rows.lifecycleStaysRow.holds Tryd.pinned (OpenSpec.ofChange Rows.lifecycleStaysSpec) :=
  OpenClaim.holds_of_wide 7 Tryd.f7 rfl rfl rfl rfl rfl rfl rfl ⟨rfl, rfl, rfl, rfl, rfl⟩ rfl rfl rfl rfl rfl (by kernel_rfl) Tryd.func7 (by kernel_rfl)
    (of_decide_eq_true (by kernel_rfl)) (by unfold Func.isWrapper; first | (rw [if_pos (by decide +kernel)]; kernel_rfl) | (rw [if_neg (by decide +kernel)]; exact ⟨rfl, rfl⟩))
    (fun os started H enc _ => lifted os started H enc)
theorem proved : Rows.LifecycleStaysCardSaid :=
  Claim7.holds_tied_plain_at .later [] [.data, .pinned] true (true, "68c91526864c01bd21db3d054cd1b01b0e6c1d57d872f5e5285f0f1038b5ec8d") false
    over (fun _ h => by cases h) (by kernel_rfl) (fun _ h => by cases h) lifecycleStays_row_tie rfl ⟨rfl, rfl⟩ (by kernel_rfl) rfl
    (fun f fn hf hfn => by
      obtain rfl : f = 7 := Option.some.inj ((show Tryd.prog.funcNamed "shadowbox/shadowboxlaw41.LifecycleStays" = some 7 by kernel_rfl).symm.trans hf) |>.symm
      obtain rfl : fn = Tryd.f7 := (Option.some.inj (Tryd.func7.symm.trans hfn)).symm
      exact ⟨by kernel_rfl, fun j t ht => by
        rw [Tryd.params7] at ht
        have hm : t ∈ [40, 41, 44] := by simpa using Array.mem_of_getElem? ht
        have hall : ([40, 41, 44].all fun u => !Tryd.prog.wantsStandIn u) = true := by kernel_rfl
        exact (show Tryd.prog.wantsStandIn t = false by simpa using List.all_eq_true.1 hall t hm)⟩)
    (by kernel_rfl)
#print axioms proved
end Go.Proofs.YtjkfobmfddfjhaaDoor.lifecycleStays
namespace Go.Proofs.YtjkfobmfddfjhaaDoor
theorem lifecycleStays_holds : Rows.LifecycleStaysCardSaid := lifecycleStays.proved
end Go.Proofs.YtjkfobmfddfjhaaDoor
