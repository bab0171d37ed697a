/- UtfTells: for every string s, of which the first 2000 bytes are taken: the program's and the document's Next tell the same, Right tells that Count isn't below nought, Count and Clean tell the same; no condition on s. -/
import Derived.Test.YtcnkndmegnfofaaBUtfTellsb
import Derived.Test.YtcnkndmegnfofaaBUtfTellsa
import Derived.Test.YtcnkndmegnfofaaRows
import Derived.WalkKit
import Derived.ProofKit
import Derived.OpenShut
import Derived.ShutString
import Derived.ChangeOld
import Derived.Below
import Derived.SizedLaws
set_option linter.unusedVariables false
set_option linter.unusedSimpArgs false

/- Characters: Count, Right and Clean, the program's and the reference's. -/
namespace Go.Proofs.Ytcnkndmegnfofaa.P
open Go.RowKit Go.Proofs.YtcnkndmegnfofaaW.PrintWords Go.Proofs.YtcnkndmegnfofaaW.PrintLast Go.Proofs.YtcnkndmegnfofaaW.PrintMore
set_option linter.unusedVariables false
set_option linter.unusedSimpArgs false

/-- A text's characters, U+FFFD for each byte that begins none. -/
def charsU (l : List Int) : List Int := match l with
  | [] => []
  | a :: r => if (nextU (a :: r)).2 = 0 then 65533 :: charsU r else (nextU (a :: r)).1 :: charsU (r.drop ((nextU (a :: r)).2.toNat - 1))
  termination_by l.length
  decreasing_by all_goals (simp only [List.length_cons, List.length_drop]; omega)
/-- Is each of its bytes a part of a character? -/
def wellU (l : List Int) : Prop := match l with
  | [] => True
  | a :: r => (nextU (a :: r)).2 ≠ 0 ∧ wellU (r.drop ((nextU (a :: r)).2.toNat - 1))
  termination_by l.length
  decreasing_by all_goals (simp only [List.length_cons, List.length_drop]; omega)
def flatU (cs : List Int) : List Int := cs.flatMap putU
theorem chars_nil : charsU [] = [] := by rw [charsU]
theorem chars_bad {a : Int} {r : List Int} (h : (nextU (a :: r)).2 = 0) : charsU (a :: r) = 65533 :: charsU r := by rw [charsU, if_pos h]
theorem chars_good {a : Int} {r : List Int} (h : (nextU (a :: r)).2 ≠ 0) : charsU (a :: r) = (nextU (a :: r)).1 :: charsU (r.drop ((nextU (a :: r)).2.toNat - 1)) := by rw [charsU, if_neg h]
theorem well_nil : wellU [] := by rw [wellU]; trivial
theorem well_cons {a : Int} {r : List Int} : wellU (a :: r) ↔ (nextU (a :: r)).2 ≠ 0 ∧ wellU (r.drop ((nextU (a :: r)).2.toNat - 1)) := by rw [wellU]
theorem right_fffd : rightU 65533 := by decide
theorem next_pos {a : Int} {r : List Int} (hb : Bytes (a :: r)) (h : (nextU (a :: r)).2 ≠ 0) : 1 ≤ (nextU (a :: r)).2 ∧ (nextU (a :: r)).2 ≤ ((a :: r).length : Int) := by
  obtain ⟨h1, h2, rest, h3⟩ := put_next' (a :: r) hb h
  generalize (nextU (a :: r)).1 = c at h1 h2 h3
  have := congrArg List.length h3
  rw [List.length_append] at this
  omega
theorem drop_pos {a : Int} {r : List Int} {k : Int} (h : 1 ≤ k) : (a :: r).drop k.toNat = r.drop (k.toNat - 1) := by
  obtain ⟨n, hn⟩ : ∃ n, k.toNat = n + 1 := ⟨k.toNat - 1, by omega⟩
  rw [hn]; rfl
theorem good_split {a : Int} {r : List Int} (hb : Bytes (a :: r)) (h : (nextU (a :: r)).2 ≠ 0) : a :: r = putU (nextU (a :: r)).1 ++ r.drop ((nextU (a :: r)).2.toNat - 1) := by
  have hp := next_pos hb h
  obtain ⟨h1, h2, rest, h3⟩ := put_next' (a :: r) hb h
  rw [← drop_pos (a := a) hp.1]
  generalize (nextU (a :: r)).2 = k at h2 hp ⊢
  generalize (nextU (a :: r)).1 = c at h1 h2 h3 ⊢
  rw [h3]
  have : k.toNat = (putU c).length := by omega
  rw [this, List.drop_left]
theorem chars_right : ∀ (n : Nat) (l : List Int), l.length ≤ n → Bytes l → ∀ c ∈ charsU l, rightU c
  | n, [], hn, hb => by rw [chars_nil]; intro c hc; cases hc
  | 0, a :: r, hn, hb => by simp at hn
  | n + 1, a :: r, hn, hb => by
    by_cases h : (nextU (a :: r)).2 = 0
    · rw [chars_bad h]
      intro c hc
      rcases List.mem_cons.1 hc with rfl | hc
      · exact right_fffd
      · exact chars_right n r (by simp at hn; omega) hb.tail c hc
    · rw [chars_good h]
      intro c hc
      rcases List.mem_cons.1 hc with rfl | hc
      · exact (put_next' (a :: r) hb h).1
      · exact chars_right n _ (by simp at hn ⊢; omega) (hb.tail.drop _) c hc
theorem chars_len : ∀ (n : Nat) (l : List Int), l.length ≤ n → (charsU l).length ≤ l.length
  | n, [], hn => by rw [chars_nil]; simp
  | 0, a :: r, hn => by simp at hn
  | n + 1, a :: r, hn => by
    by_cases h : (nextU (a :: r)).2 = 0
    · rw [chars_bad h]
      have := chars_len n r (by simp at hn; omega)
      simp; omega
    · rw [chars_good h]
      have := chars_len n (r.drop ((nextU (a :: r)).2.toNat - 1)) (by simp at hn ⊢; omega)
      simp at this ⊢; omega
theorem putU_ne {c : Int} (h : rightU c) : ∃ a r, putU c = a :: r := by
  cases hp : putU c with
  | nil =>
    have := putU_len h
    rw [hp] at this
    unfold utfSize at this
    simp at this
    split at this
    · omega
    · split at this
      · omega
      · split at this <;> omega
  | cons a r => exact ⟨a, r, rfl⟩
/-- Characters that are put, one behind the other, are those characters. -/
theorem chars_flat : ∀ (cs : List Int), (∀ c ∈ cs, rightU c) → charsU (flatU cs) = cs ∧ wellU (flatU cs)
  | [], _ => ⟨chars_nil, well_nil⟩
  | c :: cs, h => by
    have hc := h c List.mem_cons_self
    obtain ⟨h1, h2⟩ := chars_flat cs (fun x hx => h x (List.mem_cons_of_mem _ hx))
    have hn := next_put hc (flatU cs)
    obtain ⟨a, r, hp⟩ := putU_ne hc
    have e : flatU (c :: cs) = a :: (r ++ flatU cs) := by show putU c ++ flatU cs = _; rw [hp]; rfl
    rw [hp] at hn
    have hn' : nextU (a :: (r ++ flatU cs)) = (c, ((a :: r).length : Int)) := hn
    have hd : (r ++ flatU cs).drop (((a :: r).length : Int).toNat - 1) = flatU cs := by
      rw [Int.toNat_natCast, List.length_cons, Nat.add_sub_cancel, List.drop_left]
    rw [e]
    have hne : (nextU (a :: (r ++ flatU cs))).2 ≠ 0 := by rw [hn']; simp; omega
    constructor
    · rw [chars_good hne, hn']
      simp only
      rw [hd, h1]
    · rw [well_cons, hn']
      simp only
      rw [hd]
      exact ⟨by simp; omega, h2⟩
theorem flat_of_well : ∀ (n : Nat) (l : List Int), l.length ≤ n → Bytes l → wellU l → flatU (charsU l) = l
  | n, [], hn, hb, hw => by rw [chars_nil]; rfl
  | 0, a :: r, hn, hb, hw => by simp at hn
  | n + 1, a :: r, hn, hb, hw => by
    obtain ⟨h, h2⟩ := well_cons.1 hw
    rw [chars_good h]
    show putU _ ++ flatU _ = _
    rw [flat_of_well n _ (by simp at hn ⊢; omega) (hb.tail.drop _) h2]
    exact (good_split hb h).symm
theorem well_iff {l : List Int} (hb : Bytes l) : wellU l ↔ flatU (charsU l) = l := by
  constructor
  · exact flat_of_well l.length l (Nat.le_refl _) hb
  · intro h
    have := (chars_flat (charsU l) (chars_right l.length l (Nat.le_refl _) hb)).2
    rwa [h] at this
theorem flatU_bytes (cs : List Int) : Bytes (flatU cs) := by
  intro x hx
  obtain ⟨c, _, hc⟩ := List.mem_flatMap.1 hx
  exact putU_bytes c x hc
theorem flatU_len (cs : List Int) : (flatU cs).length ≤ 4 * cs.length := by
  induction cs with
  | nil => simp [flatU]
  | cons c cs ih =>
    show (putU c ++ flatU cs).length ≤ _
    have := putU_bd c
    simp
    omega
/-- How many characters; below nought: it isn't right. -/
noncomputable def countU (n : Int) (l : List Int) : Int := open Classical in if wellU l then n + (charsU l).length else -1
theorem count_nil (n : Int) : countU n [] = n := by unfold countU; rw [if_pos well_nil, chars_nil]; simp
theorem count_bad {n : Int} {a : Int} {r : List Int} (h : (nextU (a :: r)).2 = 0) : countU n (a :: r) = -1 := by unfold countU; rw [if_neg (fun e => (well_cons.1 e).1 h)]
theorem count_good {n : Int} {a : Int} {r : List Int} (h : (nextU (a :: r)).2 ≠ 0) : countU n (a :: r) = countU (n + 1) (r.drop ((nextU (a :: r)).2.toNat - 1)) := by
  unfold countU
  by_cases hw : wellU (r.drop ((nextU (a :: r)).2.toNat - 1))
  · rw [if_pos hw, if_pos (well_cons.2 ⟨h, hw⟩), chars_good h]
    simp
    omega
  · rw [if_neg hw, if_neg (fun e => hw (well_cons.1 e).2)]
theorem bytes_cons (s : ByteArray) (h : s.size ≠ 0) : ∃ a r, bytesOf s = a :: r := by
  cases hb : bytesOf s with
  | nil => have := bytesOf_len s; rw [hb] at this; simp at this; omega
  | cons a r => exact ⟨a, r, rfl⟩
theorem ev_Count_loop : ∀ (d : Nat) (s : ByteArray) (n : Int), s.size ≤ d → s.size ≤ 140737488355000 → 0 ≤ n → n + s.size ≤ 140737488355000 →
    Ev (fun k => utf_Count.l0 k s n) (countU n (bytesOf s)) ∧ Ev (fun k => shadowboxref14_Count.l0 k s n) (countU n (bytesOf s)) := by
  intro d
  induction d with
  | zero =>
    intro s n hd hs h0 hn
    have hz : s.size = 0 := by omega
    rw [show bytesOf s = [] from List.eq_nil_of_length_eq_zero (by rw [bytesOf_len]; exact hz), count_nil]
    exact ⟨Ev.step (fun k => by rw [utf_Count.l0, if_pos (size_nil.2 hz)]) (Ev.now _), Ev.step (fun k => by rw [shadowboxref14_Count.l0, if_neg (by omega)]) (Ev.now _)⟩
  | succ d ih =>
    intro s n hd hs h0 hn
    by_cases hz : s.size = 0
    · rw [show bytesOf s = [] from List.eq_nil_of_length_eq_zero (by rw [bytesOf_len]; exact hz), count_nil]
      exact ⟨Ev.step (fun k => by rw [utf_Count.l0, if_pos (size_nil.2 hz)]) (Ev.now _), Ev.step (fun k => by rw [shadowboxref14_Count.l0, if_neg (by omega)]) (Ev.now _)⟩
    · obtain ⟨a, r, hl⟩ := bytes_cons s hz
      have hb := bytes_of s
      have hlen := bytesOf_len s
      have e1 := ev_Next s hs
      have e2 := ev_rNext s hs
      rw [hl] at hb hlen e1 e2 ⊢
      by_cases h : (nextU (a :: r)).2 = 0
      · rw [count_bad h]
        refine ⟨Ev.step (fun k => by rw [utf_Count.l0, if_neg (fun e => hz (size_nil.1 e))]) (Ev.bind e1 ?_), Ev.step (fun k => by rw [shadowboxref14_Count.l0, if_pos (by omega)]) (Ev.bind e2 ?_)⟩
        · exact Ev.congr (fun k => by rw [if_pos h]) (Ev.now _)
        · exact Ev.congr (fun k => by rw [if_pos h]) (Ev.now _)
      · have hp := next_pos hb h
        rw [count_good h]
        have hdr : bytesOf (s.extract (nextU (a :: r)).2.toNat s.size) = r.drop ((nextU (a :: r)).2.toNat - 1) := by rw [drop_bytes, hl, drop_pos hp.1]
        have hz2 : (s.extract (nextU (a :: r)).2.toNat s.size).size = s.size - (nextU (a :: r)).2.toNat := by rw [← bytesOf_len, hdr, List.length_drop]; simp at hlen; omega
        have hw : wrap64 (n + 1) = n + 1 := w64 (by omega)
        generalize (nextU (a :: r)) = p at *
        obtain ⟨i1, i2⟩ := ih (s.extract p.2.toNat s.size) (n + 1) (by omega) (by omega) (by omega) (by omega)
        rw [hdr] at i1 i2
        have q1 : p.2 ≤ (s.size : Int) := by rw [← hlen]; exact hp.2
        refine ⟨Ev.step (fun k => by rw [utf_Count.l0, if_neg (fun e => hz (size_nil.1 e))]) (Ev.bind e1 ?_), Ev.step (fun k => by rw [shadowboxref14_Count.l0, if_pos (by omega)]) (Ev.bind e2 ?_)⟩
        · exact Ev.congr (fun k => by rw [if_neg h, if_pos (by omega), if_pos q1, hw]) i1
        · exact Ev.congr (fun k => by rw [if_neg h, if_pos (by omega), if_pos q1, hw]) i2
theorem ev_Count (s : ByteArray) (hs : s.size ≤ 140737488355000) : Ev (fun k => utf_Count.f k s) (countU 0 (bytesOf s)) := (ev_Count_loop s.size s 0 (Nat.le_refl _) hs (by omega) (by omega)).1
theorem ev_rCount (s : ByteArray) (hs : s.size ≤ 140737488355000) : Ev (fun k => shadowboxref14_Count.f k s) (countU 0 (bytesOf s)) := (ev_Count_loop s.size s 0 (Nat.le_refl _) hs (by omega) (by omega)).2
theorem count_ge {l : List Int} : countU 0 l ≥ 0 ↔ wellU l := by
  unfold countU
  by_cases h : wellU l
  · rw [if_pos h]; exact ⟨fun _ => h, fun _ => by omega⟩
  · rw [if_neg h]; exact ⟨fun e => by omega, fun e => absurd e h⟩
theorem ev_Right (s : ByteArray) (hs : s.size ≤ 140737488355000) : Ev (fun k => utf_Right.f k s) (decide (countU 0 (bytesOf s) ≥ 0)) := by
  unfold utf_Right.f
  exact Ev.bind (ev_Count s hs) (Ev.now _)
theorem ev_Clean_loop : ∀ (d : Nat) (s : ByteArray) (acc : List Int), s.size ≤ d → s.size ≤ 10000000 → acc.length + 4 * s.size ≤ 1000000000 →
    Ev (fun k => utf_Clean.l0 k s acc) (strOfNums (acc ++ flatU (charsU (bytesOf s)))) ∧ Ev (fun k => shadowboxref14_Clean.l0 k s acc) (strOfNums (acc ++ flatU (charsU (bytesOf s)))) := by
  intro d
  induction d with
  | zero =>
    intro s acc hd hs hn
    have hz : s.size = 0 := by omega
    rw [show bytesOf s = [] from List.eq_nil_of_length_eq_zero (by rw [bytesOf_len]; exact hz), chars_nil, show flatU [] = [] from rfl, List.append_nil]
    exact ⟨Ev.step (fun k => by rw [utf_Clean.l0, if_pos (size_nil.2 hz)]) (Ev.now _), Ev.step (fun k => by rw [shadowboxref14_Clean.l0, if_neg (by omega)]) (Ev.now _)⟩
  | succ d ih =>
    intro s acc hd hs hn
    by_cases hz : s.size = 0
    · rw [show bytesOf s = [] from List.eq_nil_of_length_eq_zero (by rw [bytesOf_len]; exact hz), chars_nil, show flatU [] = [] from rfl, List.append_nil]
      exact ⟨Ev.step (fun k => by rw [utf_Clean.l0, if_pos (size_nil.2 hz)]) (Ev.now _), Ev.step (fun k => by rw [shadowboxref14_Clean.l0, if_neg (by omega)]) (Ev.now _)⟩
    · obtain ⟨a, r, hl⟩ := bytes_cons s hz
      have hb := bytes_of s
      have hlen := bytesOf_len s
      have e1 := ev_Next s (by omega)
      have e2 := ev_rNext s (by omega)
      rw [hl] at hb hlen e1 e2 ⊢
      by_cases h : (nextU (a :: r)).2 = 0
      · rw [chars_bad h]
        have hdr : bytesOf (s.extract 1 s.size) = r := by rw [drop_bytes, hl]; rfl
        have hz2 : (s.extract 1 s.size).size = s.size - 1 := by rw [← bytesOf_len, hdr]; simp at hlen; omega
        have hpf : putU 65533 = [239, 191, 189] := by decide
        obtain ⟨i1, i2⟩ := ih (s.extract 1 s.size) (acc ++ putU 65533) (by omega) (by omega) (by rw [hpf]; simp; omega)
        rw [hdr, List.append_assoc] at i1 i2
        refine ⟨Ev.step (fun k => by rw [utf_Clean.l0, if_neg (fun e => hz (size_nil.1 e))]) (Ev.bind e1 ?_), Ev.step (fun k => by rw [shadowboxref14_Clean.l0, if_pos (by omega)]) (Ev.bind e2 ?_)⟩
        · refine Ev.congr (fun k => by rw [if_pos h]) ?_
          refine Ev.bind (ev_Put acc (by omega) 65533) ?_
          exact Ev.congr (fun k => by rw [if_pos (by omega)]) i1
        · rw [hpf] at i2
          exact Ev.congr (fun k => by rw [if_pos h, Option.bind_some, if_pos (by simp; omega), if_pos (by omega)]) (by rw [show flatU (65533 :: charsU r) = [239, 191, 189] ++ flatU (charsU r) by show putU 65533 ++ flatU (charsU r) = _; rw [hpf]]; exact i2)
      · have hp := next_pos hb h
        rw [chars_good h]
        obtain ⟨hr, h2, _⟩ := put_next' (a :: r) hb h
        have hsp := good_split hb h
        have hdr : bytesOf (s.extract (nextU (a :: r)).2.toNat s.size) = r.drop ((nextU (a :: r)).2.toNat - 1) := by rw [drop_bytes, hl, drop_pos hp.1]
        have hz2 : (s.extract (nextU (a :: r)).2.toNat s.size).size = s.size - (nextU (a :: r)).2.toNat := by rw [← bytesOf_len, hdr, List.length_drop]; simp at hlen; omega
        have htk : bytesOf (s.extract 0 (nextU (a :: r)).2.toNat) = putU (nextU (a :: r)).1 := by
          rw [take_bytes, hl]
          have hlp : (nextU (a :: r)).2.toNat = (putU (nextU (a :: r)).1).length := by omega
          have q := congrArg (List.take (nextU (a :: r)).2.toNat) hsp
          rw [q, hlp, List.take_left]
        have hbd := putU_bd (nextU (a :: r)).1
        have hst : (s.extract 0 (nextU (a :: r)).2.toNat).size = (putU (nextU (a :: r)).1).length := by rw [← bytesOf_len, htk]
        clear hsp
        generalize (nextU (a :: r)) = p at *
        obtain ⟨i1, i2⟩ := ih (s.extract p.2.toNat s.size) (acc ++ putU p.1) (by omega) (by omega) (by rw [List.length_append]; omega)
        rw [hdr, List.append_assoc] at i1 i2
        have q1 : p.2 ≤ (s.size : Int) := by rw [← hlen]; exact hp.2
        refine ⟨Ev.step (fun k => by rw [utf_Clean.l0, if_neg (fun e => hz (size_nil.1 e))]) (Ev.bind e1 ?_), Ev.step (fun k => by rw [shadowboxref14_Clean.l0, if_pos (by omega)]) (Ev.bind e2 ?_)⟩
        · refine Ev.congr (fun k => by rw [if_neg h]) ?_
          refine Ev.bind (ev_Put acc (by omega) p.1) ?_
          exact Ev.congr (fun k => by rw [if_pos (by omega), if_pos q1]) i1
        · exact Ev.congr (fun k => by rw [if_neg h, if_pos (by omega), if_pos q1, htk, if_pos (by omega)]) i2
def cleanS (s : ByteArray) : ByteArray := strOfNums (flatU (charsU (bytesOf s)))
theorem ev_Clean (s : ByteArray) (hs : s.size ≤ 10000000) : Ev (fun k => utf_Clean.f k s) (cleanS s) := (ev_Clean_loop s.size s [] (Nat.le_refl _) hs (by simp; omega)).1
theorem ev_rClean (s : ByteArray) (hs : s.size ≤ 10000000) : Ev (fun k => shadowboxref14_Clean.f k s) (cleanS s) := (ev_Clean_loop s.size s [] (Nat.le_refl _) hs (by simp; omega)).2
theorem bytes_cleanS (s : ByteArray) : bytesOf (cleanS s) = flatU (charsU (bytesOf s)) := bytesOf_strOf (flatU_bytes _)
theorem cleanS_size (s : ByteArray) : (cleanS s).size ≤ 4 * s.size := by
  rw [← bytesOf_len, bytes_cleanS]
  have h1 := flatU_len (charsU (bytesOf s))
  have h2 := chars_len _ (bytesOf s) (Nat.le_refl _)
  rw [bytesOf_len] at h2
  omega
end Go.Proofs.Ytcnkndmegnfofaa.P

/- UtfTells: for every string s, of which the first 2000 bytes are taken: the program's and the document's Next tell the same, Right tells that Count isn't below nought, Count and Clean tell the same; no condition on s. -/
namespace Go.Proofs.Ytcnkndmegnfofaa.Pure
open Go.RowKit Go.Proofs.Ytcnkndmegnfofaa.P Go.Proofs.YtcnkndmegnfofaaW.PrintWords Go.Proofs.YtcnkndmegnfofaaW.PrintLast
set_option linter.unusedVariables false
set_option linter.unusedSimpArgs false

theorem UtfTells : shadowboxlaw14_UtfTells.Pure := by
  intro s hs
  refine Ev.rounds ?_
  have core : ∀ t : ByteArray, t.size ≤ 2000 → Ev (fun k => ((utf_Next.f k t).bind fun bt380 => ((shadowboxref14_Next.f k t).bind fun bt382 => (if bt380.1 = bt382.1 then (if bt380.2 = bt382.2 then ((utf_Right.f k t).bind fun t384 => ((shadowboxref14_Count.f k t).bind fun t385 => (if (t384 == (decide (t385 ≥ 0))) = true then ((utf_Count.f k t).bind fun t386 => (if t386 = t385 then ((utf_Clean.f k t).bind fun t387 => ((shadowboxref14_Clean.f k t).bind fun t388 => (if t387.toList = t388.toList then ((utf_Count.f k (⟨#[97, 195, 169]⟩ : ByteArray)).bind fun t389 => (some (t389 == 2))) else (some false)))) else (some false))) else (some false)))) else (some false)) else (some false))))) true := by
    intro t ht
    refine Ev.bind (ev_Next t (by omega)) ?_
    refine Ev.bind (ev_rNext t (by omega)) ?_
    refine Ev.congr (fun k => by rw [if_pos rfl, if_pos rfl]) ?_
    refine Ev.bind (ev_Right t (by omega)) ?_
    refine Ev.bind (ev_rCount t (by omega)) ?_
    refine Ev.congr (fun k => by rw [if_pos (beq_self_eq_true _)]) ?_
    refine Ev.bind (ev_Count t (by omega)) ?_
    refine Ev.congr (fun k => by rw [if_pos rfl]) ?_
    refine Ev.bind (ev_Clean t (by omega)) ?_
    refine Ev.bind (ev_rClean t (by omega)) ?_
    refine Ev.congr (fun k => by rw [if_pos rfl]) ?_
    refine Ev.bind (ev_Count _ (by decide)) ?_
    have h1 : bytesOf (⟨#[97, 195, 169]⟩ : ByteArray) = flatU [97, 233] := by decide
    have h2 := chars_flat [97, 233] (by decide)
    have h3 : countU 0 (bytesOf (⟨#[97, 195, 169]⟩ : ByteArray)) = 2 := by
      unfold countU
      rw [h1, if_pos h2.2, h2.1]
      rfl
    rw [h3]
    exact Ev.now _
  by_cases h : (s.size : Int) > 2000
  · have hx : (s.extract 0 2000).size ≤ 2000 := by rw [ByteArray.size_extract]; omega
    exact Ev.congr (fun k => by rw [shadowboxlaw14_UtfTells.f, if_pos h, if_pos (by decide), if_pos (by omega)]) (core _ hx)
  · exact Ev.congr (fun k => by rw [shadowboxlaw14_UtfTells.f, if_neg h]) (core s (by omega))

end Go.Proofs.Ytcnkndmegnfofaa.Pure

namespace Go.Proofs.Ytcnkndmegnfofaa.utfTells
open Go.ChangeShapes Go.WideShapes Go.ChangeAt Go.RowKit
open Go.ChangeMaps (open_string shut_string)
set_option linter.unusedVariables false
theorem own : ownKnob Try.prog.godebug = none := by kernel_rfl
set_option maxRecDepth 100000 in
theorem lifted (os : Os) (started : os.Started) (H : Type) (enc : TypeId × Value → H) :
    ReturnsInHanded {} Try.checked os 13 .any (Rows.utfTellsSpec.pre6 enc Try.prog Try.f13 Rows.utfTellsRow.domain false) (Rows.utfTellsSpec.post enc Try.prog Try.f13 false true false false) := by
  refine returnsInHanded_of_change_sized (C := Try.checked) own started (by kernel_rfl) Try.func13
    (ChangeSpec.witness6 (enc := enc) (C := Try.checked) false ⟨#[], #[.string ByteArray.empty], []⟩ 8 (by kernel_rfl) (by kernel_rfl) (by kernel_rfl) (by kernel_rfl)) ?_
  intro W base args ds gs before hval0 hW hcnd hsz0 _
  have hsz : (DataW.weightsEach Try.prog (Try.f13.params.toList ++ Rows.utfTellsSpec.plain.varTypes Try.prog) (ds ++ gs)).all (· ≤ reachBytes) = true := hsz0
  have hval : ∀ (j : Nat) t v, Try.f13.params[j]? = some t → args[j]? = some v → Value.okWide Try.prog W .any base t v := hval0
  have hW' := hW
  obtain ⟨p, q, hA0, hV, rfl, hfz, hnd⟩ := hW
  have hA : DataW.TrodAll enc Try.prog W 0 (fun _ => true) true Try.f13.params.toList args.toList ds p := hA0
  rw [Try.params13] at hA hval hsz
  obtain ⟨v0, vs0, d0, ds0, p0, q0, hargs, rfl, rfl, h0, r0⟩ := trodAll_cons hA
  obtain ⟨rfl, rfl, rfl⟩ := trodAll_nil r0
  obtain rfl : args = #[v0] := by cases args; simp_all
  obtain ⟨rfl, rfl⟩ := trodVars_none hV
  obtain ⟨a0, rfl, rfl, rfl, y0⟩ := open_string Try.underlying9 (hval 0 9 v0 rfl rfl) h0
  have w0 : a0.size ≤ 140737488351232 := by
    have z := sized_string hsz (j := 0) (t := 9) rfl rfl
    rw [Array.length_toList] at z
    exact z
  clear hA0 hval0 hsz0 hsz
  refine (P.shadowboxlaw14_UtfTells.walk Pure.UtfTells a0 W w0).mono fun e W' ⟨he, bel⟩ => ?_
  subst he
  exact ⟨_, rfl, _, _, _, [], _, [], hW', trodAll_mk1 (shut_bool Try.underlying4 _), (trodAll_cons_mk (shut_string Try.underlying9 y0) trodAll_mk0), rfl, bel.frame _, fun h => by cases h⟩
theorem over : Rows.utfTellsRow.holds Try.pinned (OpenSpec.ofChange Rows.utfTellsSpec) :=
  OpenClaim.holds_of_wide 13 Try.f13 rfl rfl rfl rfl rfl rfl rfl ⟨rfl, rfl, rfl, rfl, rfl⟩ rfl rfl rfl rfl rfl (by kernel_rfl) Try.func13 (by kernel_rfl)
    (of_decide_eq_true (by kernel_rfl)) (by unfold Func.isWrapper; first | (rw [if_pos (by decide +kernel)]; kernel_rfl) | (rw [if_neg (by decide +kernel)]; exact ⟨rfl, rfl⟩))
    (fun os started H enc _ => lifted os started H enc)
theorem proved : Rows.UtfTellsSaid := over
#print axioms proved
end Go.Proofs.Ytcnkndmegnfofaa.utfTells
namespace Go.Proofs.Ytcnkndmegnfofaa
/-- The row, under a short name, for the claim. -/
theorem utfTells_holds : Rows.UtfTellsSaid := utfTells.proved
end Go.Proofs.Ytcnkndmegnfofaa
