/- HexBack: for every []byte (of which the first 2000 are taken) and every int (of which the lowest 48 bits are taken), what is told is read: the bytes, and the number, also with two zeros ahead; no condition. -/
import Derived.Test.YtcnkndmegnfofaaBHexBacka
import Derived.Test.YtcnkndmegnfofaaRows
import Derived.WalkKit
import Derived.ProofKit
import Derived.OpenShut
import Derived.ShutString
import Derived.ChangeOld
import Derived.Below
import Derived.SizedLaws
import Derived.Test.YtcnkndmegnfofaaWSized
set_option linter.unusedVariables false
set_option linter.unusedSimpArgs false

/- What the functions of hex, and the reference's, come to: plain words. -/
namespace Go.Proofs.Ytcnkndmegnfofaa.P
open Go.RowKit Go.Proofs.YtcnkndmegnfofaaW.PrintWords Go.Proofs.YtcnkndmegnfofaaW.PrintLast Go.Proofs.YtcnkndmegnfofaaW.PrintMore
set_option linter.unusedVariables false
set_option linter.unusedSimpArgs false

theorem w64 {n : Int} (h : -9223372036854775808 ≤ n ∧ n ≤ 9223372036854775807) : wrap64 n = n := IntWalk.wrap64_in n h

/-! ### Kind -/
theorem ev_rKind (c : Int) : Ev (fun k => shadowboxref04_Kind.f k c) (kindOf c) := by
  refine Ev.of (fun k => shadowboxref04_Kind.mono c k) (k := 4) ?_
  unfold shadowboxref04_Kind.f kindOf
  by_cases h1 : 48 ≤ c
  · rw [if_pos h1]
    by_cases h2 : c ≤ 57
    · rw [decide_eq_true h2, if_pos ⟨h1, h2⟩]; simp only [shadowboxref04_Kind.j0]; rw [if_pos trivial]
    · rw [decide_eq_false h2, if_neg (by omega)]
      simp only [shadowboxref04_Kind.j0]
      rw [if_neg (by decide)]
      by_cases h3 : 97 ≤ c
      · rw [if_pos h3]
        by_cases h4 : c ≤ 102
        · rw [decide_eq_true h4, if_pos ⟨h3, h4⟩]; simp only [shadowboxref04_Kind.j1]; rw [if_pos trivial]
        · rw [decide_eq_false h4, if_neg (by omega)]
          simp only [shadowboxref04_Kind.j1]
          rw [if_neg (by decide)]
          by_cases h5 : 103 ≤ c
          · rw [if_pos h5]
            by_cases h6 : c ≤ 122
            · rw [decide_eq_true h6, if_pos ⟨h5, h6⟩]; simp only [shadowboxref04_Kind.j2]; rw [if_pos trivial]
            · rw [decide_eq_false h6, if_neg (by omega), if_neg (by omega)]
              simp only [shadowboxref04_Kind.j2]
              rw [if_neg (by decide), if_pos (by omega), if_neg (by omega)]
          · omega
      · rw [if_neg h3, if_neg (by omega)]
        simp only [shadowboxref04_Kind.j1]
        rw [if_neg (by decide), if_neg (by omega), if_neg (by omega)]
        simp only [shadowboxref04_Kind.j2]
        rw [if_neg (by decide)]
        by_cases h7 : 65 ≤ c
        · rw [if_pos h7]
          by_cases h8 : c ≤ 90
          · rw [if_pos h8, if_pos ⟨h7, h8⟩]
          · rw [if_neg h8, if_neg (by omega)]
        · rw [if_neg h7, if_neg (by omega)]
  · rw [if_neg h1, if_neg (by omega), if_neg (by omega), if_neg (by omega), if_neg (by omega)]
    simp only [shadowboxref04_Kind.j0]
    rw [if_neg (by decide), if_neg (by omega)]
    simp only [shadowboxref04_Kind.j1]
    rw [if_neg (by decide), if_neg (by omega)]
    simp only [shadowboxref04_Kind.j2]
    rw [if_neg (by decide), if_neg (by omega)]

/-! ### Lower -/
theorem ev_rLower_loop (s : ByteArray) (hs : s.size ≤ 140737488355000) : ∀ (d : Nat) (i : Nat) (acc : List Int), i + d = s.size → acc.length = i →
    Ev (fun k => shadowboxref04_Lower.l0 k s acc (i : Int)) (strOfNums (acc ++ ((bytesOf s).drop i).map lowB)) := by
  intro d
  induction d with
  | zero =>
    intro i acc hi ha
    refine Ev.step (fun k => by rw [shadowboxref04_Lower.l0, if_neg (by omega)]) ?_
    rw [List.drop_of_length_le (by rw [bytesOf_len]; omega), List.map_nil, List.append_nil]
    exact Ev.now _
  | succ d ih =>
    intro i acc hi ha
    have hl : i < (bytesOf s).length := by rw [bytesOf_len]; omega
    have hb : bt s (i : Int) = (bytesOf s)[i] := by rw [bt_eq, List.getD_eq_getElem?_getD, List.getElem?_eq_getElem hl]; rfl
    have hbd := bt_bd s (i : Int)
    have hd : (bytesOf s).drop i = (bytesOf s)[i] :: (bytesOf s).drop (i + 1) := List.drop_eq_getElem_cons hl
    have hw : wrap64 ((i : Int) + 1) = ((i + 1 : Nat) : Int) := by rw [w64 (by omega)]; rfl
    refine Ev.step (fun k => by rw [shadowboxref04_Lower.l0, if_pos (by omega), if_pos (by omega)]) ?_
    refine Ev.bind (ev_rKind _) ?_
    rw [hd, List.map_cons]
    by_cases h4 : kindOf (bt s (i : Int)) = 4
    · refine Ev.congr (fun k => by rw [if_pos h4, if_pos (by omega), hw]) ?_
      have hlow := lowB_of_kind h4
      have hle := kind4_le h4
      have := ih (i + 1) (acc ++ [(bt s (i : Int) + 32) % 256]) (by omega) (by simp [ha])
      rw [show (bt s (i : Int) + 32) % 256 = lowB (bytesOf s)[i] by rw [← hb, hlow]; omega, List.append_assoc] at this
      rw [show (bt s (i : Int) + 32) % 256 = lowB (bytesOf s)[i] by rw [← hb, hlow]; omega]
      exact this
    · refine Ev.congr (fun k => by rw [if_neg h4, if_pos (by omega), hw]) ?_
      have hlow := lowB_of_not h4
      have := ih (i + 1) (acc ++ [bt s (i : Int)]) (by omega) (by simp [ha])
      rw [show bt s (i : Int) = lowB (bytesOf s)[i] by rw [← hb, hlow], List.append_assoc] at this
      rw [show bt s (i : Int) = lowB (bytesOf s)[i] by rw [← hb, hlow]]
      exact this
theorem ev_rLower (s : ByteArray) (hs : s.size ≤ 140737488355000) : Ev (fun k => shadowboxref04_Lower.f k s) (lowS s) := by
  have := ev_rLower_loop s hs s.size 0 [] (by omega) rfl
  exact this
theorem hex_Lower_eq (s : ByteArray) (hs : s.size ≤ 140737488355000) : hex_Lower.f s = some (lowS s) := by
  unfold hex_Lower.f
  rw [if_pos (by omega)]
theorem lowB_bd {c : Int} (h : 0 ≤ c ∧ c ≤ 255) : 0 ≤ lowB c ∧ lowB c ≤ 255 := by
  unfold lowB
  split <;> omega
theorem Bytes.low {l : List Int} (h : Bytes l) : Bytes (l.map lowB) := by
  intro x hx
  obtain ⟨y, hy, rfl⟩ := List.mem_map.1 hx
  exact lowB_bd (h y hy)
theorem bytes_lowS (s : ByteArray) : bytesOf (lowS s) = (bytesOf s).map lowB := bytesOf_strOf (bytes_of s).low
theorem lowS_size (s : ByteArray) : (lowS s).size = s.size := by rw [← bytesOf_len, bytes_lowS, List.length_map, bytesOf_len]
theorem lowB_low (c : Int) : lowB (lowB c) = lowB c := by
  unfold lowB
  split
  · rw [if_neg (by omega)]
  · rfl
theorem lowS_low (s : ByteArray) : lowS (lowS s) = lowS s := by
  apply bytesOf_inj
  rw [bytes_lowS, bytes_lowS, List.map_map]
  apply List.map_congr_left
  intro x _
  exact lowB_low x
theorem bt_lowS (s : ByteArray) (i : Nat) (h : i < s.size) : bt (lowS s) (i : Int) = lowB (bt s (i : Int)) := by
  have hl : i < (bytesOf s).length := by rw [bytesOf_len]; omega
  rw [bt_eq, bt_eq, bytes_lowS, List.getD_eq_getElem?_getD, List.getD_eq_getElem?_getD, List.getElem?_map, List.getElem?_eq_getElem hl]
  rfl

/-! ### Kinds of bytes -/
theorem kind1_iff {c : Int} : kindOf c = 1 ↔ 48 ≤ c ∧ c ≤ 57 := by
  unfold kindOf
  constructor
  · intro h
    split at h
    · assumption
    · split at h
      · omega
      · split at h
        · omega
        · split at h <;> omega
  · intro h; rw [if_pos h]
theorem kind2_iff {c : Int} : kindOf c = 2 ↔ 97 ≤ c ∧ c ≤ 102 := by
  unfold kindOf
  constructor
  · intro h
    split at h
    · omega
    · split at h
      · assumption
      · split at h
        · omega
        · split at h <;> omega
  · intro h; rw [if_neg (by omega), if_pos h]

/-! ### Hex -/
theorem hexD_at (n : Int) (h0 : 0 ≤ n) (h1 : n < 16) : bt (⟨#[48, 49, 50, 51, 52, 53, 54, 55, 56, 57, 97, 98, 99, 100, 101, 102]⟩ : ByteArray) n = hexD n := by
  have key : ∀ m : Fin 16, bt (⟨#[48, 49, 50, 51, 52, 53, 54, 55, 56, 57, 97, 98, 99, 100, 101, 102]⟩ : ByteArray) (m.val : Int) = hexD (m.val : Int) := by decide +kernel
  obtain ⟨m, rfl⟩ := Int.eq_ofNat_of_zero_le h0
  exact key ⟨m, by omega⟩
theorem and15 (x : Int) (h0 : 0 ≤ x) (h1 : x ≤ 255) : Go.bits .and .u8 x 15 = x % 16 := by
  exact u8_and15 x h0 (by omega)
theorem or16 (a b : Int) (h0 : 0 ≤ a) (h1 : a ≤ 15) (h2 : 0 ≤ b) (h3 : b ≤ 15) : Go.bits .or .u8 ((a * 16) % 256) b = 16 * a + b := by
  rw [show (a * 16) % 256 = 16 * a by omega]
  exact bits_join .u8 8 (by decide) wraps_u8 4 (16 * a) b (by omega) (by omega) (by omega) h2 (by omega) (by omega)
theorem rd_get (l : List Int) (i : Nat) (h : i < l.length) : rd l (i : Int) = l[i] := by
  unfold rd
  rw [Int.toNat_natCast, List.getD_eq_getElem?_getD, List.getElem?_eq_getElem h]
  rfl
theorem ev_Hex_loop (l : List Int) (hb : Bytes l) (hs : l.length ≤ 70368744177000) : ∀ (d i : Nat) (acc : List Int), i + d = l.length → acc.length = 2 * i →
    Ev (fun k => hex_Hex.l0 k acc l (l.length : Int) (i : Int)) (strOfNums (acc ++ hexL (l.drop i))) := by
  intro d
  induction d with
  | zero =>
    intro i acc hi ha
    refine Ev.step (fun k => by rw [hex_Hex.l0, if_neg (by omega)]) ?_
    rw [List.drop_of_length_le (by omega)]
    rw [show hexL [] = [] from rfl, List.append_nil]
    exact Ev.now _
  | succ d ih =>
    intro i acc hi ha
    have hl : i < l.length := by omega
    have hr := rd_get l i hl
    have hx := hb (l[i]) (List.getElem_mem hl)
    have hd : l.drop i = l[i] :: l.drop (i + 1) := List.drop_eq_getElem_cons hl
    have hw : wrap64 ((i : Int) + 1) = ((i + 1 : Nat) : Int) := by rw [w64 (by omega)]; rfl
    have ha15 := and15 l[i] hx.1 hx.2
    have hd1 := hexD_at (l[i] / 16) (by omega) (by omega)
    have hd2 := hexD_at (l[i] % 16) (by omega) (by omega)
    refine Ev.step (fun k => by rw [hex_Hex.l0, hr, ha15, hd1, hd2, if_pos (by omega), if_pos (by omega), if_pos (by omega), if_pos (by omega), if_pos (by omega), if_pos (by omega), if_pos (by omega), Option.bind_some, if_pos (by simp; omega), hw]) ?_
    have := ih (i + 1) (acc ++ [hexD (l[i] / 16), hexD (l[i] % 16)]) (by omega) (by simp [ha]; omega)
    rw [hd, show hexL (l[i] :: l.drop (i + 1)) = [hexD (l[i] / 16), hexD (l[i] % 16)] ++ hexL (l.drop (i + 1)) from rfl, ← List.append_assoc]
    exact this
theorem ev_Hex (l : List Int) (hb : Bytes l) (hs : l.length ≤ 70368744177000) : Ev (fun k => hex_Hex.f k l) (strOfNums (hexL l)) := by
  have hw : wrap64 (2 * (l.length : Int)) = 2 * (l.length : Int) := w64 (by omega)
  refine Ev.congr (fun k => by rw [hex_Hex.f, hw, if_pos (by omega), if_pos (by omega)]) ?_
  exact ev_Hex_loop l hb hs l.length 0 [] (by omega) rfl
theorem ref_Hex_eq (l : List Int) (hb : Bytes l) (hs : l.length ≤ 140737488355328) : shadowboxref04_Hex.f l = some (strOfNums (hexL l)) := by
  unfold shadowboxref04_Hex.f
  rw [if_pos ⟨hs, hb⟩]

/-! ### ReadHex -/
def hexVal (c : Int) : Int := if kindOf c = 1 then c - 48 else c - 87
def hexOk (c : Int) : Prop := kindOf c = 1 ∨ kindOf c = 2
instance (c : Int) : Decidable (hexOk c) := by unfold hexOk; exact inferInstance
def unhex : List Int → Option (List Int)
  | [] => some []
  | [_] => none
  | a :: b :: r => if hexOk a ∧ hexOk b then (unhex r).map (fun x => (16 * hexVal a + hexVal b) :: x) else none
def rhex (l : List Int) : List Int × Bool := match unhex l with
  | some x => (x, true)
  | none => ([], false)
def rhexG (acc l : List Int) : List Int × Bool := match unhex l with
  | some x => (acc ++ x, true)
  | none => ([], false)
theorem hexVal_bd {c : Int} (h : hexOk c) : 0 ≤ hexVal c ∧ hexVal c ≤ 15 := by
  unfold hexVal
  rcases h with h | h
  · rw [if_pos h]; have := kind1_iff.1 h; omega
  · rw [if_neg (by omega)]; have := kind2_iff.1 h; omega
theorem value_ok {c : Int} (h : hexOk c) : hex_value.f c = some (hexVal c, true) := by
  unfold hex_value.f hexVal
  rw [show hex_Kind.f c = some (kindOf c) from rfl, Option.bind_some]
  rcases h with h | h
  · have := kind1_iff.1 h
    rw [if_pos h, if_pos h]; congr 2; omega
  · have := kind2_iff.1 h
    rw [if_neg (by omega), if_pos h, if_neg (by omega)]; congr 2; omega
theorem value_no {c : Int} (h : ¬ hexOk c) : hex_value.f c = some (0, false) := by
  unfold hex_value.f
  rw [show hex_Kind.f c = some (kindOf c) from rfl, Option.bind_some, if_neg (fun e => h (.inl e)), if_neg (fun e => h (.inr e))]
theorem ev_rvalue_ok {c : Int} (h : hexOk c) : Ev (fun k => shadowboxref04_value.f k c) (hexVal c) := by
  unfold shadowboxref04_value.f hexVal
  refine Ev.bind (ev_rKind c) ?_
  rcases h with h | h
  · have := kind1_iff.1 h
    refine Ev.congr (fun k => by rw [if_pos h]) ?_
    rw [if_pos h, show (c - 48) % 256 = c - 48 by omega]
    exact Ev.now _
  · have := kind2_iff.1 h
    refine Ev.congr (fun k => by rw [if_neg (by omega), if_pos h]) ?_
    rw [if_neg (by omega), show (c - 97) % 256 + 10 = c - 87 by omega]
    exact Ev.now _
theorem ev_rvalue_no {c : Int} (h : ¬ hexOk c) : Ev (fun k => shadowboxref04_value.f k c) (-1) := by
  unfold shadowboxref04_value.f
  refine Ev.bind (ev_rKind c) ?_
  refine Ev.congr (fun k => by rw [if_neg (fun e => h (.inl e)), if_neg (fun e => h (.inr e))]) (Ev.now _)
theorem drop_bt (s : ByteArray) (i : Nat) (h : i < s.size) : (bytesOf s).drop i = bt s (i : Int) :: (bytesOf s).drop (i + 1) := by
  have hl : i < (bytesOf s).length := by rw [bytesOf_len]; exact h
  rw [bt_eq, List.getD_eq_getElem?_getD, List.getElem?_eq_getElem hl]
  exact List.drop_eq_getElem_cons hl
theorem drop_two (s : ByteArray) (i : Nat) (h : i + 1 < s.size) : (bytesOf s).drop i = bt s (i : Int) :: bt s ((i + 1 : Nat) : Int) :: (bytesOf s).drop (i + 2) := by
  rw [drop_bt s i (by omega), drop_bt s (i + 1) h]
theorem unhex_two {a b : Int} {r : List Int} (ha : hexOk a) (hb : hexOk b) : unhex (a :: b :: r) = (unhex r).map (fun x => (16 * hexVal a + hexVal b) :: x) := by rw [unhex, if_pos ⟨ha, hb⟩]
theorem unhex_no {a b : Int} {r : List Int} (h : ¬ (hexOk a ∧ hexOk b)) : unhex (a :: b :: r) = none := by rw [unhex, if_neg h]
theorem rhexG_step {acc : List Int} {a b : Int} {r : List Int} (ha : hexOk a) (hb : hexOk b) : rhexG acc (a :: b :: r) = rhexG (acc ++ [16 * hexVal a + hexVal b]) r := by
  unfold rhexG
  rw [unhex_two ha hb]
  cases unhex r with
  | none => rfl
  | some x => simp
theorem rhexG_no {acc : List Int} {a b : Int} {r : List Int} (h : ¬ (hexOk a ∧ hexOk b)) : rhexG acc (a :: b :: r) = ([], false) := by
  unfold rhexG
  rw [unhex_no h]
theorem ev_ReadHex_loop (s : ByteArray) (hs : s.size ≤ 140737488355000) : ∀ (d i : Nat) (acc : List Int), i + 2 * d = s.size → acc.length ≤ i →
    Ev (fun k => hex_ReadHex.l0 k s acc (i : Int)) (rhexG acc ((bytesOf s).drop i)) := by
  intro d
  induction d with
  | zero =>
    intro i acc hi ha
    refine Ev.step (fun k => by rw [hex_ReadHex.l0, if_neg (by omega)]) ?_
    rw [List.drop_of_length_le (by rw [bytesOf_len]; omega)]
    rw [show rhexG acc [] = (acc, true) by simp [rhexG, unhex]]
    exact Ev.now _
  | succ d ih =>
    intro i acc hi ha
    have hw1 : wrap64 ((i : Int) + 1) = ((i + 1 : Nat) : Int) := by rw [w64 (by omega)]; rfl
    have hw2 : wrap64 ((i : Int) + 2) = ((i + 2 : Nat) : Int) := by rw [w64 (by omega)]; rfl
    rw [drop_two s i (by omega)]
    generalize hb0 : bt s (i : Int) = a
    generalize hb1 : bt s ((i + 1 : Nat) : Int) = b
    by_cases h0 : hexOk a
    · have e0 := value_ok h0
      have v0 := hexVal_bd h0
      by_cases h1 : hexOk b
      · have e1 := value_ok h1
        have v1 := hexVal_bd h1
        have ho := or16 _ _ v0.1 v0.2 v1.1 v1.2
        refine Ev.step (fun k => by rw [hex_ReadHex.l0, hw1, hw2, hb0, hb1, if_pos (by omega), if_pos (by omega), e0, Option.bind_some, if_pos (by omega), if_pos (by omega), e1, Option.bind_some, if_pos rfl, if_pos rfl, if_pos (by omega), ho]) ?_
        rw [rhexG_step h0 h1]
        exact ih (i + 2) _ (by omega) (by simp; omega)
      · have e1 := value_no h1
        refine Ev.step (fun k => by rw [hex_ReadHex.l0, hw1, hw2, hb0, hb1, if_pos (by omega), if_pos (by omega), e0, Option.bind_some, if_pos (by omega), if_pos (by omega), e1, Option.bind_some, if_pos rfl, if_neg (by decide)]) ?_
        rw [rhexG_no (fun e => h1 e.2)]
        exact Ev.now _
    · have e0 := value_no h0
      obtain ⟨v, e1⟩ : ∃ v, hex_value.f b = some v := by
        by_cases h1 : hexOk b
        · exact ⟨_, value_ok h1⟩
        · exact ⟨_, value_no h1⟩
      refine Ev.step (fun k => by rw [hex_ReadHex.l0, hw1, hw2, hb0, hb1, if_pos (by omega), if_pos (by omega), e0, Option.bind_some, if_pos (by omega), if_pos (by omega), e1, Option.bind_some, if_neg (by decide)]) ?_
      rw [rhexG_no (fun e => h0 e.1)]
      exact Ev.now _
theorem unhex_odd : ∀ (n : Nat) (l : List Int), l.length = 2 * n + 1 → unhex l = none := by
  intro n
  induction n with
  | zero =>
    intro l h
    match l, h with
    | [_], _ => rfl
  | succ n ih =>
    intro l h
    match l, h with
    | a :: b :: r, h =>
      rw [unhex]
      rw [ih r (by simp at h; omega)]
      split <;> rfl
theorem ev_ReadHex (s : ByteArray) (hs : s.size ≤ 140737488355000) : Ev (fun k => hex_ReadHex.f k s) (rhex (bytesOf s)) := by
  by_cases h2 : (s.size : Int) % 2 = 0
  · refine Ev.congr (fun k => by rw [hex_ReadHex.f, if_pos h2]) ?_
    have := ev_ReadHex_loop s hs (s.size / 2) 0 [] (by omega) (by simp)
    exact this
  · refine Ev.congr (fun k => by rw [hex_ReadHex.f, if_neg h2]) ?_
    have hn := unhex_odd (s.size / 2) (bytesOf s) (by rw [bytesOf_len]; omega)
    rw [show rhex (bytesOf s) = ([], false) by unfold rhex; rw [hn]]
    exact Ev.now _
theorem ev_rReadHex_loop (s : ByteArray) (hs : s.size ≤ 140737488355000) : ∀ (d i : Nat) (acc : List Int), i + 2 * d = s.size → acc.length ≤ i →
    Ev (fun k => shadowboxref04_ReadHex.l0 k s acc (i : Int)) (rhexG acc ((bytesOf s).drop i)) := by
  intro d
  induction d with
  | zero =>
    intro i acc hi ha
    have hw1 : wrap64 ((i : Int) + 1) = ((i + 1 : Nat) : Int) := by rw [w64 (by omega)]; rfl
    refine Ev.step (fun k => by rw [shadowboxref04_ReadHex.l0, hw1, if_neg (by omega)]) ?_
    rw [List.drop_of_length_le (by rw [bytesOf_len]; omega)]
    rw [show rhexG acc [] = (acc, true) by simp [rhexG, unhex]]
    exact Ev.now _
  | succ d ih =>
    intro i acc hi ha
    have hw1 : wrap64 ((i : Int) + 1) = ((i + 1 : Nat) : Int) := by rw [w64 (by omega)]; rfl
    have hw2 : wrap64 ((i : Int) + 2) = ((i + 2 : Nat) : Int) := by rw [w64 (by omega)]; rfl
    rw [drop_two s i (by omega)]
    generalize hb0 : bt s (i : Int) = a
    generalize hb1 : bt s ((i + 1 : Nat) : Int) = b
    refine Ev.step (fun k => by rw [shadowboxref04_ReadHex.l0, hw1, hw2, hb0, hb1, if_pos (by omega), if_pos (by omega), if_pos (by omega)]) ?_
    by_cases h0 : hexOk a
    · refine Ev.bind (ev_rvalue_ok h0) ?_
      refine Ev.congr (fun k => by rw [if_pos (by omega)]) ?_
      have v0 := hexVal_bd h0
      by_cases h1 : hexOk b
      · refine Ev.bind (ev_rvalue_ok h1) ?_
        have v1 := hexVal_bd h1
        have hz : (wrap64 ((wrap64 (16 * hexVal a)) + hexVal b)) % 256 = 16 * hexVal a + hexVal b := by
          rw [w64 (n := 16 * hexVal a) (by omega), w64 (by omega)]; omega
        refine Ev.congr (fun k => by rw [if_neg (by omega), if_neg (by omega), if_pos (by omega), hz]) ?_
        rw [rhexG_step h0 h1]
        exact ih (i + 2) _ (by omega) (by simp; omega)
      · refine Ev.bind (ev_rvalue_no h1) ?_
        refine Ev.congr (fun k => by rw [if_neg (by omega), if_pos (by omega)]) ?_
        rw [rhexG_no (fun e => h1 e.2)]
        exact Ev.now _
    · refine Ev.bind (ev_rvalue_no h0) ?_
      refine Ev.congr (fun k => by rw [if_pos (by omega)]) ?_
      rw [rhexG_no (fun e => h0 e.1)]
      by_cases h1 : hexOk b
      · refine Ev.bind (ev_rvalue_ok h1) ?_
        exact Ev.congr (fun k => by rw [if_pos (by omega)]) (Ev.now _)
      · refine Ev.bind (ev_rvalue_no h1) ?_
        exact Ev.congr (fun k => by rw [if_pos (by omega)]) (Ev.now _)
theorem ev_rReadHex (s : ByteArray) (hs : s.size ≤ 140737488355000) : Ev (fun k => shadowboxref04_ReadHex.f k s) (rhex (bytesOf s)) := by
  by_cases h2 : (s.size : Int) % 2 = 0
  · refine Ev.congr (fun k => by rw [shadowboxref04_ReadHex.f, if_pos h2]) ?_
    have := ev_rReadHex_loop s hs (s.size / 2) 0 [] (by omega) (by simp)
    exact this
  · refine Ev.congr (fun k => by rw [shadowboxref04_ReadHex.f, if_neg h2]) ?_
    have hn := unhex_odd (s.size / 2) (bytesOf s) (by rw [bytesOf_len]; omega)
    rw [show rhex (bytesOf s) = ([], false) by unfold rhex; rw [hn]]
    exact Ev.now _
theorem unhex_bytes : ∀ (l x : List Int), unhex l = some x → Bytes x
  | [], x, h => by rw [unhex] at h; cases h; exact Bytes.nil
  | [_], x, h => by rw [unhex] at h; cases h
  | a :: b :: r, x, h => by
    rw [unhex] at h
    split at h
    · rename_i hh
      obtain ⟨y, hy, rfl⟩ := Option.map_eq_some_iff.1 h
      have v0 := hexVal_bd hh.1
      have v1 := hexVal_bd hh.2
      exact Bytes.cons (by omega) (unhex_bytes r y hy)
    · cases h
theorem rhex_bytes (l : List Int) : Bytes (rhex l).1 := by
  unfold rhex
  cases h : unhex l with
  | none => exact Bytes.nil
  | some x => exact unhex_bytes l x h
theorem hexD_ok (n : Int) (h0 : 0 ≤ n) (h1 : n < 16) : hexOk (hexD n) ∧ hexVal (hexD n) = n ∧ 0 ≤ hexD n ∧ hexD n ≤ 255 := by
  unfold hexD hexVal hexOk
  by_cases h : n < 10
  · rw [if_pos h]
    have k1 : kindOf (48 + n) = 1 := kind1_iff.2 (by omega)
    exact ⟨.inl k1, by rw [if_pos k1]; omega, by omega, by omega⟩
  · rw [if_neg h]
    have k2 : kindOf (87 + n) = 2 := kind2_iff.2 (by omega)
    exact ⟨.inr k2, by rw [if_neg (by omega)]; omega, by omega, by omega⟩
theorem unhex_hexL : ∀ l : List Int, Bytes l → unhex (hexL l) = some l
  | [], _ => rfl
  | a :: l, h => by
    have ha := h.head
    have h1 := hexD_ok (a / 16) (by omega) (by omega)
    have h2 := hexD_ok (a % 16) (by omega) (by omega)
    rw [show hexL (a :: l) = hexD (a / 16) :: hexD (a % 16) :: hexL l from rfl, unhex_two h1.1 h2.1, unhex_hexL l h.tail, h1.2.1, h2.2.1, Option.map_some, show 16 * (a / 16) + a % 16 = a by omega]
theorem hexL_bytes : ∀ l : List Int, Bytes l → Bytes (hexL l)
  | [], _ => Bytes.nil
  | a :: l, h => by
    have ha := h.head
    have h1 := hexD_ok (a / 16) (by omega) (by omega)
    have h2 := hexD_ok (a % 16) (by omega) (by omega)
    exact Bytes.cons h1.2.2 (Bytes.cons h2.2.2 (hexL_bytes l h.tail))
end Go.Proofs.Ytcnkndmegnfofaa.P

/- Numbers as digits: what Decimal and ReadDecimal, and the reference's, come to. -/
namespace Go.Proofs.Ytcnkndmegnfofaa.P
open Go.RowKit Go.Proofs.YtcnkndmegnfofaaW.PrintWords Go.Proofs.YtcnkndmegnfofaaW.PrintLast Go.Proofs.YtcnkndmegnfofaaW.PrintMore
set_option linter.unusedVariables false
set_option linter.unusedSimpArgs false

/-! ### ReadDecimal -/
def decF : Int → List Int → Option Int
  | acc, [] => some acc
  | acc, c :: r => if kindOf c = 1 then decF (acc * 10 + (c - 48)) r else none
def rdecG (acc : Int) (l : List Int) : Int × Bool := match decF acc l with
  | some n => (n, true)
  | none => (0, false)
def rdec (l : List Int) : Int × Bool := if l.length = 0 ∨ l.length > 18 then (0, false) else rdecG 0 l
theorem rdecG_ok {acc c : Int} {r : List Int} (h : kindOf c = 1) : rdecG acc (c :: r) = rdecG (acc * 10 + (c - 48)) r := by
  unfold rdecG
  rw [decF, if_pos h]
theorem rdecG_no {acc c : Int} {r : List Int} (h : ¬ kindOf c = 1) : rdecG acc (c :: r) = (0, false) := by
  unfold rdecG
  rw [decF, if_neg h]
theorem ev_ReadDecimal_loop (s : ByteArray) (hs : s.size ≤ 1000) : ∀ (d i : Nat) (acc : Int), i + d = s.size → 0 ≤ acc → acc * 10 ^ d + 10 ^ d ≤ 1000000000000000000 →
    Ev (fun k => hex_ReadDecimal.l0 k s acc (s.size : Int) (i : Int)) (rdecG acc ((bytesOf s).drop i)) := by
  intro d
  induction d with
  | zero =>
    intro i acc hi h0 hb
    refine Ev.step (fun k => by rw [hex_ReadDecimal.l0, if_neg (by omega)]) ?_
    rw [List.drop_of_length_le (by rw [bytesOf_len]; omega)]
    exact Ev.now _
  | succ d ih =>
    intro i acc hi h0 hb
    have hp : (0 : Int) < 10 ^ d := Int.pow_pos (by omega)
    have hpe : (10 : Int) ^ (d + 1) = 10 ^ d * 10 := Int.pow_succ ..
    rw [hpe] at hb
    generalize hP : (10 : Int) ^ d = P at hb hp
    have hb2 : acc * 10 * P + 10 * P ≤ 1000000000000000000 := by
      have e1 : acc * (P * 10) = acc * 10 * P := by rw [Int.mul_comm P 10, Int.mul_assoc]
      omega
    have hacc : acc * 10 + 10 ≤ 1000000000000000000 := by
      have h1 : (acc * 10 + 10) * 1 ≤ (acc * 10 + 10) * P := Int.mul_le_mul_of_nonneg_left (by omega) (by omega)
      have h2 : (acc * 10 + 10) * P = acc * 10 * P + 10 * P := Int.add_mul ..
      omega
    rw [drop_bt s i (by omega)]
    have hw : wrap64 ((i : Int) + 1) = ((i + 1 : Nat) : Int) := by rw [w64 (by omega)]; rfl
    by_cases h1 : kindOf (bt s (i : Int)) = 1
    · have hk := kind1_iff.1 h1
      have e1 : (bt s (i : Int) - 48) % 256 = bt s (i : Int) - 48 := by omega
      have e2 : wrap64 (acc * 10) = acc * 10 := w64 (by omega)
      have e3 : wrap64 (acc * 10 + (bt s (i : Int) - 48)) = acc * 10 + (bt s (i : Int) - 48) := w64 (by omega)
      refine Ev.step (fun k => by rw [hex_ReadDecimal.l0, if_pos (by omega), if_pos (by omega), if_pos (by omega), show hex_Kind.f (bt s (i : Int)) = some (kindOf (bt s (i : Int))) from rfl, Option.bind_some, if_pos h1, e1, e2, e3, hw]) ?_
      rw [rdecG_ok h1]
      refine ih (i + 1) _ (by omega) (by omega) ?_
      rw [hP]
      have e4 : (acc * 10 + (bt s (i : Int) - 48)) * P ≤ (acc * 10 + 9) * P := Int.mul_le_mul_of_nonneg_right (by omega) (by omega)
      have e5 : (acc * 10 + 9) * P = acc * 10 * P + 9 * P := Int.add_mul ..
      omega
    · refine Ev.step (fun k => by rw [hex_ReadDecimal.l0, if_pos (by omega), if_pos (by omega), if_pos (by omega), show hex_Kind.f (bt s (i : Int)) = some (kindOf (bt s (i : Int))) from rfl, Option.bind_some, if_neg h1]) ?_
      rw [rdecG_no h1]
      exact Ev.now _
theorem ev_ReadDecimal (s : ByteArray) : Ev (fun k => hex_ReadDecimal.f k s) (rdec (bytesOf s)) := by
  unfold rdec
  rw [bytesOf_len]
  by_cases h0 : s.size = 0
  · rw [if_pos (.inl h0)]
    refine Ev.congr (fun k => by rw [hex_ReadDecimal.f, if_pos (size_nil.2 h0)]) ?_
    exact Ev.step (fun k => by rw [hex_ReadDecimal.j0, if_pos rfl]) (Ev.now _)
  · refine Ev.congr (fun k => by rw [hex_ReadDecimal.f, if_neg (fun e => h0 (size_nil.1 e))]) ?_
    by_cases h1 : s.size > 18
    · rw [if_pos (.inr h1)]
      exact Ev.step (fun k => by rw [hex_ReadDecimal.j0, if_pos (by rw [decide_eq_true_eq]; omega)]) (Ev.now _)
    · rw [if_neg (by omega)]
      refine Ev.step (fun k => by rw [hex_ReadDecimal.j0, if_neg (by rw [decide_eq_true_eq]; omega)]) ?_
      refine ev_ReadDecimal_loop s (by omega) s.size 0 0 (by omega) (by omega) ?_
      have : (10 : Int) ^ s.size ≤ 10 ^ 18 := by
        have h := Nat.pow_le_pow_right (n := 10) (by omega) (show s.size ≤ 18 by omega)
        exact_mod_cast h
      omega
theorem ev_rReadDecimal_loop (s : ByteArray) (hs : s.size ≤ 1000) : ∀ (d i : Nat) (acc : Int), i + d = s.size → 0 ≤ acc → acc * 10 ^ d + 10 ^ d ≤ 1000000000000000000 →
    Ev (fun k => shadowboxref04_ReadDecimal.l0 k s acc (i : Int)) (rdecG acc ((bytesOf s).drop i)) := by
  intro d
  induction d with
  | zero =>
    intro i acc hi h0 hb
    refine Ev.step (fun k => by rw [shadowboxref04_ReadDecimal.l0, if_neg (by omega)]) ?_
    rw [List.drop_of_length_le (by rw [bytesOf_len]; omega)]
    exact Ev.now _
  | succ d ih =>
    intro i acc hi h0 hb
    have hp : (0 : Int) < 10 ^ d := Int.pow_pos (by omega)
    have hpe : (10 : Int) ^ (d + 1) = 10 ^ d * 10 := Int.pow_succ ..
    rw [hpe] at hb
    generalize hP : (10 : Int) ^ d = P at hb hp
    have hb2 : acc * 10 * P + 10 * P ≤ 1000000000000000000 := by
      have e1 : acc * (P * 10) = acc * 10 * P := by rw [Int.mul_comm P 10, Int.mul_assoc]
      omega
    have hacc : acc * 10 + 10 ≤ 1000000000000000000 := by
      have h1 : (acc * 10 + 10) * 1 ≤ (acc * 10 + 10) * P := Int.mul_le_mul_of_nonneg_left (by omega) (by omega)
      have h2 : (acc * 10 + 10) * P = acc * 10 * P + 10 * P := Int.add_mul ..
      omega
    rw [drop_bt s i (by omega)]
    have hw : wrap64 ((i : Int) + 1) = ((i + 1 : Nat) : Int) := by rw [w64 (by omega)]; rfl
    refine Ev.step (fun k => by rw [shadowboxref04_ReadDecimal.l0, if_pos (by omega), if_pos (by omega)]) ?_
    refine Ev.bind (ev_rKind _) ?_
    by_cases h1 : kindOf (bt s (i : Int)) = 1
    · have hk := kind1_iff.1 h1
      have hv : hexVal (bt s (i : Int)) = bt s (i : Int) - 48 := by unfold hexVal; rw [if_pos h1]
      have e2 : wrap64 (acc * 10) = acc * 10 := w64 (by omega)
      have e3 : wrap64 (acc * 10 + (bt s (i : Int) - 48)) = acc * 10 + (bt s (i : Int) - 48) := w64 (by omega)
      refine Ev.congr (fun k => by rw [if_pos h1]) ?_
      refine Ev.bind (ev_rvalue_ok (.inl h1)) ?_
      refine Ev.congr (fun k => by rw [hv, e2, e3, hw]) ?_
      rw [rdecG_ok h1]
      refine ih (i + 1) _ (by omega) (by omega) ?_
      rw [hP]
      have e4 : (acc * 10 + (bt s (i : Int) - 48)) * P ≤ (acc * 10 + 9) * P := Int.mul_le_mul_of_nonneg_right (by omega) (by omega)
      have e5 : (acc * 10 + 9) * P = acc * 10 * P + 9 * P := Int.add_mul ..
      omega
    · refine Ev.congr (fun k => by rw [if_neg h1]) ?_
      rw [rdecG_no h1]
      exact Ev.now _
theorem ev_rReadDecimal (s : ByteArray) : Ev (fun k => shadowboxref04_ReadDecimal.f k s) (rdec (bytesOf s)) := by
  unfold rdec
  rw [bytesOf_len]
  by_cases h0 : s.size = 0
  · rw [if_pos (.inl h0)]
    refine Ev.congr (fun k => by rw [shadowboxref04_ReadDecimal.f, if_pos (by omega)]) ?_
    exact Ev.step (fun k => by rw [shadowboxref04_ReadDecimal.j0, if_pos rfl]) (Ev.now _)
  · refine Ev.congr (fun k => by rw [shadowboxref04_ReadDecimal.f, if_neg (by omega)]) ?_
    by_cases h1 : s.size > 18
    · rw [if_pos (.inr h1)]
      exact Ev.step (fun k => by rw [shadowboxref04_ReadDecimal.j0, if_pos (by rw [decide_eq_true_eq]; omega)]) (Ev.now _)
    · rw [if_neg (by omega)]
      refine Ev.step (fun k => by rw [shadowboxref04_ReadDecimal.j0, if_neg (by rw [decide_eq_true_eq]; omega)]) ?_
      refine ev_rReadDecimal_loop s (by omega) s.size 0 0 (by omega) (by omega) ?_
      have : (10 : Int) ^ s.size ≤ 10 ^ 18 := by
        have h := Nat.pow_le_pow_right (n := 10) (by omega) (show s.size ≤ 18 by omega)
        exact_mod_cast h
      omega

/-! ### Decimal -/
def natD (n : Nat) : List Int := if h : n < 10 then [48 + (n : Int)] else natD (n / 10) ++ [48 + ((n % 10 : Nat) : Int)]
  termination_by n
  decreasing_by omega
def decL (n : Int) : List Int := if n < 0 then 45 :: natD n.natAbs else natD n.natAbs
theorem natD_lt {n : Nat} (h : n < 10) : natD n = [48 + (n : Int)] := by rw [natD, dif_pos h]
theorem natD_ge {n : Nat} (h : ¬ n < 10) : natD n = natD (n / 10) ++ [48 + ((n % 10 : Nat) : Int)] := by rw [natD, dif_neg h]
theorem natD_bytes : ∀ (d n : Nat), n ≤ d → Bytes (natD n)
  | d, n, hd => by
    by_cases h : n < 10
    · rw [natD_lt h]; exact Bytes.cons (by omega) Bytes.nil
    · rw [natD_ge h]
      cases d with
      | zero => omega
      | succ d => exact Bytes.append (natD_bytes d (n / 10) (by omega)) (Bytes.cons (by omega) Bytes.nil)
theorem decL_bytes (n : Int) : Bytes (decL n) := by
  unfold decL
  split
  · exact Bytes.cons (by omega) (natD_bytes _ _ (Nat.le_refl _))
  · exact natD_bytes _ _ (Nat.le_refl _)
theorem natD_len : ∀ (d n : Nat), n < 10 ^ (d + 1) → (natD n).length ≤ d + 1
  | d, n, hd => by
    by_cases h : n < 10
    · rw [natD_lt h]; simp
    · rw [natD_ge h]
      cases d with
      | zero => simp at hd; omega
      | succ d =>
        have h1 : n / 10 < 10 ^ (d + 1) := by
          rw [Nat.pow_succ] at hd
          omega
        have := natD_len d (n / 10) h1
        simp
        omega
theorem hexD_dec {n : Int} (h0 : 0 ≤ n) (h1 : n < 10) : hexD n = 48 + n := by unfold hexD; rw [if_pos h1]
theorem set_at (a r : List Int) (x v : Int) : (a ++ x :: r).set a.length v = a ++ v :: r := by
  rw [List.set_append]
  simp
theorem ev_Decimal_swap (n : Nat) : ∀ (a m b : List Int), m.length ≤ n → a.length + m.length + b.length ≤ 1000 →
    Ev (fun k => hex_Decimal.l1 k (a ++ m ++ b) (a.length : Int) ((a.length : Int) + (m.length : Int) - 1)) (strOfNums (a ++ m.reverse ++ b)) := by
  induction n using Nat.strongRecOn with
  | _ n ih =>
    intro a m b hm hl
    by_cases h1 : m.length ≤ 1
    · refine Ev.step (fun k => by rw [hex_Decimal.l1, if_neg (by omega)]) ?_
      have : m.reverse = m := by
        match m, h1 with
        | [], _ => rfl
        | [_], _ => rfl
      rw [this]
      exact Ev.now _
    · obtain ⟨x, m1, rfl⟩ : ∃ x m1, m = x :: m1 := by
        cases m with
        | nil => simp at h1
        | cons x m1 => exact ⟨x, m1, rfl⟩
      have hne : m1 ≠ [] := by rintro rfl; simp at h1
      obtain ⟨m2, y, rfl⟩ : ∃ m2 y, m1 = m2 ++ [y] := ⟨m1.dropLast, m1.getLast hne, (List.dropLast_concat_getLast hne).symm⟩
      have hL : (x :: (m2 ++ [y])).length = m2.length + 2 := by simp
      have e0 : a ++ (x :: (m2 ++ [y])) ++ b = a ++ x :: (m2 ++ y :: b) := by simp
      have e1 : a ++ x :: (m2 ++ y :: b) = (a ++ x :: m2) ++ y :: b := by simp
      have hra : rd (a ++ x :: (m2 ++ y :: b)) (a.length : Int) = x := by
        unfold rd; rw [Int.toNat_natCast]; simp
      have hj : (a.length : Int) + ((x :: (m2 ++ [y])).length : Int) - 1 = ((a ++ x :: m2).length : Int) := by rw [hL]; simp; omega
      have hry : rd (a ++ x :: (m2 ++ y :: b)) ((a ++ x :: m2).length : Int) = y := by
        unfold rd; rw [Int.toNat_natCast, e1]; simp
      have hs1 : (a ++ x :: (m2 ++ y :: b)).set (a.length : Int).toNat y = a ++ y :: (m2 ++ y :: b) := by rw [Int.toNat_natCast, set_at]
      have hs2 : (a ++ y :: (m2 ++ y :: b)).set ((a ++ x :: m2).length : Int).toNat x = (a ++ [y]) ++ m2 ++ ([x] ++ b) := by
        rw [Int.toNat_natCast, show (a ++ x :: m2).length = (a ++ y :: m2).length by simp, show a ++ y :: (m2 ++ y :: b) = (a ++ y :: m2) ++ y :: b by simp, set_at]
        simp
      have hlen : ((a ++ x :: (m2 ++ y :: b)).length : Int) = (a.length : Int) + (m2.length : Int) + (b.length : Int) + 2 := by simp; omega
      have hlx : ((a ++ x :: m2).length : Int) = (a.length : Int) + (m2.length : Int) + 1 := by simp; omega
      have hw1 : wrap64 ((a.length : Int) + 1) = ((a ++ [y]).length : Int) := by rw [w64 (by omega)]; simp
      have hw2 : wrap64 (((a ++ x :: m2).length : Int) - 1) = ((a ++ [y]).length : Int) + (m2.length : Int) - 1 := by rw [w64 (by omega)]; simp; omega
      rw [e0, hj]
      refine Ev.step (fun k => by rw [hex_Decimal.l1, if_pos (by omega), if_pos (by omega), if_pos (by omega), if_pos (by omega), if_pos (by omega), hra, hry, hs1, hs2, hw1, hw2]) ?_
      have := ih (n - 1) (by omega) (a ++ [y]) m2 ([x] ++ b) (by rw [hL] at hm; omega) (by simp at hl ⊢; omega)
      rw [show a ++ (x :: (m2 ++ [y])).reverse ++ b = a ++ [y] ++ m2.reverse ++ ([x] ++ b) by simp]
      exact this
theorem ev_Decimal_rev (l : List Int) (hl : l.length ≤ 1000) : Ev (fun k => hex_Decimal.j2 k l) (strOfNums l.reverse) := by
  have hw : wrap64 ((l.length : Int) - 1) = (l.length : Int) - 1 := w64 (by omega)
  refine Ev.step (fun k => by rw [hex_Decimal.j2, hw]) ?_
  have := ev_Decimal_swap l.length [] l [] (Nat.le_refl _) (by simp; omega)
  simpa using this
theorem ev_Decimal_loop (x0 : Int) (d : Nat) : ∀ (m : Nat) (acc : List Int), m < 10 ^ (d + 1) → m ≤ 9223372036854775808 → acc.length + d ≤ 100 →
    Ev (fun k => hex_Decimal.l0 k x0 (m : Int) acc) (strOfNums (if x0 < 0 then 45 :: (natD m ++ acc.reverse) else natD m ++ acc.reverse)) := by
  induction d with
  | zero =>
    intro m acc hm hb ha
    have e1 : Int.tmod (m : Int) 10 = (m : Int) := by rw [Int.tmod_eq_emod_of_nonneg (by omega)]; simp at hm; omega
    have e2 : IntKind.u64.wrap (Int.tdiv (m : Int) 10) = 0 := by rw [Int.tdiv_eq_ediv_of_nonneg (by omega), IntWalk.u64_in _ (by omega)]; simp at hm; omega
    have e3 := hexD_at (m : Int) (by omega) (by simp at hm; omega)
    have e4 : hexD (m : Int) = 48 + (m : Int) := hexD_dec (by omega) (by simp at hm; omega)
    have hn := natD_lt (n := m) (by simpa using hm)
    refine Ev.step (fun k => by rw [hex_Decimal.l0, e1, e2, e3, e4, if_pos (by omega), if_pos (by simp at hm; omega), if_pos (by omega), Option.bind_some, if_pos rfl]) ?_
    by_cases hx : x0 < 0
    · refine Ev.congr (fun k => by rw [if_pos hx, if_pos (by simp; omega)]) ?_
      rw [if_pos hx, hn]
      have := ev_Decimal_rev (acc ++ [48 + (m : Int)] ++ [45]) (by simp; omega)
      simpa using this
    · refine Ev.congr (fun k => by rw [if_neg hx]) ?_
      rw [if_neg hx, hn]
      have := ev_Decimal_rev (acc ++ [48 + (m : Int)]) (by simp; omega)
      simpa using this
  | succ d ih =>
    intro m acc hm hb ha
    have e1 : Int.tmod (m : Int) 10 = ((m % 10 : Nat) : Int) := by rw [Int.tmod_eq_emod_of_nonneg (by omega)]; omega
    have e2 : IntKind.u64.wrap (Int.tdiv (m : Int) 10) = ((m / 10 : Nat) : Int) := by rw [Int.tdiv_eq_ediv_of_nonneg (by omega), IntWalk.u64_in _ (by omega)]; omega
    have e3 := hexD_at ((m % 10 : Nat) : Int) (by omega) (by omega)
    have e4 : hexD ((m % 10 : Nat) : Int) = 48 + ((m % 10 : Nat) : Int) := hexD_dec (by omega) (by omega)
    refine Ev.step (fun k => by rw [hex_Decimal.l0, e1, e2, e3, e4, if_pos (by omega), if_pos (by omega), if_pos (by omega), Option.bind_some]) ?_
    by_cases h10 : m < 10
    · have hn := natD_lt h10
      have hm10 : m % 10 = m := by omega
      refine Ev.congr (fun k => by rw [if_pos (by omega)]) ?_
      rw [hm10]
      by_cases hx : x0 < 0
      · refine Ev.congr (fun k => by rw [if_pos hx, if_pos (by simp; omega)]) ?_
        rw [if_pos hx, hn]
        have := ev_Decimal_rev (acc ++ [48 + (m : Int)] ++ [45]) (by simp; omega)
        simpa using this
      · refine Ev.congr (fun k => by rw [if_neg hx]) ?_
        rw [if_neg hx, hn]
        have := ev_Decimal_rev (acc ++ [48 + (m : Int)]) (by simp; omega)
        simpa using this
    · refine Ev.congr (fun k => by rw [if_neg (by omega)]) ?_
      have := ih (m / 10) (acc ++ [48 + ((m % 10 : Nat) : Int)]) (by rw [Nat.pow_succ] at hm; omega) (by omega) (by simp; omega)
      rw [natD_ge h10, List.append_assoc]
      simpa using this
theorem ev_Decimal (n : Int) (h0 : -9223372036854775808 ≤ n) (h1 : n ≤ 9223372036854775807) : Ev (fun k => hex_Decimal.f k n) (strOfNums (decL n)) := by
  unfold decL
  by_cases hn : n < 0
  · have e : IntKind.u64.wrap (-(IntKind.u64.wrap n)) = (n.natAbs : Int) := by
      rw [IntKind.wrap_u64, IntKind.wrap_u64]; omega
    refine Ev.congr (fun k => by rw [hex_Decimal.f, if_pos hn, e]) ?_
    refine Ev.step (fun k => by rw [hex_Decimal.j0]) ?_
    have := ev_Decimal_loop n 19 n.natAbs [] (by omega) (by omega) (by simp)
    rw [if_pos hn] at this ⊢
    simpa using this
  · have e : IntKind.u64.wrap n = (n.natAbs : Int) := by
      rw [IntKind.wrap_u64]; omega
    refine Ev.congr (fun k => by rw [hex_Decimal.f, if_neg hn, e]) ?_
    refine Ev.step (fun k => by rw [hex_Decimal.j0]) ?_
    have := ev_Decimal_loop n 19 n.natAbs [] (by omega) (by omega) (by simp)
    rw [if_neg hn] at this ⊢
    simpa using this
theorem strOf_size (l : List Int) : (strOfNums l).size = l.length := strOfNums_size l
theorem ev_rDecimal_pos (d : Nat) : ∀ (n : Nat), n < 10 ^ (d + 1) → n ≤ 9223372036854775807 → Ev (fun k => shadowboxref04_Decimal.f k (n : Int)) (strOfNums (natD n)) := by
  induction d with
  | zero =>
    intro n hn hb
    have hd := shadowboxref04_Hex.dig (n : Int) (by omega) (by simp at hn; omega)
    have e4 : hexD (n : Int) = 48 + (n : Int) := hexD_dec (by omega) (by simp at hn; omega)
    rw [natD_lt (by simpa using hn)]
    refine Ev.step (fun k => by rw [shadowboxref04_Decimal.f, if_pos (by omega), decide_eq_true (by simp at hn; omega)]) ?_
    exact Ev.step (fun k => by rw [shadowboxref04_Decimal.j0, if_pos rfl, hd, Option.bind_some, e4]) (Ev.now _)
  | succ d ih =>
    intro n hn hb
    by_cases h10 : n < 10
    · have hd := shadowboxref04_Hex.dig (n : Int) (by omega) (by omega)
      have e4 : hexD (n : Int) = 48 + (n : Int) := hexD_dec (by omega) (by omega)
      rw [natD_lt h10]
      refine Ev.step (fun k => by rw [shadowboxref04_Decimal.f, if_pos (by omega), decide_eq_true (by omega)]) ?_
      exact Ev.step (fun k => by rw [shadowboxref04_Decimal.j0, if_pos rfl, hd, Option.bind_some, e4]) (Ev.now _)
    · have hd := shadowboxref04_Hex.dig ((n % 10 : Nat) : Int) (by omega) (by omega)
      have e4 : hexD ((n % 10 : Nat) : Int) = 48 + ((n % 10 : Nat) : Int) := hexD_dec (by omega) (by omega)
      have e1 : wrap64 (Int.tdiv (n : Int) 10) = ((n / 10 : Nat) : Int) := by rw [Int.tdiv_eq_ediv_of_nonneg (by omega), w64 (by omega)]; omega
      have e2 : Int.tmod (n : Int) 10 = ((n % 10 : Nat) : Int) := by rw [Int.tmod_eq_emod_of_nonneg (by omega)]; omega
      have h1 : n / 10 < 10 ^ (d + 1) := by rw [Nat.pow_succ] at hn; omega
      have hlen := natD_len 18 (n / 10) (by omega)
      rw [natD_ge h10]
      refine Ev.step (fun k => by rw [shadowboxref04_Decimal.f, if_pos (by omega), decide_eq_false (by omega)]) ?_
      refine Ev.step (fun k => by rw [shadowboxref04_Decimal.j0, if_neg (by decide), if_neg (by omega), e1, e2]) ?_
      refine Ev.bind (ih (n / 10) h1 (by omega)) ?_
      refine Ev.congr (fun k => by rw [hd, Option.bind_some, if_pos (by rw [strOf_size, strOf_size]; simp; omega), e4, ← strOf_append]) (Ev.now _)
def natD0 (n : Nat) : List Int := if n = 0 then [] else natD n
theorem natD_of0 (n : Nat) (h : n ≠ 0) : natD0 n = natD0 (n / 10) ++ [48 + ((n % 10 : Nat) : Int)] := by
  unfold natD0
  rw [if_neg h]
  by_cases h10 : n < 10
  · rw [natD_lt h10, if_pos (by omega)]
    simp; omega
  · rw [natD_ge h10, if_neg (by omega)]
theorem ev_rDecimal_neg (d : Nat) : ∀ (n : Nat) (acc : List Int), n < 10 ^ d → n ≤ 9223372036854775808 → acc.length + d ≤ 100 →
    Ev (fun k => shadowboxref04_Decimal.l0 k (-(n : Int)) (strOfNums acc)) (strOfNums (45 :: (natD0 n ++ acc))) := by
  induction d with
  | zero =>
    intro n acc hn hb ha
    have : n = 0 := by simp at hn; exact hn
    subst this
    refine Ev.step (fun k => by rw [shadowboxref04_Decimal.l0, if_neg (by omega), if_pos (by rw [strOf_size]; omega), show (⟨#[45]⟩ : ByteArray) = strOfNums [45] from rfl, ← strOf_append]) ?_
    exact Ev.now _
  | succ d ih =>
    intro n acc hn hb ha
    by_cases h0 : n = 0
    · subst h0
      refine Ev.step (fun k => by rw [shadowboxref04_Decimal.l0, if_neg (by omega), if_pos (by rw [strOf_size]; omega), show (⟨#[45]⟩ : ByteArray) = strOfNums [45] from rfl, ← strOf_append]) ?_
      exact Ev.now _
    · have hd := shadowboxref04_Hex.dig ((n % 10 : Nat) : Int) (by omega) (by omega)
      have e4 : hexD ((n % 10 : Nat) : Int) = 48 + ((n % 10 : Nat) : Int) := hexD_dec (by omega) (by omega)
      have e1 : wrap64 (-(Int.tmod (-(n : Int)) 10)) = ((n % 10 : Nat) : Int) := by
        rw [Int.neg_tmod, Int.tmod_eq_emod_of_nonneg (by omega), w64 (by omega)]; omega
      have e2 : wrap64 (Int.tdiv (-(n : Int)) 10) = -((n / 10 : Nat) : Int) := by
        rw [Int.neg_tdiv, Int.tdiv_eq_ediv_of_nonneg (by omega), w64 (by omega)]; omega
      refine Ev.step (fun k => by rw [shadowboxref04_Decimal.l0, if_pos (by omega), e1, e2, hd, Option.bind_some, if_pos (by rw [strOf_size, strOf_size]; simp; omega), e4, ← strOf_append]) ?_
      have := ih (n / 10) ([48 + ((n % 10 : Nat) : Int)] ++ acc) (by rw [Nat.pow_succ] at hn; omega) (by omega) (by simp; omega)
      rw [natD_of0 n h0, List.append_assoc]
      exact this
theorem ev_rDecimal (n : Int) (h0 : -9223372036854775808 ≤ n) (h1 : n ≤ 9223372036854775807) : Ev (fun k => shadowboxref04_Decimal.f k n) (strOfNums (decL n)) := by
  unfold decL
  by_cases hn : n < 0
  · rw [if_pos hn]
    refine Ev.step (fun k => by rw [shadowboxref04_Decimal.f, if_neg (by omega)]) ?_
    refine Ev.step (fun k => by rw [shadowboxref04_Decimal.j0, if_neg (by decide), if_pos hn]) ?_
    have := ev_rDecimal_neg 20 n.natAbs [] (by omega) (by omega) (by simp)
    rw [show -((n.natAbs : Nat) : Int) = n by omega, show natD0 n.natAbs = natD n.natAbs by unfold natD0; rw [if_neg (by omega)], List.append_nil] at this
    exact this
  · rw [if_neg hn]
    have := ev_rDecimal_pos 19 n.natAbs (by omega) (by omega)
    rw [show ((n.natAbs : Nat) : Int) = n by omega] at this
    exact this
end Go.Proofs.Ytcnkndmegnfofaa.P

/- Digits that are told are read. -/
namespace Go.Proofs.Ytcnkndmegnfofaa.P
open Go.RowKit Go.Proofs.YtcnkndmegnfofaaW.PrintWords Go.Proofs.YtcnkndmegnfofaaW.PrintLast Go.Proofs.YtcnkndmegnfofaaW.PrintMore
set_option linter.unusedVariables false
set_option linter.unusedSimpArgs false

theorem and48 (n : Int) : Go.bits .and .i64 n 281474976710655 = n % 281474976710656 := by
  have h : (BitVec.ofInt 64 281474976710655).toNat = 2 ^ 48 - 1 := by decide
  have key : (BitVec.ofInt 64 n &&& BitVec.ofInt 64 281474976710655).toNat = (n % ((2 ^ 64 : Nat) : Int)).toNat % 2 ^ 48 := by
    rw [BitVec.toNat_and, BitVec.toNat_ofInt, h, Nat.and_two_pow_sub_one_eq_mod]
  show IntKind.i64.wrap ((BitVec.ofInt 64 n &&& BitVec.ofInt 64 281474976710655).toNat : Nat) = n % 281474976710656
  rw [key, IntKind.wrap_i64]
  omega
theorem decF_app : ∀ (a b : List Int) (acc x : Int), decF acc a = some x → decF acc (a ++ b) = decF x b
  | [], b, acc, x, h => by rw [decF] at h; cases h; rfl
  | c :: r, b, acc, x, h => by
    rw [decF] at h
    by_cases hk : kindOf c = 1
    · rw [if_pos hk] at h
      rw [List.cons_append, decF, if_pos hk]
      exact decF_app r b _ x h
    · rw [if_neg hk] at h; cases h
theorem decF_natD : ∀ (d n : Nat), n ≤ d → decF 0 (natD n) = some (n : Int)
  | d, n, hd => by
    by_cases h : n < 10
    · rw [natD_lt h, decF, if_pos (kind1_iff.2 (by omega)), decF]
      congr 1
      omega
    · rw [natD_ge h]
      cases d with
      | zero => omega
      | succ d =>
        rw [decF_app _ _ _ _ (decF_natD d (n / 10) (by omega)), decF, if_pos (kind1_iff.2 (by omega)), decF]
        congr 1
        omega
theorem rdec_decL (n : Int) (h0 : 0 ≤ n) (h1 : n < 281474976710656) : rdec (decL n) = (n, true) := by
  have hl := natD_len 14 n.natAbs (by omega)
  have hne : (natD n.natAbs).length ≠ 0 := by
    by_cases h : n.natAbs < 10
    · rw [natD_lt h]; simp
    · rw [natD_ge h]; simp
  unfold rdec decL
  rw [if_neg (by omega : ¬ n < 0), if_neg (by omega)]
  unfold rdecG
  rw [decF_natD _ _ (Nat.le_refl _)]
  simp only [Prod.mk.injEq, and_true]
  omega
theorem rdec_zeros (n : Int) (h0 : 0 ≤ n) (h1 : n < 281474976710656) : rdec (48 :: 48 :: decL n) = (n, true) := by
  have hl := natD_len 14 n.natAbs (by omega)
  have hk : kindOf 48 = 1 := by decide
  unfold rdec decL
  rw [if_neg (by omega : ¬ n < 0), if_neg (by simp; omega)]
  unfold rdecG
  rw [decF, if_pos hk, decF, if_pos hk, show (((0 : Int) * 10 + (48 - 48)) * 10 + (48 - 48)) = 0 by omega, decF_natD _ _ (Nat.le_refl _)]
  simp only [Prod.mk.injEq, and_true]
  omega
theorem rhex_hexL {l : List Int} (h : Bytes l) : rhex (hexL l) = (l, true) := by
  unfold rhex
  rw [unhex_hexL l h]
end Go.Proofs.Ytcnkndmegnfofaa.P

/- HexBack: for every []byte (of which the first 2000 are taken) and every int (of which the lowest 48 bits are taken), what is told is read: the bytes, and the number, also with two zeros ahead; no condition. -/
namespace Go.Proofs.Ytcnkndmegnfofaa.Pure
open Go.RowKit Go.Proofs.Ytcnkndmegnfofaa.P Go.Proofs.YtcnkndmegnfofaaW.PrintWords Go.Proofs.YtcnkndmegnfofaaW.PrintLast
set_option linter.unusedVariables false
set_option linter.unusedSimpArgs false

theorem bytes_wf {l : List Int} (h : ∀ x ∈ l, (Lit.int .u8 x).wf = true) : Bytes l := by
  intro x hx
  have := h x hx
  simp only [Lit.wf, IntKind.min, IntKind.max, IntKind.signed, IntKind.bits, Bool.and_eq_true, decide_eq_true_eq] at this
  simp at this
  omega

theorem HexBack_on (l : List Int) (m : Int) (hb : Bytes l) (hl : l.length ≤ 2000) (h0 : 0 ≤ m) (h1 : m < 281474976710656) :
    Ev (fun k => (hex_Hex.f k l).bind fun t294 => ((hex_ReadHex.f k t294).bind fun bt295 => ((hex_Decimal.f k m).bind fun t299 => ((hex_ReadDecimal.f k t299).bind fun bt300 => ((hex_Decimal.f k m).bind fun t302 => (if 2 + t302.size ≤ 9223372036854775807 then ((hex_ReadDecimal.f k ((⟨#[48, 48]⟩ : ByteArray) ++ t302)).bind fun bt303 => (if bt295.2 = true then (if (strOfNums bt295.1).toList = (strOfNums l).toList then (if bt300.2 = true then (if bt300.1 = m then (if bt303.2 = true then (if bt303.1 = m then ((hex_Hex.f k l).bind fun t305 => (if (t305.size : Int) = (wrap64 (2 * (l.length : Int))) then ((hex_Kind.f 102).bind fun t306 => (some (t306 == 2))) else (some false))) else (some false)) else (some false)) else (some false)) else (some false)) else (some false)) else (some false))) else (none))))))) true := by
  have hd := decL_bytes m
  have hlen := natD_len 14 m.natAbs (by omega)
  have hsz : (strOfNums (decL m)).size ≤ 20 := by rw [strOf_size]; unfold decL; rw [if_neg (by omega)]; omega
  refine Ev.bind (ev_Hex l hb (by omega)) ?_
  refine Ev.bind (ev_ReadHex _ (by rw [strOf_size, hexL_len]; omega)) ?_
  refine Ev.bind (ev_Decimal m (by omega) (by omega)) ?_
  refine Ev.bind (ev_ReadDecimal _) ?_
  refine Ev.bind (ev_Decimal m (by omega) (by omega)) ?_
  refine Ev.congr (fun k => by rw [if_pos (by omega)]) ?_
  refine Ev.bind (ev_ReadDecimal _) ?_
  have e1 : rhex (bytesOf (strOfNums (hexL l))) = (l, true) := by rw [bytesOf_strOf (hexL_bytes l hb), rhex_hexL hb]
  have e2 : rdec (bytesOf (strOfNums (decL m))) = (m, true) := by rw [bytesOf_strOf hd, rdec_decL m h0 h1]
  have e3 : rdec (bytesOf ((⟨#[48, 48]⟩ : ByteArray) ++ strOfNums (decL m))) = (m, true) := by
    rw [bytesOf_append, bytesOf_strOf hd]
    exact rdec_zeros m h0 h1
  have hw : wrap64 (2 * (l.length : Int)) = 2 * (l.length : Int) := w64 (by omega)
  rw [e1, e2, e3]
  refine Ev.congr (fun k => by rw [if_pos rfl, if_pos rfl, if_pos rfl, if_pos rfl, if_pos rfl, if_pos rfl]) ?_
  refine Ev.bind (ev_Hex l hb (by omega)) ?_
  exact Ev.congr (fun k => by rw [if_pos (by rw [hw, strOf_size, hexL_len]; omega), show hex_Kind.f 102 = some 2 by decide +kernel, Option.bind_some]; rfl) (Ev.now _)

theorem HexBack : shadowboxlaw04_HexBack.Pure := by
  intro l n hm hl hw hn
  have hb := bytes_wf hw
  have hr : 0 ≤ n % 281474976710656 ∧ n % 281474976710656 < 281474976710656 := by omega
  refine Ev.rounds ?_
  by_cases h0 : (l.length : Int) > 2000
  · refine Ev.congr (fun k => by rw [shadowboxlaw04_HexBack.f, and48, if_pos h0, if_pos (by omega)]) ?_
    exact HexBack_on (l.take 2000) _ (hb.take _) (by rw [List.length_take]; omega) hr.1 hr.2
  · refine Ev.congr (fun k => by rw [shadowboxlaw04_HexBack.f, and48, if_neg h0]) ?_
    exact HexBack_on l _ hb (by omega) hr.1 hr.2

end Go.Proofs.Ytcnkndmegnfofaa.Pure

namespace Go.Proofs.Ytcnkndmegnfofaa.hexBack
open Go.ChangeShapes Go.WideShapes Go.ChangeAt Go.RowKit
open Go.ChangeMaps (open_string shut_string)
set_option linter.unusedVariables false
theorem own : ownKnob Try.prog.godebug = none := by kernel_rfl
theorem laidOut : laidOutB Try.prog = true := by kernel_rfl
def IsRow (k : IntKind) (w : World) (a : Option Addr) (len cap : Nat) (zs : List Int) : Prop :=
  (a = none ∧ len = 0 ∧ cap = 0 ∧ zs = []) ∨
  ∃ x, a = some x ∧ len ≤ cap ∧ cap ≤ maxLen ∧ zs.length = cap ∧ (∀ i, i < zs.length → w.cell? (x.add i) = some (.int k (zs.getD i 0))) ∧ ∀ n ∈ zs, (Lit.int k n).wf = true
set_option maxRecDepth 100000 in
theorem lifted (os : Os) (started : os.Started) (H : Type) (enc : TypeId × Value → H) :
    ReturnsInHanded {} Try.checked os 10 .any (Rows.hexBackSpec.pre6 enc Try.prog Try.f10 Rows.hexBackRow.domain false) (Rows.hexBackSpec.post enc Try.prog Try.f10 false true false false) := by
  refine returnsInHanded_of_change_sized (C := Try.checked) own started (by kernel_rfl) Try.func10
    (ChangeSpec.witness6 (enc := enc) (C := Try.checked) false ⟨#[], #[.slice none 0 0, .int .i64 0], []⟩ 8 (by kernel_rfl) (by kernel_rfl) (by kernel_rfl) (by kernel_rfl)) ?_
  intro W base args ds gs before hval0 hW hcnd hsz0 _
  have hsz : (DataW.weightsEach Try.prog (Try.f10.params.toList ++ Rows.hexBackSpec.plain.varTypes Try.prog) (ds ++ gs)).all (· ≤ reachBytes) = true := hsz0
  have hval : ∀ (j : Nat) t v, Try.f10.params[j]? = some t → args[j]? = some v → Value.okWide Try.prog W .any base t v := hval0
  have hW' := hW
  obtain ⟨p, q, hA0, hV, rfl, hfz, hnd⟩ := hW
  have hA : DataW.TrodAll enc Try.prog W 0 (fun _ => true) true Try.f10.params.toList args.toList ds p := hA0
  rw [Try.params10] at hA hval hsz
  obtain ⟨v0, vs0, d0, ds0, p0, q0, hargs, rfl, rfl, h0, r0⟩ := trodAll_cons hA
  obtain ⟨v1, vs1, d1, ds1, p1, q1, rfl, rfl, rfl, h1, r1⟩ := trodAll_cons r0
  obtain ⟨rfl, rfl, rfl⟩ := trodAll_nil r1
  obtain rfl : args = #[v0, v1] := by cases args; simp_all
  obtain ⟨rfl, rfl⟩ := trodVars_none hV
  obtain ⟨a0, len0, cap0, rfl⟩ := okWide_slice Try.underlying39 (hval 0 39 v0 rfl rfl)
  have k0 := h0
  have lt0 : ∀ x ∈ p0, x.block < W.heap.size := by obtain ⟨m, hm⟩ := k0; exact DataW.trod_lt m _ _ _ hm
  obtain ⟨z0, w0⟩ : ∃ zs, IsRow .u8 W a0 len0 cap0 zs := by
    obtain ⟨fuel, hf⟩ := h0
    rcases open_ints Try.underlying39 Try.underlying5 (by kernel_rfl) hf with ⟨hcs, _⟩ | ⟨x, l, c, zs, hcs, _, hl, hm, hz, _, hcell, hwz⟩
    · simp [Value.cells] at hcs
      obtain ⟨rfl, rfl, rfl⟩ := hcs
      exact ⟨[], .inl ⟨rfl, rfl, rfl, rfl⟩⟩
    · simp [Value.cells] at hcs
      obtain ⟨rfl, rfl, rfl⟩ := hcs
      exact ⟨zs, .inr ⟨_, rfl, hl, hm, by simpa using hz, hcell, hwz⟩⟩
  have y0 : len0 * 1 ≤ 140737488351232 := Go.Proofs.YtcnkndmegnfofaaW.PrintWords.sized_ints hsz (j := 0) (t := 39) rfl rfl Try.underlying39 Try.underlying5 (by kernel_rfl) (by kernel_rfl) h0
  obtain ⟨a1, rfl, rfl, rfl, w1⟩ := open_int Try.underlying3 (hval 1 3 v1 rfl rfl) h1
  clear hA0 hval0 hsz0 hsz
  refine (P.shadowboxlaw04_HexBack.walk Pure.HexBack a0 len0 cap0 z0 a1 W w0 y0 w1).mono fun e W' ⟨he, bel⟩ => ?_
  subst he
  exact ⟨_, rfl, _, _, _, [], _, [], hW', trodAll_mk1 (shut_bool Try.underlying4 _), (trodAll_cons_mk (Below.trod laidOut (by kernel_rfl) (of_decide_eq_true (by kernel_rfl)) k0 bel lt0) (trodAll_cons_mk (shut_int Try.underlying3 w1) trodAll_mk0)), rfl, bel.frame _, fun h => by cases h⟩
theorem over : Rows.hexBackRow.holds Try.pinned (OpenSpec.ofChange Rows.hexBackSpec) :=
  OpenClaim.holds_of_wide 10 Try.f10 rfl rfl rfl rfl rfl rfl rfl ⟨rfl, rfl, rfl, rfl, rfl⟩ rfl rfl rfl rfl rfl (by kernel_rfl) Try.func10 (by kernel_rfl)
    (of_decide_eq_true (by kernel_rfl)) (by unfold Func.isWrapper; first | (rw [if_pos (by decide +kernel)]; kernel_rfl) | (rw [if_neg (by decide +kernel)]; exact ⟨rfl, rfl⟩))
    (fun os started H enc _ => lifted os started H enc)
theorem proved : Rows.HexBackSaid := over
#print axioms proved
end Go.Proofs.Ytcnkndmegnfofaa.hexBack
namespace Go.Proofs.Ytcnkndmegnfofaa
/-- The row, under a short name, for the claim. -/
theorem hexBack_holds : Rows.HexBackSaid := hexBack.proved
end Go.Proofs.Ytcnkndmegnfofaa
