/- Part of the proof of EtagParts: walks and plain words, merged. -/
import Derived.Test.YtaiapalhdejngaaBEtagPartse
import Derived.Test.YtaiapalhdejngaaBEtagPartsd
import Derived.Test.YtaiapalhdejngaaBEtagPartsc
import Derived.Test.YtaiapalhdejngaaRows
import Derived.Test.YtaiapalhdejngaaChecked
import Derived.WalkKit
import Derived.ProofKit
import Derived.OpenShut
set_option linter.unusedVariables false
set_option linter.unusedSimpArgs false

/- MD5: the end, plainly. -/
set_option linter.unusedVariables false
set_option linter.unusedSimpArgs false
namespace Go.Proofs.YtaiapalhdejngaaX
open Go

def lenS (m : Int) (k : Nat) : Int := IntKind.wrap .u64 ((8 : Int) * (IntKind.wrap .u64 (m + (IntKind.wrap .u64 ((k : Nat) : Int)))))
def b8 (L : Int) (n : Nat) : Int := IntKind.wrap .u8 (bShr .u64 L n)
def lbS (m : Int) (k : Nat) : List Int := [b8 (lenS m k) 0, b8 (lenS m k) 8, b8 (lenS m k) 16, b8 (lenS m k) 24, b8 (lenS m k) 32, b8 (lenS m k) 40, b8 (lenS m k) 48, b8 (lenS m k) 56]
theorem lb_len (m : Int) (k : Nat) : (lbS m k).length = 8 := rfl
theorem wu8_bd (x : Int) : 0 ≤ IntKind.wrap .u8 x ∧ IntKind.wrap .u8 x ≤ 255 := by
  show 0 ≤ x % 256 ∧ x % 256 ≤ 255
  omega
theorem lb_bytes (m : Int) (k : Nat) : Bytes (lbS m k) := by
  intro x hx
  simp only [lbS, List.mem_cons, List.not_mem_nil, or_false] at hx
  rcases hx with rfl | rfl | rfl | rfl | rfl | rfl | rfl | rfl <;> exact wu8_bd _
def o4 (x : Int) : List Int := [IntKind.wrap .u8 (bShr .u32 x 0), IntKind.wrap .u8 (bShr .u32 x 8), IntKind.wrap .u8 (bShr .u32 x 16), IntKind.wrap .u8 (bShr .u32 x 24)]
def outS (s : Q4) : List Int := o4 s.1 ++ (o4 s.2.1 ++ (o4 s.2.2.1 ++ o4 s.2.2.2))
theorem out_len (s : Q4) : (outS s).length = 16 := rfl
theorem o4_bytes (x : Int) : Bytes (o4 x) := by
  intro y hy
  simp only [o4, List.mem_cons, List.not_mem_nil, or_false] at hy
  rcases hy with rfl | rfl | rfl | rfl <;> exact wu8_bd _
theorem out_bytes (s : Q4) : Bytes (outS s) := (o4_bytes _).append ((o4_bytes _).append ((o4_bytes _).append (o4_bytes _)))
def zs (n : Nat) : List Int := List.replicate n 0
theorem zs_bytes (n : Nat) : Bytes (zs n) := fun x hx => by rw [List.eq_of_mem_replicate hx]; decide
theorem zs_len (n : Nat) : (zs n).length = n := List.length_replicate
def endS (s : Q4) (m : Int) (r : List Int) : List Int :=
  if r.length < 56 then outS (blkS (r ++ 128 :: (zs (55 - r.length) ++ lbS m r.length)) s)
  else outS (blkS (zs 56 ++ lbS m r.length) (blkS (r ++ 128 :: zs (63 - r.length)) s))
theorem end_len (s : Q4) (m : Int) (r : List Int) : (endS s m r).length = 16 := by unfold endS; split <;> rfl
theorem end_bytes (s : Q4) (m : Int) (r : List Int) : Bytes (endS s m r) := by unfold endS; split <;> exact out_bytes _
theorem sets8 {x : List Int} (hx : x.length = 64) (a0 a1 a2 a3 a4 a5 a6 a7 : Int) : (List.set (List.set (List.set (List.set (List.set (List.set (List.set (List.set x 56 a0) 57 a1) 58 a2) 59 a3) 60 a4) 61 a5) 62 a6) 63 a7).take 64 = x.take 56 ++ [a0, a1, a2, a3, a4, a5, a6, a7] := by
  obtain ⟨p, q, rfl, hp, hq⟩ : ∃ p q, x = p ++ q ∧ p.length = 56 ∧ q.length = 8 := ⟨x.take 56, x.drop 56, (List.take_append_drop 56 x).symm, by simp [hx], by simp [hx]⟩
  have ht : (p ++ q).take 56 = p := by rw [List.take_append_of_le_length (by omega), List.take_of_length_le (by omega)]
  rw [ht, List.take_of_length_le (by simp; omega)]
  match q, hq with
  | [b0, b1, b2, b3, b4, b5, b6, b7], _ => simp [List.set_append, hp]
def cutR (a1 : List Int) : List Int := a1.take (if (63 : Int) < (a1.length : Int) then (63 : Int) else (a1.length : Int)).toNat
theorem cutR_eq (a1 : List Int) : cutR a1 = a1.take 63 := by
  unfold cutR
  by_cases h : (63 : Int) < (a1.length : Int)
  · rw [if_pos h]; rfl
  · rw [if_neg h, toNat_nat, List.take_of_length_le (by omega), List.take_of_length_le (by omega)]
theorem J1_p (n : Nat) (a0 : List Int × Int) (a1 : List Int) (a b c d : Int) (m : Int) (x : List Int) (hx : x.length = 64) :
    F83_J1 n a0 a1 a b c d m x = (F82 n ([a, b, c, d], m) (x.take 56 ++ lbS a0.2 (cutR a1).length)).bind fun v => some (o4 (v.1.getD 0 0) ++ (o4 (v.1.getD 1 0) ++ (o4 (v.1.getD 2 0) ++ o4 (v.1.getD 3 0)))) := by
  rw [F83_J1, grd_t _ (by omega), grd_t _ (by omega), grd_t _ (by omega), grd_t _ (by omega), grd_t _ (by omega), grd_t _ (by omega), grd_t _ (by omega), grd_t _ (by omega), grd_t _ (by omega), sets8 hx]
  rfl
theorem set_at (r : List Int) (h : r.length ≤ 63) : List.set (r ++ (zs 64).drop r.length) ((r.length : Nat) : Int).toNat 128 = r ++ 128 :: zs (63 - r.length) := by
  rw [toNat_nat, List.set_append_right _ _ (Nat.le_refl _), Nat.sub_self]
  congr 1
  unfold zs
  rw [List.drop_replicate, show 64 - r.length = (63 - r.length) + 1 by omega, List.replicate_succ, List.set_cons_zero]
theorem F36_eq (n : Nat) (a0 : List Int × Int) (a1 : List Int) : F83 n a0 a1 = 
    if (a1.take 63).length < 56 then F83_J1 n a0 a1 (a0.1.getD 0 0) (a0.1.getD 1 0) (a0.1.getD 2 0) (a0.1.getD 3 0) a0.2 (a1.take 63 ++ 128 :: zs (63 - (a1.take 63).length))
    else (F82 n (a0.1, a0.2) (a1.take 63 ++ 128 :: zs (63 - (a1.take 63).length))).bind fun v => F83_J1 n a0 a1 (v.1.getD 0 0) (v.1.getD 1 0) (v.1.getD 2 0) (v.1.getD 3 0) v.2 (zs 64) := by
  have hl : (cutR a1).length ≤ 63 := by rw [cutR_eq, List.length_take]; omega
  rw [← cutR_eq]
  have hs := set_at (cutR a1) hl
  have hc0 : 0 ≤ (if (63 : Int) < (a1.length : Int) then (63 : Int) else (a1.length : Int)) ∧ (if (63 : Int) < (a1.length : Int) then (63 : Int) else (a1.length : Int)) ≤ (a1.length : Int) := by split <;> omega
  have hz : (cutR a1).length + ((zs 64).drop (cutR a1).length).length = 64 := by rw [List.length_drop, zs_len]; omega
  have hw : (cutR a1 ++ 128 :: zs (63 - (cutR a1).length)).length = 64 := by rw [List.length_append, List.length_cons, zs_len]; omega
  unfold F83
  change grd (0 ≤ (if (63 : Int) < (a1.length : Int) then (63 : Int) else (a1.length : Int)) ∧ (if (63 : Int) < (a1.length : Int) then (63 : Int) else (a1.length : Int)) ≤ (a1.length : Int)) (grd ((cutR a1).length ≤ 64) (grd (0 ≤ ((cutR a1).length : Int) ∧ ((cutR a1).length : Int) < (64 : Int)) (grd (((cutR a1).length : Int).toNat < (cutR a1).length + ((zs 64).drop (cutR a1).length).length) (iteB (decide ((56 : Int) ≤ ((cutR a1).length : Int))) (grd (64 ≤ (cutR a1).length + ((zs 64).drop (cutR a1).length).length) ((F82 n (a0.1, a0.2) ((List.set (cutR a1 ++ (zs 64).drop (cutR a1).length) ((cutR a1).length : Int).toNat 128).take 64)).bind fun v10 => grd ((cutR a1).length + ((zs 64).drop (cutR a1).length).length = 64) (F83_J1 n a0 a1 (v10.1.getD 0 0) (v10.1.getD 1 0) (v10.1.getD 2 0) (v10.1.getD 3 0) v10.2 (zs 64)))) (F83_J1 n a0 a1 (a0.1.getD 0 0) (a0.1.getD 1 0) (a0.1.getD 2 0) (a0.1.getD 3 0) a0.2 (List.set (cutR a1 ++ (zs 64).drop (cutR a1).length) ((cutR a1).length : Int).toNat 128)))))) = _
  rw [hs, List.take_of_length_le (l := cutR a1 ++ _) (Nat.le_of_eq hw), grd_t _ hc0, grd_t _ (by omega), grd_t _ (by omega), grd_t _ (by rw [toNat_nat]; omega), grd_t _ (by omega)]
  by_cases h : (cutR a1).length < 56
  · rw [if_pos h, decide_eq_false (by omega), iteB_f]
  · rw [if_neg h, decide_eq_true (by omega), iteB_t]
    congr 1
    funext v
    rw [grd_t _ hz]
theorem blk_at {r : List Int} (hr : Bytes r) (hl : r.length ≤ 63) : Bytes (r ++ 128 :: zs (63 - r.length)) ∧ (r ++ 128 :: zs (63 - r.length)).length = 64 := by
  refine ⟨hr.append (Bytes.cons (by decide) (zs_bytes _)), ?_⟩
  rw [List.length_append, List.length_cons, zs_len]; omega
theorem ev_End {a1 : List Int} (hb : Bytes a1) (s : Q4) (hs : R4 s) (m : Int) : Ev (fun n => F83 n (l4 s, m) a1) (endS s m (a1.take 63)) := by
  have hr : Bytes (a1.take 63) := hb.take 63
  have hl : (a1.take 63).length ≤ 63 := by rw [List.length_take]; omega
  have hc := cutR_eq a1
  unfold endS
  by_cases h : (a1.take 63).length < 56
  · rw [if_pos h]
    have hx := blk_at hr hl
    have hk : Bytes (a1.take 63 ++ 128 :: (zs (55 - (a1.take 63).length) ++ lbS m (a1.take 63).length)) := hr.append (Bytes.cons (by decide) ((zs_bytes _).append (lb_bytes _ _)))
    have hkl : (a1.take 63 ++ 128 :: (zs (55 - (a1.take 63).length) ++ lbS m (a1.take 63).length)).length = 64 := by
      rw [List.length_append, List.length_cons, List.length_append, zs_len, lb_len]; omega
    refine ((ev_Block hk hkl s hs m).bind (g := fun n v => some (o4 (v.1.getD 0 0) ++ (o4 (v.1.getD 1 0) ++ (o4 (v.1.getD 2 0) ++ o4 (v.1.getD 3 0))))) (Ev.const rfl)).congr fun n => ?_
    · rw [F36_eq, if_pos h]
      show F83_J1 n _ a1 s.1 s.2.1 s.2.2.1 s.2.2.2 m _ = _
      rw [J1_p n _ a1 _ _ _ _ m _ hx.2, hc]
      congr 2
      rw [List.take_append, List.take_of_length_le (by omega), show 56 - (a1.take 63).length = (55 - (a1.take 63).length) + 1 by omega, List.take_succ_cons]
      unfold zs
      rw [List.take_replicate, Nat.min_eq_left (by omega), List.append_assoc, List.cons_append]
  · rw [if_neg h]
    have hx := blk_at hr hl
    have hk : Bytes (zs 56 ++ lbS m (a1.take 63).length) := (zs_bytes _).append (lb_bytes _ _)
    have hkl : (zs 56 ++ lbS m (a1.take 63).length).length = 64 := by rw [List.length_append, zs_len, lb_len]
    refine ((ev_Block hx.1 hx.2 s hs m).bind (g := fun n v => F83_J1 n (l4 s, m) a1 (v.1.getD 0 0) (v.1.getD 1 0) (v.1.getD 2 0) (v.1.getD 3 0) v.2 (zs 64)) (((ev_Block hk hkl (blkS (a1.take 63 ++ 128 :: zs (63 - (a1.take 63).length)) s) (R4.blk _ _) (IntKind.wrap .u64 (m + 64))).bind (g := fun n v => some (o4 (v.1.getD 0 0) ++ (o4 (v.1.getD 1 0) ++ (o4 (v.1.getD 2 0) ++ o4 (v.1.getD 3 0))))) (Ev.const rfl)).congr fun n => ?_)).congr fun n => ?_
    · show F83_J1 n _ a1 _ _ _ _ _ _ = _
      rw [J1_p n _ a1 _ _ _ _ _ _ (zs_len 64), hc]
      congr 2
    · rw [F36_eq, if_neg h]
/-! The reference's. -/
theorem ev_L3 (a0 : List Int × Int) (x3 x6 X : List Int) (hX : X = x6 ++ lbS a0.2 x3.length) (hb : Bytes X) (h64 : ∃ k, X.length = 64 * k ∧ k ≤ 2) : ∀ (k i : Nat) (s : Q4) (m : Int), 64 * i + 64 * k = X.length → R4 s → ∃ t : Q4, (t = (if k = 0 then s else if k = 1 then blkS ((X.drop (64 * i)).take 64) s else blkS ((X.drop (64 * (i + 1))).take 64) (blkS ((X.drop (64 * i)).take 64) s)) ∨ 2 < k) ∧
    Ev (fun n => F102_L3 n x6 a0 x3 ((64 * i : Nat) : Int) s.1 s.2.1 s.2.2.1 s.2.2.2 m) (outS t)
  | 0, i, s, m, hi, hs => by
    have hx : X.length = x6.length + 8 := by rw [hX, List.length_append, lb_len]
    refine ⟨s, .inl (by rw [if_pos rfl]), Ev.step ((Ev.const (x := some (outS s)) rfl).congr fun n => ?_)⟩
    rw [F102_L3, decide_eq_false (by omega), iteB_f]
    rfl
  | k + 1, i, s, m, hi, hs => by
    have hx : X.length = x6.length + 8 := by rw [hX, List.length_append, lb_len]
    obtain ⟨q, hq, hq2⟩ := h64
    have hbk : Bytes ((X.drop (64 * i)).take 64) := (hb.drop _).take _
    have hbl : ((X.drop (64 * i)).take 64).length = 64 := by rw [List.length_take, List.length_drop]; omega
    have hw : IntKind.wrap .i64 (((64 * i : Nat) : Int) + 64) = ((64 * (i + 1) : Nat) : Int) := by rw [w64 (by omega)]; omega
    obtain ⟨t, ht, e⟩ := ev_L3 a0 x3 x6 X hX hb ⟨q, hq, hq2⟩ k (i + 1) (blkS ((X.drop (64 * i)).take 64) s) (IntKind.wrap .u64 (m + 64)) (by omega) (R4.blk _ _)
    refine ⟨t, ?_, Ev.step (((ev_rBlock hbk hbl s hs m).bind (g := fun n v => F102_L3 n x6 a0 x3 ((64 * (i + 1) : Nat) : Int) (v.1.getD 0 0) (v.1.getD 1 0) (v.1.getD 2 0) (v.1.getD 3 0) v.2) e).congr fun n => ?_)⟩
    · rcases ht with ht | ht
      · by_cases h2 : 2 < k + 1
        · exact .inr h2
        left
        match k, h2 with
        | 0, _ => rw [ht]; rfl
        | 1, _ => rw [ht]; rfl
        | k + 2, h2 => exact absurd (by omega) h2
      · exact .inr (by omega)
    · rw [F102_L3, decide_eq_true (by omega), iteB_t, hw, toNat_nat, toNat_nat, grd_t _ (by omega), show 64 * (i + 1) - 64 * i = 64 by omega]
      rw [hX]
      simp only [List.append_assoc, List.cons_append, List.nil_append]
      rfl
theorem ev_L2 (a0 : List Int × Int) (x3 : List Int) (res : List Int) : ∀ (z : Nat) (x6 : List Int), (x6.length + z) % 64 = 56 → (∀ y, y < z → (x6.length + y) % 64 ≠ 56) → x6.length + z ≤ 1000 → Ev (fun n => F102_L3 n (x6 ++ zs z) a0 x3 (0 : Int) (a0.1.getD 0 0) (a0.1.getD 1 0) (a0.1.getD 2 0) (a0.1.getD 3 0) a0.2) res → Ev (fun n => F102_L2 n a0 x3 x6) res
  | 0, x6, h, hy, hl, e => by
    refine Ev.step (e.congr fun n => ?_)
    have hm : (x6.length : Int).tmod 64 = 56 := by rw [show (x6.length : Int).tmod 64 = ((x6.length % 64 : Nat) : Int) from modN _ 64]; omega
    rw [F102_L2, hm, show ((56 : Int) != 56) = false by decide, iteB_f, grd_t _ (by omega), grd_t _ (by omega), grd_t _ (by omega), grd_t _ (by omega), grd_t _ (by omega), grd_t _ (by omega), grd_t _ (by omega), grd_t _ (by omega), show x6 ++ zs 0 = x6 from List.append_nil x6]
    rfl
  | z + 1, x6, h, hy, hl, e => by
    have hne := hy 0 (by omega)
    have hm : ((x6.length : Int).tmod 64 != 56) = true := by
      rw [show (x6.length : Int).tmod 64 = ((x6.length % 64 : Nat) : Int) from modN _ 64]
      rw [bne_iff_ne]; omega
    refine Ev.step ((ev_L2 a0 x3 res z (x6 ++ [0]) (by simp; omega) (fun y hyz => by have := hy (y + 1) (by omega); simp; omega) (by simp; omega) ?_).congr fun n => ?_)
    · rw [List.append_assoc]; exact e
    · rw [F102_L2, hm, iteB_t, grd_t _ (by omega)]
theorem ev_rJ1 {x3 : List Int} (hb : Bytes x3) (hl : x3.length ≤ 63) (s : Q4) (hs : R4 s) (m : Int) : Ev (fun n => F102_J1 n (l4 s, m) x3) (endS s m x3) := by
  have hb1 : Bytes (x3 ++ [128]) := hb.append (Bytes.cons (by decide) Bytes.nil)
  have key : ∀ z, (x3.length + 1 + z) % 64 = 56 → (∀ y, y < z → (x3.length + 1 + y) % 64 ≠ 56) → x3.length + 1 + z ≤ 120 →
      Ev (fun n => F102_L3 n ((x3 ++ [128]) ++ zs z) (l4 s, m) x3 (0 : Int) s.1 s.2.1 s.2.2.1 s.2.2.2 m) (endS s m x3) → Ev (fun n => F102_J1 n (l4 s, m) x3) (endS s m x3) := by
    intro z h1 h2 h3 e
    refine (ev_L2 (l4 s, m) x3 (endS s m x3) z (x3 ++ [128]) (by simpa using h1) (by simpa using h2) (by simp; omega) e).congr fun n => ?_
    rw [F102_J1, grd_t _ (by omega), grd_t _ (by omega)]
  by_cases h : x3.length < 56
  · refine key (55 - x3.length) (by omega) (fun y hy => by omega) (by omega) ?_
    have hX : Bytes (((x3 ++ [128]) ++ zs (55 - x3.length)) ++ lbS m x3.length) := (hb1.append (zs_bytes _)).append (lb_bytes _ _)
    have hXl : (((x3 ++ [128]) ++ zs (55 - x3.length)) ++ lbS m x3.length).length = 64 := by simp [zs_len, lb_len]; omega
    obtain ⟨t, ht, e⟩ := ev_L3 (l4 s, m) x3 ((x3 ++ [128]) ++ zs (55 - x3.length)) _ rfl hX ⟨1, hXl, by omega⟩ 1 0 s m (by rw [hXl]) hs
    rcases ht with ht | ht
    · have : endS s m x3 = outS t := by
        rw [ht]
        unfold endS
        rw [if_pos h, if_neg (by omega), if_pos rfl, Nat.mul_zero, List.drop_zero, List.take_of_length_le (Nat.le_of_eq hXl)]
        congr 2
        simp only [List.append_assoc, List.cons_append, List.nil_append]
      rw [this]; exact e
    · omega
  · refine key (119 - x3.length) (by omega) (fun y hy => by omega) (by omega) ?_
    have hX : Bytes (((x3 ++ [128]) ++ zs (119 - x3.length)) ++ lbS m x3.length) := (hb1.append (zs_bytes _)).append (lb_bytes _ _)
    have hXl : (((x3 ++ [128]) ++ zs (119 - x3.length)) ++ lbS m x3.length).length = 128 := by simp [zs_len, lb_len]; omega
    obtain ⟨t, ht, e⟩ := ev_L3 (l4 s, m) x3 ((x3 ++ [128]) ++ zs (119 - x3.length)) _ rfl hX ⟨2, hXl, by omega⟩ 2 0 s m (by rw [hXl]) hs
    have hsp : ((x3 ++ [128]) ++ zs (119 - x3.length)) ++ lbS m x3.length = (x3 ++ 128 :: zs (63 - x3.length)) ++ (zs 56 ++ lbS m x3.length) := by
      have : zs (119 - x3.length) = zs (63 - x3.length) ++ zs 56 := by
        unfold zs; rw [List.replicate_append_replicate]; congr 1; omega
      rw [this]
      simp only [List.append_assoc, List.cons_append, List.nil_append]
    have hal := (blk_at hb hl).2
    rcases ht with ht | ht
    · have : endS s m x3 = outS t := by
        rw [ht]
        unfold endS
        rw [if_neg h, if_neg (by omega), if_neg (by omega), Nat.mul_zero, List.drop_zero, hsp, List.take_append_of_le_length (by omega), List.take_of_length_le (Nat.le_of_eq hal)]
        show _ = outS (blkS ((List.drop 64 _).take 64) _)
        rw [List.drop_append, List.drop_of_length_le (Nat.le_of_eq hal), hal, Nat.sub_self, List.drop_zero, List.nil_append, List.take_of_length_le (by rw [List.length_append, zs_len, lb_len]; omega)]
      rw [this]; exact e
    · omega
theorem ev_rEnd {a1 : List Int} (hb : Bytes a1) (s : Q4) (hs : R4 s) (m : Int) : Ev (fun n => F102 n (l4 s, m) a1) (endS s m (a1.take 63)) := by
  by_cases h : (63 : Int) < (a1.length : Int)
  · refine (ev_rJ1 (hb.take 63) (by rw [List.length_take]; omega) s hs m).congr fun n => ?_
    rw [F102, decide_eq_true h, iteB_t, grd_t _ (by omega)]
  · rw [List.take_of_length_le (by omega)]
    refine (ev_rJ1 hb (by omega) s hs m).congr fun n => ?_
    rw [F102, decide_eq_false h, iteB_f]
end Go.Proofs.YtaiapalhdejngaaX

/- MD5: sums and digits, plainly. -/
set_option linter.unusedVariables false
set_option linter.unusedSimpArgs false
namespace Go.Proofs.YtaiapalhdejngaaX
open Go

def s0 : Q4 := (1732584193, 4023233417, 2562383102, 271733878)
theorem R4_s0 : R4 s0 := ⟨⟨by decide, by decide⟩, ⟨by decide, by decide⟩, ⟨by decide, by decide⟩, ⟨by decide, by decide⟩⟩
/-- So many blocks, and the end. -/
def sumL : Nat → List Int → Q4 → Int → List Int
  | 0, b, s, m => endS s m b
  | k + 1, b, s, m => if 64 ≤ b.length then sumL k (b.drop 64) (blkS (b.take 64) s) (IntKind.wrap .u64 (m + 64)) else endS s m b
def sumS (b : List Int) : List Int := sumL b.length b s0 0
theorem sumL_len : ∀ (k : Nat) (b : List Int) (s : Q4) (m : Int), (sumL k b s m).length = 16
  | 0, b, s, m => end_len _ _ _
  | k + 1, b, s, m => by
    unfold sumL
    split
    · exact sumL_len k _ _ _
    · exact end_len _ _ _
theorem sumL_bytes : ∀ (k : Nat) (b : List Int) (s : Q4) (m : Int), Bytes (sumL k b s m)
  | 0, b, s, m => end_bytes _ _ _
  | k + 1, b, s, m => by
    unfold sumL
    split
    · exact sumL_bytes k _ _ _
    · exact end_bytes _ _ _
theorem ev_p1 : ∀ (k : Nat) (b : List Int) (s : Q4) (m : Int), Bytes b → R4 s → b.length ≤ k → Ev (fun n => F45_L1 n b s.1 s.2.1 s.2.2.1 s.2.2.2 m) (sumL k b s m) := by
  have fin : ∀ (b : List Int) (s : Q4) (m : Int), Bytes b → R4 s → b.length < 64 → Ev (fun n => F45_L1 n b s.1 s.2.1 s.2.2.1 s.2.2.2 m) (endS s m b) := by
    intro b s m hb hs h
    have he := ev_End hb s hs m
    rw [List.take_of_length_le (by omega)] at he
    refine Ev.step ((he.bind (g := fun n v => grd (v.length = 16) (grd (16 ≤ v.length) (some (v.take 16)))) (Ev.const ?_)).congr fun n => ?_)
    · have hl := end_len s m b
      rw [grd_t _ hl, grd_t _ (by omega), List.take_of_length_le (by omega)]
    · rw [F45_L1, decide_eq_false (by omega), iteB_f]
      rfl
  intro k
  induction k with
  | zero => intro b s m hb hs h; exact fin b s m hb hs (by omega)
  | succ k ih =>
    intro b s m hb hs h
    unfold sumL
    by_cases h64 : 64 ≤ b.length
    · rw [if_pos h64]
      have hbk : (b.take 64).length = 64 := by rw [List.length_take]; omega
      refine Ev.step (((ev_Block (hb.take 64) hbk s hs m).bind (g := fun n v => F45_L1 n (b.drop 64) (v.1.getD 0 0) (v.1.getD 1 0) (v.1.getD 2 0) (v.1.getD 3 0) v.2) (ih (b.drop 64) (blkS (b.take 64) s) (IntKind.wrap .u64 (m + 64)) (hb.drop 64) (R4.blk _ _) (by rw [List.length_drop]; omega))).congr fun n => ?_)
      rw [F45_L1, decide_eq_true (by omega), iteB_t, grd_t _ (by omega), grd_t _ (by omega), List.take_of_length_le (Nat.le_of_eq hbk)]
      show Option.bind (_) _ = Option.bind _ _
      congr 1
      funext v
      rw [grd_t _ (by omega)]
      rfl
    · rw [if_neg h64]; exact fin b s m hb hs (by omega)
theorem ev_r1 : ∀ (k : Nat) (b : List Int) (s : Q4) (m : Int), Bytes b → R4 s → b.length ≤ k → Ev (fun n => F77_L1 n b s.1 s.2.1 s.2.2.1 s.2.2.2 m) (sumL k b s m) := by
  have fin : ∀ (b : List Int) (s : Q4) (m : Int), Bytes b → R4 s → b.length < 64 → Ev (fun n => F77_L1 n b s.1 s.2.1 s.2.2.1 s.2.2.2 m) (endS s m b) := by
    intro b s m hb hs h
    have he := ev_rEnd hb s hs m
    rw [List.take_of_length_le (by omega)] at he
    refine Ev.step ((he.bind (g := fun n v => grd (v.length = 16) (grd (16 ≤ v.length) (some (v.take 16)))) (Ev.const ?_)).congr fun n => ?_)
    · have hl := end_len s m b
      rw [grd_t _ hl, grd_t _ (by omega), List.take_of_length_le (by omega)]
    · rw [F77_L1, decide_eq_false (by omega), iteB_f]
      rfl
  intro k
  induction k with
  | zero => intro b s m hb hs h; exact fin b s m hb hs (by omega)
  | succ k ih =>
    intro b s m hb hs h
    unfold sumL
    by_cases h64 : 64 ≤ b.length
    · rw [if_pos h64]
      have hbk : (b.take 64).length = 64 := by rw [List.length_take]; omega
      refine Ev.step (((ev_rBlock (hb.take 64) hbk s hs m).bind (g := fun n v => F77_L1 n (b.drop 64) (v.1.getD 0 0) (v.1.getD 1 0) (v.1.getD 2 0) (v.1.getD 3 0) v.2) (ih (b.drop 64) (blkS (b.take 64) s) (IntKind.wrap .u64 (m + 64)) (hb.drop 64) (R4.blk _ _) (by rw [List.length_drop]; omega))).congr fun n => ?_)
      rw [F77_L1, decide_eq_true (by omega), iteB_t, grd_t _ (by omega)]
      show Option.bind (_) _ = Option.bind _ _
      congr 1
      funext v
      rw [grd_t _ (by omega)]
      rfl
    · rw [if_neg h64]; exact fin b s m hb hs (by omega)
theorem ev_Sum {b : List Int} (hb : Bytes b) : Ev (fun n => F45 n b) (sumS b) := by
  refine (ev_p1 b.length b s0 0 hb R4_s0 (Nat.le_refl _)).congr fun n => ?_
  rw [F45]; rfl
theorem ev_rSum {b : List Int} (hb : Bytes b) : Ev (fun n => F77 n b) (sumS b) := by
  refine (ev_r1 b.length b s0 0 hb R4_s0 (Nat.le_refl _)).congr fun n => ?_
  rw [F77]; rfl
/-! Digits. -/
def dgt (k : Nat) : UInt8 := ([48, 49, 50, 51, 52, 53, 54, 55, 56, 57, 97, 98, 99, 100, 101, 102] : List UInt8).getD k 0
def txt2 (c : Int) : List UInt8 := [dgt (c / 16).toNat, dgt (c % 16).toNat]
def txtS (l : List Int) : List UInt8 := l.flatMap txt2
theorem txt_len : ∀ l : List Int, (txtS l).length = 2 * l.length
  | [] => rfl
  | c :: l => by
    have := txt_len l
    unfold txtS at this ⊢
    rw [List.flatMap_cons, List.length_append, this, List.length_cons]
    show 2 + _ = _
    omega
theorem txt_snoc (l : List Int) (c : Int) : txtS (l ++ [c]) = txtS l ++ txt2 c := by unfold txtS; rw [List.flatMap_append, List.flatMap_cons, List.flatMap_nil, List.append_nil]
theorem toB_nat (c : UInt8) : toB (c.toNat : Int) = c := by
  show UInt8.ofNat ((c.toNat : Int)).toNat = c
  rw [toNat_nat]; simp
theorem hi4 {c : Int} (h : 0 ≤ c ∧ c ≤ 255) : bShr .u8 c 4 = c / 16 := bShr_div .u8 c 4 16 (by decide) (by decide)
theorem lo4 {c : Int} (h : 0 ≤ c ∧ c ≤ 255) : IntKind.wrap .u8 (bAnd .u8 c 15) = c % 16 := by
  rw [bAnd_low .u8 4 c h.1 (by show c < 256; omega) (by decide) 15 (by decide), wu8 (by omega)]
  rfl
theorem take_snoc {l : List Int} {i : Nat} (h : i < l.length) : l.take (i + 1) = l.take i ++ [l.getD i 0] := by
  rw [List.take_succ_eq_append_getElem h, List.getD_eq_getElem?_getD, List.getElem?_eq_getElem h]; rfl
theorem ev_t1 {v : List Int} (hv : Bytes v) (hl : v.length = 16) : ∀ (r i : Nat) (x : List Int), i + r = 16 → x.length = 2 * i → x.map toB = txtS (v.take i) → Ev (fun n => F54_L1 n v (i : Int) x) (txtS v)
  | 0, i, x, hi, hx, he => by
    rw [List.take_of_length_le (by omega)] at he
    refine Ev.step ((Ev.const (x := some (txtS v)) rfl).congr fun n => ?_)
    rw [F54_L1, decide_eq_false (by omega), iteB_f, he]
  | r + 1, i, x, hi, hx, he => by
    have hc := hv.getD i
    refine Ev.step ((ev_t1 hv hl r (i + 1) (x ++ [((dgt (v.getD i 0 / 16).toNat).toNat : Int), ((dgt (v.getD i 0 % 16).toNat).toNat : Int)]) (by omega) (by simp [hx]; omega) ?_).congr fun n => ?_)
    · rw [take_snoc (by omega), txt_snoc, List.map_append, he]
      congr 1
      simp only [List.map_cons, List.map_nil, toB_nat]
      rfl
    · rw [F54_L1, decide_eq_true (by omega), iteB_t, toNat_nat, int_default, hi4 hc, lo4 hc, grd_t _ (by omega), grd_t _ (by omega), grd_t _ (by omega), grd_t _ (by omega), g64 i (by omega)]
      rfl
theorem cut1 (k : Nat) (h : k < 16) : (([48, 49, 50, 51, 52, 53, 54, 55, 56, 57, 97, 98, 99, 100, 101, 102] : List UInt8).take (k + 1)).drop k = [dgt k] := by
  have : ∀ k : Fin 16, (([48, 49, 50, 51, 52, 53, 54, 55, 56, 57, 97, 98, 99, 100, 101, 102] : List UInt8).take (k.val + 1)).drop k.val = [dgt k.val] := by decide
  exact this ⟨k, h⟩
theorem ev_rt1 {v : List Int} (hv : Bytes v) (hl : v.length = 16) : ∀ (r i : Nat) (x : List UInt8), i + r = 16 → x = txtS (v.take i) → Ev (fun n => F40_L1 n v x (i : Int)) (txtS v)
  | 0, i, x, hi, he => by
    rw [List.take_of_length_le (by omega)] at he
    refine Ev.step ((Ev.const (x := some (txtS v)) rfl).congr fun n => ?_)
    rw [F40_L1, decide_eq_false (by omega), iteB_f, he]
  | r + 1, i, x, hi, he => by
    have hc := hv.getD i
    have hx : x.length ≤ 32 := by rw [he, txt_len, List.length_take]; omega
    obtain ⟨a, ha⟩ : ∃ a : Nat, v.getD i 0 / 16 = (a : Int) := ⟨(v.getD i 0 / 16).toNat, by omega⟩
    obtain ⟨b, hb⟩ : ∃ b : Nat, v.getD i 0 % 16 = (b : Int) := ⟨(v.getD i 0 % 16).toNat, by omega⟩
    have hd : IntKind.wrap .u8 ((v.getD i 0).tdiv 16) = (a : Int) := by
      rw [Int.tdiv_eq_ediv_of_nonneg hc.1, ha, wu8 (by omega)]
    have hm : (v.getD i 0).tmod 16 = (b : Int) := by rw [Int.tmod_eq_emod_of_nonneg hc.1, hb]
    have hd1 : IntKind.wrap .u8 ((a : Int) + 1) = ((a + 1 : Nat) : Int) := by rw [wu8 (by omega)]; omega
    have hm1 : IntKind.wrap .u8 ((b : Int) + 1) = ((b + 1 : Nat) : Int) := by rw [wu8 (by omega)]; omega
    refine Ev.step ((ev_rt1 hv hl r (i + 1) ((x ++ [dgt a]) ++ [dgt b]) (by omega) ?_).congr fun n => ?_)
    · rw [take_snoc (by omega), txt_snoc, he]
      unfold txt2
      rw [ha, hb, toNat_nat, toNat_nat, List.append_assoc]; rfl
    · rw [F40_L1, decide_eq_true (by omega), iteB_t]
      simp only [toNat_nat, int_default, hd, hm, hd1, hm1]
      rw [cut1 a (by omega), cut1 b (by omega)]
      simp only [List.length_cons, List.length_nil]
      repeat rw [grd_t _ (by omega)]
      rw [g64 i (by omega)]
theorem ev_Text {b : List Int} (hb : Bytes b) : Ev (fun n => F54 n b) (txtS (sumS b)) := by
  refine ((ev_Sum hb).bind (g := fun n v => F54_L1 n v ((0 : Nat) : Int) []) (ev_t1 (sumL_bytes _ _ _ _) (sumL_len _ _ _ _) 16 0 [] rfl rfl rfl)).congr fun n => ?_
  rw [F54]; rfl
theorem ev_rText {b : List Int} (hb : Bytes b) : Ev (fun n => F40 n b) (txtS (sumS b)) := by
  refine ((ev_rSum hb).bind (g := fun n v => grd (v.length = 16) (F40_L1 n v [] ((0 : Nat) : Int))) ?_).congr fun n => ?_
  · exact (ev_rt1 (sumL_bytes _ _ _ _) (sumL_len _ _ _ _) 16 0 [] rfl rfl).congr fun n => grd_t _ (sumL_len _ _ _ _)
  · rw [F40]; rfl
theorem sum_abc : txtS (sumS [97, 98, 99]) = [57, 48, 48, 49, 53, 48, 57, 56, 51, 99, 100, 50, 52, 102, 98, 48, 100, 54, 57, 54, 51, 102, 55, 100, 50, 56, 101, 49, 55, 102, 55, 50] := by decide +kernel
theorem sum_nil : (sumS []).getD 0 0 = 212 := by decide +kernel
end Go.Proofs.YtaiapalhdejngaaX

set_option linter.unusedVariables false
set_option linter.unusedSimpArgs false
namespace Go.Proofs.YtaiapalhdejngaaX
open Go Go.RowKit Go.Proofs
set_option maxRecDepth 100000
attribute [local go_sem ↓] stepsK_build stepsK_build0 stepsK_bs stepsK_bs0 appendS
attribute [local go_sem] String.reduceEq String.reduceNe reduceCtorEq Int.reduceEq Nat.reduceAdd Nat.reduceSub Nat.reduceMul Nat.reduceLT Nat.reduceLeDiff Nat.reduceEqDiff Nat.reduceBEq Int.reduceToNat Int.reduceLT Int.reduceLE Int.reduceGT Int.reduceGE Int.reduceAdd Int.reduceSub Int.reduceMul Int.reduceNeg Int.reduceBEq Int.reduceBNe Int.reducePow Int.reduceDiv Int.reduceMod Int.reduceTDiv Int.reduceTMod Int.reduceNatCast
/-! ### hex.ReadDecimal -/
def F78_S1 (a0 : List UInt8) (x3 : Int) (x4 : Int) : St := ⟨[.imm (.string (bs a0)), .junk, .junk, .junk, .imm (.int .i64 x3), .junk, .junk, .junk, .junk, .junk, .junk, .junk, .junk, .junk, .imm (.int .i64 (a0.length : Int)), .imm (.int .i64 x4), .junk, .junk, .junk, .junk, .junk, .junk, .junk, .junk, .junk, .junk, .junk, .junk, .junk, .junk, .junk, .junk, .junk], []⟩
def F78_L1 : Nat → (List UInt8) → (Int) → (Int) → Option ((Int) × (Bool))
  | 0, _, _, _ => none
  | m1 + 1, a0, x3, x4 => iteB (decide (x4 < (a0.length : Int))) (grd (0 ≤ x4 ∧ x4 < (a0.length : Int)) ((F70 m1 ((a0.getD x4.toNat 0).toNat : Int)).bind fun v7 => iteB (v7 != (1 : Int)) (some ((0 : Int), false)) (grd (0 ≤ x4 ∧ x4 < (a0.length : Int)) (F78_L1 m1 a0 (IntKind.wrap .i64 ((IntKind.wrap .i64 (x3 * (10 : Int))) + (IntKind.wrap .i64 ((IntKind.wrap .u8 (((a0.getD x4.toNat 0).toNat : Int) - (48 : Int))))))) (IntKind.wrap .i64 (x4 + (1 : Int))))))) (some (x3, true))
def F78 (n : Nat) (a0 : List UInt8) : Option ((Int) × (Bool)) := iteB (a0 == []) (some ((0 : Int), false)) (iteB (decide ((18 : Int) < (a0.length : Int))) (some ((0 : Int), false)) (F78_L1 n a0 (0 : Int) (0 : Int)))
set_option maxHeartbeats 4000000 in
theorem F78_ok : ∀ (n : Nat) (a0 : List UInt8) (r : (Int) × (Bool)), F78 n a0 = some r → FnC Try.prog 78 [.imm (.string (bs a0))] (.tup [.imm (.int .i64 r.1), .imm (.bool r.2)])
  | n, a0, r, h => by
    unfold F78 at h
    refine FnC.goX mixed Try.func78 (by kernel_rfl) rfl ?_
    simp only [Try.ntmps78, List.length_cons, List.length_nil, List.replicate, List.cons_append, List.nil_append, Nat.reduceAdd, Nat.reduceSub]
    refine runX_seq ?_
    refine runX_regionC fun C hC => ?_
    try simp -implicitDefEqProofs (maxSteps := 4000000) (disch := first | omega | decide | (simp only [go_sem]; omega)) only [go_sem, ↓reduceIte]
    repeat (with_reducible refine And.intro (by first | assumption | omega | (simp; done) | (simp; omega)) ?_)
    refine toEnd hC ?_
    refine endX_seq ?_
    refine runX_seq ?_
    refine runX_seq ?_
    refine runX_regionC fun C hC => ?_
    try simp -implicitDefEqProofs (maxSteps := 4000000) (disch := first | omega | decide | (simp only [go_sem]; omega)) only [go_sem, ↓reduceIte]
    repeat (with_reducible refine And.intro (by first | assumption | omega | (simp; done) | (simp; omega)) ?_)
    rcases iteB_some h with ⟨c1, h⟩ | ⟨c1, h⟩
    · refine guardK_F c1 ?_
      try simp -implicitDefEqProofs (maxSteps := 4000000) (disch := first | omega | decide | (simp only [go_sem]; omega)) only [go_sem, ↓reduceIte]
      repeat (with_reducible refine And.intro (by first | assumption | omega | (simp; done) | (simp; omega)) ?_)
      refine toEnd hC ?_
      refine endX_seq ?_
      refine runX_condT rfl rfl ?_
      refine runX_seq ?_
      refine runX_regionC fun C hC => ?_
      try simp -implicitDefEqProofs (maxSteps := 4000000) (disch := first | omega | decide | (simp only [go_sem]; omega)) only [go_sem, ↓reduceIte]
      repeat (with_reducible refine And.intro (by first | assumption | omega | (simp; done) | (simp; omega)) ?_)
      refine toEnd hC ?_
      refine endX_seq ?_
      refine runX_ret ?_
      refine endX_seqR ?_
      refine endX_q ?_
      obtain rfl := Option.some.inj h
      show RetW _ _ _ _ _
      simp only [RetW]
      (try simp -implicitDefEqProofs (maxSteps := 4000000) (disch := first | omega | decide | (simp only [go_sem]; omega)) only [go_sem, ↓reduceIte])
      (try simp (disch := omega) only [if_pos, Nat.sub_zero])
      exact leT_refl _
    · refine guardK_T c1 ?_
      try simp -implicitDefEqProofs (maxSteps := 4000000) (disch := first | omega | decide | (simp only [go_sem]; omega)) only [go_sem, ↓reduceIte]
      repeat (with_reducible refine And.intro (by first | assumption | omega | (simp; done) | (simp; omega)) ?_)
      refine toEnd hC ?_
      refine endX_seq ?_
      rcases iteB_some h with ⟨c2, h⟩ | ⟨c2, h⟩
      · refine runX_condT rfl c2 ?_
        refine runX_seq ?_
        refine runX_regionC fun C hC => ?_
        try simp -implicitDefEqProofs (maxSteps := 4000000) (disch := first | omega | decide | (simp only [go_sem]; omega)) only [go_sem, ↓reduceIte]
        repeat (with_reducible refine And.intro (by first | assumption | omega | (simp; done) | (simp; omega)) ?_)
        refine toEnd hC ?_
        refine endX_seq ?_
        refine runX_ret ?_
        refine endX_seqR ?_
        refine endX_q ?_
        obtain rfl := Option.some.inj h
        show RetW _ _ _ _ _
        simp only [RetW]
        (try simp -implicitDefEqProofs (maxSteps := 4000000) (disch := first | omega | decide | (simp only [go_sem]; omega)) only [go_sem, ↓reduceIte])
        (try simp (disch := omega) only [if_pos, Nat.sub_zero])
        exact leT_refl _
      · refine runX_condF rfl c2 ?_
        refine runX_skip ?_
        refine endX_seq ?_
        refine runX_seq ?_
        refine runX_regionC fun C hC => ?_
        try simp -implicitDefEqProofs (maxSteps := 4000000) (disch := first | omega | decide | (simp only [go_sem]; omega)) only [go_sem, ↓reduceIte]
        repeat (with_reducible refine And.intro (by first | assumption | omega | (simp; done) | (simp; omega)) ?_)
        refine toEnd hC ?_
        refine endX_seq ?_
        refine runX_seq ?_
        refine runX_seq ?_
        refine runX_regionC fun C hC => ?_
        try simp -implicitDefEqProofs (maxSteps := 4000000) (disch := first | omega | decide | (simp only [go_sem]; omega)) only [go_sem, ↓reduceIte]
        repeat (with_reducible refine And.intro (by first | assumption | omega | (simp; done) | (simp; omega)) ?_)
        refine toEnd hC ?_
        refine endX_seq ?_
        refine runX_block ?_
        refine runX_loop [0, 4, 14, 15] (fun m S => ∃ (x3 : Int) (x4 : Int), S = F78_S1 a0 x3 x4 ∧ m ≤ n ∧ F78_L1 m a0 x3 x4 = some r) n ⟨F78_S1 a0 (0 : Int) (0 : Int), ?_, (0 : Int), (0 : Int), rfl, Nat.le_refl _, h⟩ ?_
        · simp only [F78_S1]
          (try simp -implicitDefEqProofs (maxSteps := 4000000) (disch := first | omega | decide | (simp only [go_sem]; omega)) only [go_sem, ↓reduceIte])
          first | exact leS_refl _ | (refine leS_le ?_ ?_ <;> first | exact leL_refl _ | exact leOs_refl _ | (simp only [List.append_assoc, List.cons_append, List.nil_append]; exact leOs_refl _) | (repeat (first | exact leL_refl _ | refine leL_cons (by first | exact leT_refl _ | exact leT_virt | exact leT_junk _ | exact leT_sl | exact leT_sln | exact leT_nil | (refine leT_agg (by repeat (first | exact leL_refl _ | refine leL_cons (by first | exact leT_refl _ | exact leT_sl | exact leT_sln | exact leT_nil) ?_)))) ?_)))
        · clear h
          rintro m1 S ⟨x3, x4, rfl, hm1, h⟩
          cases m1 with
          | zero => first | cases (show (none : Option _) = some _ from h) | (rw [F78_L1] at h; cases h)
          | succ m1 =>
            rw [F78_L1] at h
            simp only [F78_S1]
            refine runX_seq ?_
            refine runX_regionC fun C hC => ?_
            try simp -implicitDefEqProofs (maxSteps := 4000000) (disch := first | omega | decide | (simp only [go_sem]; omega)) only [go_sem, ↓reduceIte]
            repeat (with_reducible refine And.intro (by first | assumption | omega | (simp; done) | (simp; omega)) ?_)
            refine toEnd hC ?_
            refine endX_seq ?_
            refine runX_seq ?_
            rcases iteB_some h with ⟨c5, h⟩ | ⟨c5, h⟩
            · refine runX_condT rfl c5 ?_
              refine runX_skip ?_
              refine endX_seq ?_
              refine runX_seq ?_
              refine runX_block ?_
              refine runX_seq ?_
              refine runX_regionC fun C hC => ?_
              try simp -implicitDefEqProofs (maxSteps := 4000000) (disch := first | omega | decide | (simp only [go_sem]; omega)) only [go_sem, ↓reduceIte]
              repeat (with_reducible refine And.intro (by first | assumption | omega | (simp; done) | (simp; omega)) ?_)
              refine toEnd hC ?_
              refine endX_seq ?_
              refine runX_seq ?_
              refine runX_seq ?_
              refine runX_regionC fun C hC => ?_
              obtain ⟨g6, h⟩ := grd_some h
              obtain ⟨v7, h7, h⟩ := bnd_some h
              try simp -implicitDefEqProofs (maxSteps := 4000000) (disch := first | omega | decide | (simp only [go_sem]; omega)) only [go_sem, ↓reduceIte]
              repeat (with_reducible refine And.intro (by first | assumption | omega | (simp; done) | (simp; omega)) ?_)
              refine callG_X (by first | rfl | (simp only [go_sem]; done) | (simp only [closedL, closedT, Bool.and_true]; exact closedL_map _ (fun _ => by first | rfl | (simp only [go_sem]; done)) _)) (F70_ok m1 ((a0.getD x4.toNat 0).toNat : Int) _ h7) (by repeat (first | exact leL_refl _ | refine leL_cons (by first | exact leT_refl _ | exact leT_virt | exact leT_junk _ | exact leT_sl | exact leT_sln | exact leT_nil | (refine leT_agg (by repeat (first | exact leL_refl _ | refine leL_cons (by first | exact leT_refl _ | exact leT_sl | exact leT_sln | exact leT_nil) ?_)))) ?_)) ?_
              try simp -implicitDefEqProofs (maxSteps := 4000000) (disch := first | omega | decide | (simp only [go_sem]; omega)) only [go_sem, ↓reduceIte]
              repeat (with_reducible refine And.intro (by first | assumption | omega | (simp; done) | (simp; omega)) ?_)
              refine toEnd hC ?_
              refine endX_seq ?_
              rcases iteB_some h with ⟨c8, h⟩ | ⟨c8, h⟩
              · refine runX_condT rfl c8 ?_
                refine runX_seq ?_
                refine runX_regionC fun C hC => ?_
                try simp -implicitDefEqProofs (maxSteps := 4000000) (disch := first | omega | decide | (simp only [go_sem]; omega)) only [go_sem, ↓reduceIte]
                repeat (with_reducible refine And.intro (by first | assumption | omega | (simp; done) | (simp; omega)) ?_)
                refine toEnd hC ?_
                refine endX_seq ?_
                refine runX_ret ?_
                refine endX_seqR ?_
                refine endX_blkR ?_
                refine endX_seqR ?_
                refine endX_q (roundQ_ret ?_)
                refine endX_blkR ?_
                refine endX_seqR ?_
                refine endX_q ?_
                obtain rfl := Option.some.inj h
                show RetW _ _ _ _ _
                simp only [RetW]
                (try simp -implicitDefEqProofs (maxSteps := 4000000) (disch := first | omega | decide | (simp only [go_sem]; omega)) only [go_sem, ↓reduceIte])
                (try simp (disch := omega) only [if_pos, Nat.sub_zero])
                exact leT_refl _
              · refine runX_condF rfl c8 ?_
                refine runX_skip ?_
                refine endX_seq ?_
                refine runX_regionC fun C hC => ?_
                obtain ⟨g9, h⟩ := grd_some h
                try simp -implicitDefEqProofs (maxSteps := 4000000) (disch := first | omega | decide | (simp only [go_sem]; omega)) only [go_sem, ↓reduceIte]
                repeat (with_reducible refine And.intro (by first | assumption | omega | (simp; done) | (simp; omega)) ?_)
                refine toEnd hC ?_
                refine endX_blk ?_
                refine endX_seq ?_
                refine runX_regionC fun C hC => ?_
                try simp -implicitDefEqProofs (maxSteps := 4000000) (disch := first | omega | decide | (simp only [go_sem]; omega)) only [go_sem, ↓reduceIte]
                repeat (with_reducible refine And.intro (by first | assumption | omega | (simp; done) | (simp; omega)) ?_)
                refine toEnd hC ?_
                refine endX_q (roundQ_normal ⟨m1, by omega, F78_S1 a0 (IntKind.wrap .i64 ((IntKind.wrap .i64 (x3 * (10 : Int))) + (IntKind.wrap .i64 ((IntKind.wrap .u8 (((a0.getD x4.toNat 0).toNat : Int) - (48 : Int))))))) (IntKind.wrap .i64 (x4 + (1 : Int))), ?_, (IntKind.wrap .i64 ((IntKind.wrap .i64 (x3 * (10 : Int))) + (IntKind.wrap .i64 ((IntKind.wrap .u8 (((a0.getD x4.toNat 0).toNat : Int) - (48 : Int))))))), (IntKind.wrap .i64 (x4 + (1 : Int))), rfl, by omega, h⟩)
                simp only [F78_S1]
                (try simp -implicitDefEqProofs (maxSteps := 4000000) (disch := first | omega | decide | (simp only [go_sem]; omega)) only [go_sem, ↓reduceIte])
                first | exact leS_refl _ | (refine leS_le ?_ ?_ <;> first | exact leL_refl _ | exact leOs_refl _ | (simp only [List.append_assoc, List.cons_append, List.nil_append]; exact leOs_refl _) | (repeat (first | exact leL_refl _ | refine leL_cons (by first | exact leT_refl _ | exact leT_virt | exact leT_junk _ | exact leT_sl | exact leT_sln | exact leT_nil | (refine leT_agg (by repeat (first | exact leL_refl _ | refine leL_cons (by first | exact leT_refl _ | exact leT_sl | exact leT_sln | exact leT_nil) ?_)))) ?_)))
            · refine runX_condF rfl c5 ?_
              refine runX_exit ?_
              refine endX_seqE ?_
              refine endX_q (roundQ_exit ?_)
              refine endX_blkE ?_
              refine endX_seq ?_
              refine runX_seq ?_
              refine runX_regionC fun C hC => ?_
              try simp -implicitDefEqProofs (maxSteps := 4000000) (disch := first | omega | decide | (simp only [go_sem]; omega)) only [go_sem, ↓reduceIte]
              repeat (with_reducible refine And.intro (by first | assumption | omega | (simp; done) | (simp; omega)) ?_)
              refine toEnd hC ?_
              refine endX_seq ?_
              refine runX_ret ?_
              refine endX_q ?_
              obtain rfl := Option.some.inj h
              show RetW _ _ _ _ _
              simp only [RetW]
              (try simp -implicitDefEqProofs (maxSteps := 4000000) (disch := first | omega | decide | (simp only [go_sem]; omega)) only [go_sem, ↓reduceIte])
              (try simp (disch := omega) only [if_pos, Nat.sub_zero])
              exact leT_refl _
end Go.Proofs.YtaiapalhdejngaaX

/- hex.ReadDecimal. -/
set_option linter.unusedVariables false
set_option linter.unusedSimpArgs false
namespace Go.Proofs.YtaiapalhdejngaaX
open Go

def decP : List UInt8 → Int → Int × Bool
  | [], n => (n, true)
  | c :: l, n => if kindOf (c.toNat : Int) = 1 then decP l (n * 10 + ((c.toNat : Int) - 48)) else (0, false)
theorem kind_one {c : Int} (h : kindOf c = 1) : 48 ≤ c ∧ c ≤ 57 := by
  unfold kindOf at h
  split at h
  · assumption
  · split at h
    · omega
    · split at h
      · omega
      · split at h <;> omega
theorem pow10 (i : Nat) (h : i ≤ 17) : 1 ≤ (10 : Int) ^ i ∧ (10 : Int) ^ i ≤ 100000000000000000 ∧ (10 : Int) ^ (i + 1) = 10 ^ i * 10 := by
  have h1 : (10 : Nat) ^ i ≤ 10 ^ 17 := Nat.pow_le_pow_right (by omega) h
  have h2 : 1 ≤ (10 : Nat) ^ i := Nat.pos_of_ne_zero (by simp)
  have h3 : ((10 : Nat) ^ i : Nat) = ((10 : Int) ^ i) := by simp
  refine ⟨by omega, by omega, Int.pow_succ _ _⟩
theorem ev_dec_l (l : List UInt8) (hl : l.length ≤ 18) : ∀ (d i : Nat) (x : Int), i + d = l.length → 0 ≤ x ∧ x < (10 : Int) ^ i → Ev (fun k => F78_L1 k l x (i : Int)) (decP (l.drop i) x) := by
  intro d
  induction d with
  | zero =>
    intro i x hi hx
    rw [List.drop_of_length_le (by omega)]
    refine Ev.step (Ev.pure.congr fun k => ?_)
    rw [F78_L1, decide_eq_false (by omega), iteB_f]; rfl
  | succ d ih =>
    intro i x hi hx
    rw [drop_cons l i 0 (by omega), decP]
    obtain ⟨p1, p2, p3⟩ := pow10 i (by omega)
    have hb := u8_lt (l.getD i 0)
    have w1 : IntKind.wrap .i64 ((i : Int) + 1) = ((i + 1 : Nat) : Int) := by rw [w64 (by omega)]; omega
    generalize hc : l.getD i 0 = c at *
    by_cases hk : kindOf (c.toNat : Int) = 1
    · rw [if_pos hk]
      have hk' := kind_one hk
      have e := ih (i + 1) (x * 10 + ((c.toNat : Int) - 48)) (by omega) (by rw [p3]; omega)
      refine Ev.step (e.congr fun k => ?_)
      rw [F78_L1, decide_eq_true (by omega), iteB_t, grd_t _ (by omega), toNat_nat, hc, F70, bind_some', hk]
      show iteB false _ _ = _
      rw [iteB_f, grd_t _ (by omega), wu8 (by omega), w64 (n := (c.toNat : Int) - 48) (by omega), w64 (n := x * 10) (by omega), w64 (n := x * 10 + _) (by omega), w1]
    · rw [if_neg hk]
      refine Ev.step (Ev.pure.congr fun k => ?_)
      rw [F78_L1, decide_eq_true (by omega), iteB_t, grd_t _ (by omega), toNat_nat, hc, F70, bind_some', show (kindOf (c.toNat : Int) != 1) = true by rw [bne_iff_ne]; exact hk, iteB_t]
def readD (l : List UInt8) : Int × Bool := if l = [] ∨ 18 < l.length then (0, false) else decP l 0
theorem ev_ReadDecimal (l : List UInt8) : Ev (fun k => F78 k l) (readD l) := by
  unfold readD
  cases l with
  | nil => rw [if_pos (Or.inl rfl)]; exact Ev.pure.congr fun k => rfl
  | cons a l =>
    by_cases h : 18 < (a :: l).length
    · rw [if_pos (Or.inr h)]
      refine Ev.pure.congr fun k => ?_
      rw [F78, show ((a :: l) == []) = false by rfl, iteB_f, decide_eq_true (by omega), iteB_t]
    · rw [if_neg (by simp only [reduceCtorEq, false_or]; exact h)]
      have e := ev_dec_l (a :: l) (by omega) (a :: l).length 0 0 (by omega) (by decide)
      refine e.congr fun k => ?_
      rw [F78, show ((a :: l) == []) = false by rfl, iteB_f, decide_eq_false (by omega), iteB_f]; rfl
theorem decP_bd : ∀ (l : List UInt8) (x : Int) (m : Nat), 0 ≤ x → x < (10 : Int) ^ m → m + l.length ≤ 18 → 0 ≤ (decP l x).1 ∧ (decP l x).1 ≤ 1000000000000000000
  | [], x, m, h0, h, hl => by
    have h1 : (10 : Nat) ^ m ≤ 10 ^ 18 := Nat.pow_le_pow_right (by omega) (by simpa using hl)
    have h3 : ((10 : Nat) ^ m : Nat) = ((10 : Int) ^ m) := by simp
    rw [decP]; dsimp only; omega
  | c :: l, x, m, h0, h, hl => by
    rw [decP]
    rw [List.length_cons] at hl
    obtain ⟨p1, p2, p3⟩ := pow10 m (by omega)
    by_cases hk : kindOf (c.toNat : Int) = 1
    · have hk' := kind_one hk
      rw [if_pos hk]
      exact decP_bd l _ (m + 1) (by omega) (by rw [p3]; omega) (by omega)
    · rw [if_neg hk]; dsimp only; omega
theorem readD_bd (l : List UInt8) : 0 ≤ (readD l).1 ∧ (readD l).1 ≤ 1000000000000000000 := by
  unfold readD
  split
  · dsimp only; omega
  · exact decP_bd l 0 0 (by omega) (by decide) (by omega)

end Go.Proofs.YtaiapalhdejngaaX

/- hex.Decimal: what it answers. -/
set_option linter.unusedVariables false
set_option linter.unusedSimpArgs false
namespace Go.Proofs.YtaiapalhdejngaaX
open Go

/-- The digits of a number, the last one first. -/
def dgR (n : Nat) : List Int := if n < 10 then [48 + (n : Int)] else (48 + ((n % 10 : Nat) : Int)) :: dgR (n / 10)
theorem dgR_lt {n : Nat} (h : n < 10) : dgR n = [48 + (n : Int)] := by rw [dgR, if_pos h]
theorem dgR_ge {n : Nat} (h : ¬ n < 10) : dgR n = (48 + ((n % 10 : Nat) : Int)) :: dgR (n / 10) := by rw [dgR, if_neg h]
theorem dgR_len : ∀ (k n : Nat), n < 10 ^ (k + 1) → (dgR n).length ≤ k + 1
  | 0, n, h => by rw [dgR_lt (by omega)]; simp
  | k + 1, n, h => by
    by_cases h1 : n < 10
    · rw [dgR_lt h1]; simp
    · rw [dgR_ge h1, List.length_cons]
      have := dgR_len k (n / 10) (by rw [Nat.pow_succ] at h; omega)
      omega
theorem dgR_pos (n : Nat) : 0 < (dgR n).length := by
  by_cases h : n < 10
  · rw [dgR_lt h]; simp
  · rw [dgR_ge h]; simp
/-- A number's text. -/
def decI (n : Int) : List Int := (if n < 0 then dgR n.natAbs ++ [45] else dgR n.natAbs).reverse
def decT (n : Int) : List UInt8 := (decI n).map toB

def rvI (l0 : List Int) (i : Nat) (l : List Int) : Prop := l.length = l0.length ∧ ∀ k, k < l0.length → l.getD k 0 = if k < i ∨ l0.length - i ≤ k then l0.getD (l0.length - 1 - k) 0 else l0.getD k 0
theorem rv_end {l0 l : List Int} {i : Nat} (h : rvI l0 i l) (hi : l0.length ≤ 2 * i + 1) : l = l0.reverse := by
  obtain ⟨h1, h2⟩ := h
  apply List.ext_getElem
  · rw [h1, List.length_reverse]
  · intro k hk1 hk2
    have hk : k < l0.length := by omega
    have h3 := h2 k hk
    rw [List.getD_eq_getElem?_getD, List.getElem?_eq_getElem hk1] at h3
    rw [List.getElem_reverse]
    rw [show l[k] = (some l[k]).getD 0 from rfl, h3]
    split
    · rw [List.getD_eq_getElem?_getD, List.getElem?_eq_getElem (by omega)]; rfl
    · have e : l0.length - 1 - k = k := by omega
      rw [List.getD_eq_getElem?_getD, List.getElem?_eq_getElem (by omega)]
      simp only [e]; rfl
theorem rv_step {l0 l : List Int} {i j : Nat} (h : rvI l0 i l) (hj : i + j + 1 = l0.length) (hij : i < j) : rvI l0 (i + 1) ((l.set i (l.getD j 0)).set j (l.getD i 0)) := by
  obtain ⟨h1, h2⟩ := h
  refine ⟨by simp [h1], fun k hk => ?_⟩
  have gi := h2 i (by omega)
  have gj := h2 j (by omega)
  rw [if_neg (by omega)] at gi gj
  rw [List.getD_eq_getElem?_getD, List.getElem?_set]
  by_cases hkj : j = k
  · subst hkj
    rw [if_pos rfl, List.length_set, if_pos (by omega), Option.getD_some, gi, if_pos (by omega), show l0.length - 1 - j = i by omega]
  · rw [if_neg hkj, List.getElem?_set]
    by_cases hki : i = k
    · subst hki
      rw [if_pos rfl, if_pos (by omega), Option.getD_some, gj, if_pos (by omega), show l0.length - 1 - i = j by omega]
    · rw [if_neg hki, ← List.getD_eq_getElem?_getD, h2 k hk]
      by_cases hc : k < i ∨ l0.length - i ≤ k
      · rw [if_pos hc, if_pos (by omega)]
      · rw [if_neg hc, if_neg (by omega)]
theorem ev_rev (l0 : List Int) (hl : l0.length ≤ 1000) : ∀ (d i : Nat) (l : List Int), l0.length ≤ 2 * i + d → i ≤ l0.length → rvI l0 i l →
    Ev (fun n => F55_L4 n (i : Int) ((l0.length : Int) - 1 - i) l) (l0.reverse.map toB) := by
  intro d
  induction d with
  | zero =>
    intro i l hd hi h
    refine Ev.step (Ev.pure.congr fun n => ?_)
    have d1 : decide ((i : Int) < (l0.length : Int) - 1 - i) = false := decide_eq_false (by omega)
    simp only [F55_L4, d1, iteB_f]
    rw [rv_end h (by omega)]
  | succ d ih =>
    intro i l hd hi h
    refine Ev.step ?_
    by_cases hlt : (i : Int) < (l0.length : Int) - 1 - i
    · obtain ⟨j, hj⟩ : ∃ j : Nat, (l0.length : Int) - 1 - i = j := ⟨((l0.length : Int) - 1 - i).toNat, by omega⟩
      have d1 : decide ((i : Int) < (j : Int)) = true := decide_eq_true (by omega)
      have hll := h.1
      have w1 : IntKind.wrap .i64 ((i : Int) + 1) = ((i + 1 : Nat) : Int) := by rw [w64 (by omega)]; omega
      have w2 : IntKind.wrap .i64 ((j : Int) - 1) = (l0.length : Int) - 1 - ((i + 1 : Nat) : Int) := by rw [w64 (by omega)]; omega
      have e := ih (i + 1) _ (by omega) (by omega) (rv_step (j := j) h (by omega) (by omega))
      rw [hj]
      refine e.congr fun n => ?_
      simp only [F55_L4, d1, iteB_t, toNat_nat, w1, w2]
      have g1 : (0 ≤ (j : Int) ∧ (j : Int) < (l.length : Int)) := by omega
      have g2 : (0 ≤ (i : Int) ∧ (i : Int) < (l.length : Int)) := by omega
      have g3 : j < l.length := by omega
      have g4 : i < l.length := by omega
      rw [grd_t _ g1, grd_t _ g3, grd_t _ g2, grd_t _ g4, grd_t _ g2, grd_t _ g4, grd_t _ g1, grd_t _ g3]
      rfl
    · refine Ev.pure.congr fun n => ?_
      have d1 : decide ((i : Int) < (l0.length : Int) - 1 - i) = false := decide_eq_false hlt
      simp only [F55_L4, d1, iteB_f]
      rw [rv_end h (by omega)]
theorem ev_J3 (l : List Int) (h0 : 0 < l.length) (hl : l.length ≤ 1000) : Ev (fun n => F55_J3 n l) (l.reverse.map toB) := by
  have w1 : IntKind.wrap .i64 ((l.length : Int) - 1) = (l.length : Int) - 1 - ((0 : Nat) : Int) := by rw [w64 (by omega)]; omega
  refine (ev_rev l hl l.length 0 l (by omega) (by omega) ⟨rfl, fun k hk => by rw [if_neg (by omega)]⟩).congr fun n => ?_
  simp only [F55_J3, w1]; rfl
theorem digitAt (r : Nat) (h : r < 10) : ((([48, 49, 50, 51, 52, 53, 54, 55, 56, 57, 97, 98, 99, 100, 101, 102] : List UInt8).getD r 0).toNat : Int) = 48 + r := by
  have : ∀ r : Fin 10, ((([48, 49, 50, 51, 52, 53, 54, 55, 56, 57, 97, 98, 99, 100, 101, 102] : List UInt8).getD r.val 0).toNat : Int) = 48 + r.val := by decide
  exact this ⟨r, h⟩
theorem ev_digs (a : Int) : ∀ (k m : Nat) (l : List Int), m < 10 ^ (k + 1) → m < 10000000000000000000 → l.length + k ≤ 100 → Ev (fun n => F55_L2 n a (m : Int) l) ((if a < 0 then l ++ dgR m ++ [45] else l ++ dgR m).reverse.map toB) := by
  intro k
  induction k with
  | zero =>
    intro m l hm hb hl
    have hm' : m < 10 := by omega
    refine Ev.step ?_
    have e1 : (m : Int).tmod 10 = m := by rw [Int.tmod_eq_emod_of_nonneg (by omega)]; omega
    have e2 : (m : Int).tdiv 10 = 0 := by rw [Int.tdiv_eq_ediv_of_nonneg (by omega)]; omega
    have e3 : (IntKind.wrap .u64 0 == (0 : Int)) = true := by rw [wu64 (by omega)]; rfl
    rw [dgR_lt hm']
    by_cases ha : a < 0
    · rw [if_pos ha]
      refine (ev_J3 (l ++ [48 + (m : Int)] ++ [45]) (by simp) (by simp; omega)).congr fun n => ?_
      simp only [F55_L2, e1, e2, e3, toNat_nat, digitAt m hm', decide_eq_true ha, iteB_t]
      rw [grd_t _ (by omega), grd_t _ (by omega), grd_t _ (by omega)]
    · rw [if_neg ha]
      refine (ev_J3 (l ++ [48 + (m : Int)]) (by simp) (by simp; omega)).congr fun n => ?_
      simp only [F55_L2, e1, e2, e3, toNat_nat, digitAt m hm', decide_eq_false ha, iteB_t, iteB_f]
      rw [grd_t _ (by omega), grd_t _ (by omega)]
  | succ k ih =>
    intro m l hm hb hl
    by_cases hm' : m < 10
    · have := ih m l (by have : 10 ^ 1 ≤ 10 ^ (k + 1) := Nat.pow_le_pow_right (by omega) (by omega); omega) hb (by omega)
      exact this
    refine Ev.step ?_
    have e1 : (m : Int).tmod 10 = ((m % 10 : Nat) : Int) := by rw [Int.tmod_eq_emod_of_nonneg (by omega)]; omega
    have e2 : (m : Int).tdiv 10 = ((m / 10 : Nat) : Int) := by rw [Int.tdiv_eq_ediv_of_nonneg (by omega)]; omega
    have e4 : IntKind.wrap .u64 ((m / 10 : Nat) : Int) = ((m / 10 : Nat) : Int) := wu64 (by omega)
    have e3 : (((m / 10 : Nat) : Int) == (0 : Int)) = false := by rw [beq_eq_false_iff_ne]; omega
    have := ih (m / 10) (l ++ [48 + ((m % 10 : Nat) : Int)]) (by rw [Nat.pow_succ] at hm; omega) (by omega) (by simp; omega)
    rw [dgR_ge hm']
    rw [show (if a < 0 then l ++ (48 + ((m % 10 : Nat) : Int)) :: dgR (m / 10) ++ [45] else l ++ (48 + ((m % 10 : Nat) : Int)) :: dgR (m / 10)) = (if a < 0 then l ++ [48 + ((m % 10 : Nat) : Int)] ++ dgR (m / 10) ++ [45] else l ++ [48 + ((m % 10 : Nat) : Int)] ++ dgR (m / 10)) by simp]
    refine this.congr fun n => ?_
    simp only [F55_L2, e1, e2, e4, e3, toNat_nat, digitAt (m % 10) (by omega), iteB_f]
    rw [grd_t _ (by omega), grd_t _ (by omega)]
theorem ev_Decimal (a : Int) (h : -9223372036854775808 ≤ a ∧ a ≤ 9223372036854775807) : Ev (fun n => F55 n a) (decT a) := by
  have hd := ev_digs a 19 a.natAbs [] (by omega) (by omega) (by simp)
  simp only [List.nil_append] at hd
  unfold decT decI
  refine hd.congr fun n => ?_
  have hw : ∀ x : Int, IntKind.wrap .u64 x = x % 18446744073709551616 := fun x => rfl
  by_cases ha : a < 0
  · have e : IntKind.wrap .u64 (0 - IntKind.wrap .u64 a) = (a.natAbs : Int) := by rw [hw, hw]; omega
    simp only [F55, F55_J1, decide_eq_true ha, iteB_t, e]
  · have e : IntKind.wrap .u64 a = (a.natAbs : Int) := by rw [hw]; omega
    simp only [F55, F55_J1, decide_eq_false ha, iteB_f, e]
end Go.Proofs.YtaiapalhdejngaaX

set_option linter.unusedVariables false
set_option linter.unusedSimpArgs false
namespace Go.Proofs.YtaiapalhdejngaaX
open Go Go.RowKit Go.Proofs
set_option maxRecDepth 100000
attribute [local go_sem ↓] stepsK_build stepsK_build0 stepsK_bs stepsK_bs0 appendS
attribute [local go_sem] String.reduceEq String.reduceNe reduceCtorEq Int.reduceEq Nat.reduceAdd Nat.reduceSub Nat.reduceMul Nat.reduceLT Nat.reduceLeDiff Nat.reduceEqDiff Nat.reduceBEq Int.reduceToNat Int.reduceLT Int.reduceLE Int.reduceGT Int.reduceGE Int.reduceAdd Int.reduceSub Int.reduceMul Int.reduceNeg Int.reduceBEq Int.reduceBNe Int.reducePow Int.reduceDiv Int.reduceMod Int.reduceTDiv Int.reduceTMod Int.reduceNatCast
/-! ### shadowboxref04.ReadDecimal -/
def F59_S1 (a0 : List UInt8) (x3 : Int) (x4 : Int) : St := ⟨[.imm (.string (bs a0)), .junk, .junk, .junk, .imm (.int .i64 x3), .imm (.int .i64 x4), .junk, .junk, .junk, .junk, .junk, .junk, .junk, .junk, .junk, .junk, .junk, .junk, .junk, .junk, .junk, .junk, .junk, .junk, .junk, .junk, .junk, .junk, .junk, .junk, .junk, .junk, .junk], []⟩
def F59_L1 : Nat → (List UInt8) → (Int) → (Int) → Option ((Int) × (Bool))
  | 0, _, _, _ => none
  | m1 + 1, a0, x3, x4 => iteB (decide (x4 < (a0.length : Int))) (grd (0 ≤ x4 ∧ x4 < (a0.length : Int)) ((F71 m1 ((a0.getD x4.toNat 0).toNat : Int)).bind fun v7 => iteB (v7 != (1 : Int)) (some ((0 : Int), false)) (grd (0 ≤ x4 ∧ x4 < (a0.length : Int)) ((F94 m1 ((a0.getD x4.toNat 0).toNat : Int)).bind fun v10 => F59_L1 m1 a0 (IntKind.wrap .i64 ((IntKind.wrap .i64 (x3 * (10 : Int))) + v10)) (IntKind.wrap .i64 (x4 + (1 : Int))))))) (some (x3, true))
def F59 (n : Nat) (a0 : List UInt8) : Option ((Int) × (Bool)) := iteB ((a0.length : Int) == (0 : Int)) (some ((0 : Int), false)) (iteB (decide ((18 : Int) < (a0.length : Int))) (some ((0 : Int), false)) (F59_L1 n a0 (0 : Int) (0 : Int)))
set_option maxHeartbeats 4000000 in
theorem F59_ok : ∀ (n : Nat) (a0 : List UInt8) (r : (Int) × (Bool)), F59 n a0 = some r → FnC Try.prog 59 [.imm (.string (bs a0))] (.tup [.imm (.int .i64 r.1), .imm (.bool r.2)])
  | n, a0, r, h => by
    unfold F59 at h
    refine FnC.goX mixed Try.func59 (by kernel_rfl) rfl ?_
    simp only [Try.ntmps59, List.length_cons, List.length_nil, List.replicate, List.cons_append, List.nil_append, Nat.reduceAdd, Nat.reduceSub]
    refine runX_seq ?_
    refine runX_regionC fun C hC => ?_
    try simp -implicitDefEqProofs (maxSteps := 4000000) (disch := first | omega | decide | (simp only [go_sem]; omega)) only [go_sem, ↓reduceIte]
    repeat (with_reducible refine And.intro (by first | assumption | omega | (simp; done) | (simp; omega)) ?_)
    refine toEnd hC ?_
    refine endX_seq ?_
    refine runX_seq ?_
    refine runX_seq ?_
    refine runX_regionC fun C hC => ?_
    try simp -implicitDefEqProofs (maxSteps := 4000000) (disch := first | omega | decide | (simp only [go_sem]; omega)) only [go_sem, ↓reduceIte]
    repeat (with_reducible refine And.intro (by first | assumption | omega | (simp; done) | (simp; omega)) ?_)
    rcases iteB_some h with ⟨c1, h⟩ | ⟨c1, h⟩
    · refine guardK_F c1 ?_
      try simp -implicitDefEqProofs (maxSteps := 4000000) (disch := first | omega | decide | (simp only [go_sem]; omega)) only [go_sem, ↓reduceIte]
      repeat (with_reducible refine And.intro (by first | assumption | omega | (simp; done) | (simp; omega)) ?_)
      refine toEnd hC ?_
      refine endX_seq ?_
      refine runX_condT rfl rfl ?_
      refine runX_seq ?_
      refine runX_regionC fun C hC => ?_
      try simp -implicitDefEqProofs (maxSteps := 4000000) (disch := first | omega | decide | (simp only [go_sem]; omega)) only [go_sem, ↓reduceIte]
      repeat (with_reducible refine And.intro (by first | assumption | omega | (simp; done) | (simp; omega)) ?_)
      refine toEnd hC ?_
      refine endX_seq ?_
      refine runX_ret ?_
      refine endX_seqR ?_
      refine endX_q ?_
      obtain rfl := Option.some.inj h
      show RetW _ _ _ _ _
      simp only [RetW]
      (try simp -implicitDefEqProofs (maxSteps := 4000000) (disch := first | omega | decide | (simp only [go_sem]; omega)) only [go_sem, ↓reduceIte])
      (try simp (disch := omega) only [if_pos, Nat.sub_zero])
      exact leT_refl _
    · refine guardK_T c1 ?_
      try simp -implicitDefEqProofs (maxSteps := 4000000) (disch := first | omega | decide | (simp only [go_sem]; omega)) only [go_sem, ↓reduceIte]
      repeat (with_reducible refine And.intro (by first | assumption | omega | (simp; done) | (simp; omega)) ?_)
      refine toEnd hC ?_
      refine endX_seq ?_
      rcases iteB_some h with ⟨c2, h⟩ | ⟨c2, h⟩
      · refine runX_condT rfl c2 ?_
        refine runX_seq ?_
        refine runX_regionC fun C hC => ?_
        try simp -implicitDefEqProofs (maxSteps := 4000000) (disch := first | omega | decide | (simp only [go_sem]; omega)) only [go_sem, ↓reduceIte]
        repeat (with_reducible refine And.intro (by first | assumption | omega | (simp; done) | (simp; omega)) ?_)
        refine toEnd hC ?_
        refine endX_seq ?_
        refine runX_ret ?_
        refine endX_seqR ?_
        refine endX_q ?_
        obtain rfl := Option.some.inj h
        show RetW _ _ _ _ _
        simp only [RetW]
        (try simp -implicitDefEqProofs (maxSteps := 4000000) (disch := first | omega | decide | (simp only [go_sem]; omega)) only [go_sem, ↓reduceIte])
        (try simp (disch := omega) only [if_pos, Nat.sub_zero])
        exact leT_refl _
      · refine runX_condF rfl c2 ?_
        refine runX_skip ?_
        refine endX_seq ?_
        refine runX_seq ?_
        refine runX_regionC fun C hC => ?_
        try simp -implicitDefEqProofs (maxSteps := 4000000) (disch := first | omega | decide | (simp only [go_sem]; omega)) only [go_sem, ↓reduceIte]
        repeat (with_reducible refine And.intro (by first | assumption | omega | (simp; done) | (simp; omega)) ?_)
        refine toEnd hC ?_
        refine endX_seq ?_
        refine runX_seq ?_
        refine runX_seq ?_
        refine runX_regionC fun C hC => ?_
        try simp -implicitDefEqProofs (maxSteps := 4000000) (disch := first | omega | decide | (simp only [go_sem]; omega)) only [go_sem, ↓reduceIte]
        repeat (with_reducible refine And.intro (by first | assumption | omega | (simp; done) | (simp; omega)) ?_)
        refine toEnd hC ?_
        refine endX_seq ?_
        refine runX_block ?_
        refine runX_loop [0, 4, 5] (fun m S => ∃ (x3 : Int) (x4 : Int), S = F59_S1 a0 x3 x4 ∧ m ≤ n ∧ F59_L1 m a0 x3 x4 = some r) n ⟨F59_S1 a0 (0 : Int) (0 : Int), ?_, (0 : Int), (0 : Int), rfl, Nat.le_refl _, h⟩ ?_
        · simp only [F59_S1]
          (try simp -implicitDefEqProofs (maxSteps := 4000000) (disch := first | omega | decide | (simp only [go_sem]; omega)) only [go_sem, ↓reduceIte])
          first | exact leS_refl _ | (refine leS_le ?_ ?_ <;> first | exact leL_refl _ | exact leOs_refl _ | (simp only [List.append_assoc, List.cons_append, List.nil_append]; exact leOs_refl _) | (repeat (first | exact leL_refl _ | refine leL_cons (by first | exact leT_refl _ | exact leT_virt | exact leT_junk _ | exact leT_sl | exact leT_sln | exact leT_nil | (refine leT_agg (by repeat (first | exact leL_refl _ | refine leL_cons (by first | exact leT_refl _ | exact leT_sl | exact leT_sln | exact leT_nil) ?_)))) ?_)))
        · clear h
          rintro m1 S ⟨x3, x4, rfl, hm1, h⟩
          cases m1 with
          | zero => first | cases (show (none : Option _) = some _ from h) | (rw [F59_L1] at h; cases h)
          | succ m1 =>
            rw [F59_L1] at h
            simp only [F59_S1]
            refine runX_seq ?_
            refine runX_seq ?_
            refine runX_regionC fun C hC => ?_
            try simp -implicitDefEqProofs (maxSteps := 4000000) (disch := first | omega | decide | (simp only [go_sem]; omega)) only [go_sem, ↓reduceIte]
            repeat (with_reducible refine And.intro (by first | assumption | omega | (simp; done) | (simp; omega)) ?_)
            refine toEnd hC ?_
            refine endX_seq ?_
            rcases iteB_some h with ⟨c5, h⟩ | ⟨c5, h⟩
            · refine runX_condT rfl c5 ?_
              refine runX_skip ?_
              refine endX_seq ?_
              refine runX_seq ?_
              refine runX_block ?_
              refine runX_seq ?_
              refine runX_seq ?_
              refine runX_regionC fun C hC => ?_
              obtain ⟨g6, h⟩ := grd_some h
              obtain ⟨v7, h7, h⟩ := bnd_some h
              try simp -implicitDefEqProofs (maxSteps := 4000000) (disch := first | omega | decide | (simp only [go_sem]; omega)) only [go_sem, ↓reduceIte]
              repeat (with_reducible refine And.intro (by first | assumption | omega | (simp; done) | (simp; omega)) ?_)
              refine callG_X (by first | rfl | (simp only [go_sem]; done) | (simp only [closedL, closedT, Bool.and_true]; exact closedL_map _ (fun _ => by first | rfl | (simp only [go_sem]; done)) _)) (F71_ok m1 ((a0.getD x4.toNat 0).toNat : Int) _ h7) (by repeat (first | exact leL_refl _ | refine leL_cons (by first | exact leT_refl _ | exact leT_virt | exact leT_junk _ | exact leT_sl | exact leT_sln | exact leT_nil | (refine leT_agg (by repeat (first | exact leL_refl _ | refine leL_cons (by first | exact leT_refl _ | exact leT_sl | exact leT_sln | exact leT_nil) ?_)))) ?_)) ?_
              try simp -implicitDefEqProofs (maxSteps := 4000000) (disch := first | omega | decide | (simp only [go_sem]; omega)) only [go_sem, ↓reduceIte]
              repeat (with_reducible refine And.intro (by first | assumption | omega | (simp; done) | (simp; omega)) ?_)
              refine toEnd hC ?_
              refine endX_seq ?_
              rcases iteB_some h with ⟨c8, h⟩ | ⟨c8, h⟩
              · refine runX_condT rfl c8 ?_
                refine runX_seq ?_
                refine runX_regionC fun C hC => ?_
                try simp -implicitDefEqProofs (maxSteps := 4000000) (disch := first | omega | decide | (simp only [go_sem]; omega)) only [go_sem, ↓reduceIte]
                repeat (with_reducible refine And.intro (by first | assumption | omega | (simp; done) | (simp; omega)) ?_)
                refine toEnd hC ?_
                refine endX_seq ?_
                refine runX_ret ?_
                refine endX_seqR ?_
                refine endX_blkR ?_
                refine endX_seqR ?_
                refine endX_q (roundQ_ret ?_)
                refine endX_blkR ?_
                refine endX_seqR ?_
                refine endX_q ?_
                obtain rfl := Option.some.inj h
                show RetW _ _ _ _ _
                simp only [RetW]
                (try simp -implicitDefEqProofs (maxSteps := 4000000) (disch := first | omega | decide | (simp only [go_sem]; omega)) only [go_sem, ↓reduceIte])
                (try simp (disch := omega) only [if_pos, Nat.sub_zero])
                exact leT_refl _
              · refine runX_condF rfl c8 ?_
                refine runX_skip ?_
                refine endX_seq ?_
                refine runX_regionC fun C hC => ?_
                obtain ⟨g9, h⟩ := grd_some h
                obtain ⟨v10, h10, h⟩ := bnd_some h
                try simp -implicitDefEqProofs (maxSteps := 4000000) (disch := first | omega | decide | (simp only [go_sem]; omega)) only [go_sem, ↓reduceIte]
                repeat (with_reducible refine And.intro (by first | assumption | omega | (simp; done) | (simp; omega)) ?_)
                refine callG_X (by first | rfl | (simp only [go_sem]; done) | (simp only [closedL, closedT, Bool.and_true]; exact closedL_map _ (fun _ => by first | rfl | (simp only [go_sem]; done)) _)) (F94_ok m1 ((a0.getD x4.toNat 0).toNat : Int) _ h10) (by repeat (first | exact leL_refl _ | refine leL_cons (by first | exact leT_refl _ | exact leT_virt | exact leT_junk _ | exact leT_sl | exact leT_sln | exact leT_nil | (refine leT_agg (by repeat (first | exact leL_refl _ | refine leL_cons (by first | exact leT_refl _ | exact leT_sl | exact leT_sln | exact leT_nil) ?_)))) ?_)) ?_
                try simp -implicitDefEqProofs (maxSteps := 4000000) (disch := first | omega | decide | (simp only [go_sem]; omega)) only [go_sem, ↓reduceIte]
                repeat (with_reducible refine And.intro (by first | assumption | omega | (simp; done) | (simp; omega)) ?_)
                refine toEnd hC ?_
                refine endX_blk ?_
                refine endX_seq ?_
                refine runX_regionC fun C hC => ?_
                try simp -implicitDefEqProofs (maxSteps := 4000000) (disch := first | omega | decide | (simp only [go_sem]; omega)) only [go_sem, ↓reduceIte]
                repeat (with_reducible refine And.intro (by first | assumption | omega | (simp; done) | (simp; omega)) ?_)
                refine toEnd hC ?_
                refine endX_q (roundQ_normal ⟨m1, by omega, F59_S1 a0 (IntKind.wrap .i64 ((IntKind.wrap .i64 (x3 * (10 : Int))) + v10)) (IntKind.wrap .i64 (x4 + (1 : Int))), ?_, (IntKind.wrap .i64 ((IntKind.wrap .i64 (x3 * (10 : Int))) + v10)), (IntKind.wrap .i64 (x4 + (1 : Int))), rfl, by omega, h⟩)
                simp only [F59_S1]
                (try simp -implicitDefEqProofs (maxSteps := 4000000) (disch := first | omega | decide | (simp only [go_sem]; omega)) only [go_sem, ↓reduceIte])
                first | exact leS_refl _ | (refine leS_le ?_ ?_ <;> first | exact leL_refl _ | exact leOs_refl _ | (simp only [List.append_assoc, List.cons_append, List.nil_append]; exact leOs_refl _) | (repeat (first | exact leL_refl _ | refine leL_cons (by first | exact leT_refl _ | exact leT_virt | exact leT_junk _ | exact leT_sl | exact leT_sln | exact leT_nil | (refine leT_agg (by repeat (first | exact leL_refl _ | refine leL_cons (by first | exact leT_refl _ | exact leT_sl | exact leT_sln | exact leT_nil) ?_)))) ?_)))
            · refine runX_condF rfl c5 ?_
              refine runX_exit ?_
              refine endX_seqE ?_
              refine endX_q (roundQ_exit ?_)
              refine endX_blkE ?_
              refine endX_seq ?_
              refine runX_seq ?_
              refine runX_regionC fun C hC => ?_
              try simp -implicitDefEqProofs (maxSteps := 4000000) (disch := first | omega | decide | (simp only [go_sem]; omega)) only [go_sem, ↓reduceIte]
              repeat (with_reducible refine And.intro (by first | assumption | omega | (simp; done) | (simp; omega)) ?_)
              refine toEnd hC ?_
              refine endX_seq ?_
              refine runX_ret ?_
              refine endX_q ?_
              obtain rfl := Option.some.inj h
              show RetW _ _ _ _ _
              simp only [RetW]
              (try simp -implicitDefEqProofs (maxSteps := 4000000) (disch := first | omega | decide | (simp only [go_sem]; omega)) only [go_sem, ↓reduceIte])
              (try simp (disch := omega) only [if_pos, Nat.sub_zero])
              exact leT_refl _
end Go.Proofs.YtaiapalhdejngaaX

/- The reference's digits and numbers. -/
set_option linter.unusedVariables false
set_option linter.unusedSimpArgs false
namespace Go.Proofs.YtaiapalhdejngaaX
open Go

theorem kind_fin : ∀ c : Fin 256, F71 0 (c.val : Int) = some (kindOf (c.val : Int)) := by decide +kernel
theorem rKind_eq (n : Nat) (c : UInt8) : F71 n (c.toNat : Int) = some (kindOf (c.toNat : Int)) := kind_fin ⟨c.toNat, c.toNat_lt⟩
theorem rDig_fin : ∀ r : Fin 10, ((([48, 49, 50, 51, 52, 53, 54, 55, 56, 57, 97, 98, 99, 100, 101, 102] : List UInt8).take (r.val + 1)).drop r.val) = [toB (48 + (r.val : Int))] := by decide +kernel
theorem rDig_eq (n r : Nat) (h : r < 10) : F58 n (r : Int) = some [toB (48 + (r : Int))] := by
  have w1 : IntKind.wrap .i64 ((r : Int) + 1) = ((r + 1 : Nat) : Int) := by rw [w64 (by omega)]; omega
  rw [F58, w1, grd_t _ (by omega), toNat_nat, toNat_nat]
  exact congrArg some (rDig_fin ⟨r, h⟩)
theorem ev_rdec_l (l : List UInt8) (hl : l.length ≤ 18) : ∀ (d i : Nat) (x : Int), i + d = l.length → 0 ≤ x ∧ x < (10 : Int) ^ i → Ev (fun k => F59_L1 k l x (i : Int)) (decP (l.drop i) x) := by
  intro d
  induction d with
  | zero =>
    intro i x hi hx
    rw [List.drop_of_length_le (by omega)]
    refine Ev.step (Ev.pure.congr fun k => ?_)
    rw [F59_L1, decide_eq_false (by omega), iteB_f]; rfl
  | succ d ih =>
    intro i x hi hx
    rw [drop_cons l i 0 (by omega), decP]
    obtain ⟨p1, p2, p3⟩ := pow10 i (by omega)
    have hb := u8_lt (l.getD i 0)
    have w1 : IntKind.wrap .i64 ((i : Int) + 1) = ((i + 1 : Nat) : Int) := by rw [w64 (by omega)]; omega
    generalize hc : l.getD i 0 = c at *
    by_cases hk : kindOf (c.toNat : Int) = 1
    · rw [if_pos hk]
      have hk' := kind_one hk
      have e := ih (i + 1) (x * 10 + ((c.toNat : Int) - 48)) (by omega) (by rw [p3]; omega)
      refine Ev.step (e.congr fun k => ?_)
      have hv : F94 k (c.toNat : Int) = some ((c.toNat : Int) - 48) := by
        rw [F94, rKind_eq, bind_some', hk]
        show iteB true _ _ = _
        rw [iteB_t, wu8 (by omega), w64 (by omega)]
      rw [F59_L1, decide_eq_true (by omega), iteB_t, grd_t _ (by omega), toNat_nat, hc, rKind_eq, bind_some', hk]
      show iteB false _ _ = _
      rw [iteB_f, grd_t _ (by omega), hv, bind_some', w64 (n := x * 10) (by omega), w64 (n := x * 10 + _) (by omega), w1]
    · rw [if_neg hk]
      refine Ev.step (Ev.pure.congr fun k => ?_)
      rw [F59_L1, decide_eq_true (by omega), iteB_t, grd_t _ (by omega), toNat_nat, hc, rKind_eq, bind_some', show (kindOf (c.toNat : Int) != 1) = true by rw [bne_iff_ne]; exact hk, iteB_t]
theorem ev_rReadDecimal (l : List UInt8) : Ev (fun k => F59 k l) (readD l) := by
  unfold readD
  cases l with
  | nil => rw [if_pos (Or.inl rfl)]; exact Ev.pure.congr fun k => rfl
  | cons a l =>
    have hz : (((a :: l).length : Int) == 0) = false := by rw [beq_eq_false_iff_ne, List.length_cons]; omega
    by_cases h : 18 < (a :: l).length
    · rw [if_pos (Or.inr h)]
      refine Ev.pure.congr fun k => ?_
      rw [F59, hz, iteB_f, decide_eq_true (by omega), iteB_t]
    · rw [if_neg (by simp only [reduceCtorEq, false_or]; exact h)]
      have e := ev_rdec_l (a :: l) (by omega) (a :: l).length 0 0 (by omega) (by decide)
      refine e.congr fun k => ?_
      rw [F59, hz, iteB_f, decide_eq_false (by omega), iteB_f]; rfl

theorem decP_all : ∀ (l : List UInt8) (x : Int), (decP l x).2 = true → ∀ c ∈ l, kindOf (c.toNat : Int) = 1
  | [], _, _, c, hc => by simp at hc
  | a :: l, x, h, c, hc => by
    rw [decP] at h
    by_cases k : kindOf (a.toNat : Int) = 1
    · rw [if_pos k] at h
      rcases List.mem_cons.1 hc with rfl | hc
      · exact k
      · exact decP_all l _ h c hc
    · rw [if_neg k] at h; cases h

/-- The reference's digits of any number. -/
theorem rDec_nat (j : Nat) : ∀ (k n : Nat), n < 10 ^ (k + 1) → k ≤ 18 → n ≤ 9223372036854775807 → F22 (j + k + 1) (n : Int) = some ((dgR n).reverse.map toB)
  | k, n, h, hk, hb => by
    by_cases h1 : n < 10
    · rw [dgR_lt h1, F22, decide_eq_true (by omega), iteB_t, decide_eq_true (by omega), iteB_t, rDig_eq (j + k) n h1, bind_some']; rfl
    · match k, h, hk with
      | 0, h, _ => omega
      | k + 1, h, hk =>
        have h2 : n / 10 < 10 ^ (k + 1) := by
          have : n < 10 ^ (k + 1) * 10 := by rw [← Nat.pow_succ]; exact h
          omega
        have e := rDec_nat j k (n / 10) h2 (by omega) (by omega)
        have q1 : IntKind.wrap .i64 ((n : Int).tdiv 10) = ((n / 10 : Nat) : Int) := by rw [Int.tdiv_eq_ediv_of_nonneg (by omega), w64 (by omega)]; omega
        have q2 : ((n : Int).tmod 10) = ((n % 10 : Nat) : Int) := by rw [Int.tmod_eq_emod_of_nonneg (by omega)]; omega
        have hl := dgR_len k (n / 10) h2
        have e2 : F22 (j + (k + 1) + 1) (n : Int) = ((some ((dgR (n / 10)).reverse.map toB)).bind fun v => (some [toB (48 + ((n % 10 : Nat) : Int))]).bind fun d => grd (v.length + d.length ≤ 9223372036854775807) (some (v ++ d))) := by
          rw [F22, decide_eq_true (by omega), iteB_t, decide_eq_false (by omega), iteB_f, decide_eq_false (by omega), iteB_f, q1, show j + (k + 1) = j + k + 1 from rfl, e, q2, rDig_eq (j + k + 1) (n % 10) (by omega)]
        rw [e2, bind_some', bind_some', grd_t _ (by simp; omega), dgR_ge h1, List.reverse_cons, List.map_append]; rfl
theorem ev_rneg (a : Nat) : ∀ (k m : Nat) (out : List UInt8), m < 10 ^ k → k ≤ 20 → m ≤ 9223372036854775808 → out.length + k ≤ 100 → Ev (fun n => F22_L2 n (-(m : Int)) out) (45 :: ((if m = 0 then [] else (dgR m).reverse.map toB) ++ out)) := by
  intro k
  induction k with
  | zero =>
    intro m out hm hk hb ho
    obtain rfl : m = 0 := by omega
    rw [if_pos rfl]
    refine Ev.step (Ev.pure.congr fun n => ?_)
    rw [F22_L2, decide_eq_false (by omega), iteB_f, grd_t _ (by omega)]; rfl
  | succ k ih =>
    intro m out hm hk hb ho
    by_cases h0 : m = 0
    · subst h0
      rw [if_pos rfl]
      refine Ev.step (Ev.pure.congr fun n => ?_)
      rw [F22_L2, decide_eq_false (by omega), iteB_f, grd_t _ (by omega)]; rfl
    · have h2 : m / 10 < 10 ^ k := by
        have : m < 10 ^ k * 10 := by rw [← Nat.pow_succ]; exact hm
        omega
      have e := ih (m / 10) ([toB (48 + ((m % 10 : Nat) : Int))] ++ out) h2 (by omega) (by omega) (by simp; omega)
      have q1 : IntKind.wrap .i64 (Int.tdiv (-(m : Int)) 10) = -((m / 10 : Nat) : Int) := by
        rw [Int.neg_tdiv, Int.tdiv_eq_ediv_of_nonneg (by omega), w64 (by omega)]; omega
      have q2 : IntKind.wrap .i64 (0 - Int.tmod (-(m : Int)) 10) = ((m % 10 : Nat) : Int) := by
        rw [Int.neg_tmod, Int.tmod_eq_emod_of_nonneg (by omega), w64 (by omega)]; omega
      rw [if_neg h0]
      have hres : (45 : UInt8) :: ((if m / 10 = 0 then [] else (dgR (m / 10)).reverse.map toB) ++ ([toB (48 + ((m % 10 : Nat) : Int))] ++ out)) = 45 :: ((dgR m).reverse.map toB ++ out) := by
        by_cases h1 : m < 10
        · rw [if_pos (by omega), dgR_lt h1, show m % 10 = m by omega]; rfl
        · rw [if_neg (by omega), dgR_ge h1, List.reverse_cons, List.map_append, List.append_assoc]; rfl
      rw [hres] at e
      refine Ev.step (e.congr fun n => ?_)
      rw [F22_L2, decide_eq_true (by omega), iteB_t, q2, rDig_eq n (m % 10) (by omega), bind_some', grd_t _ (by simp; omega), q1]
theorem ev_rDecimal (a : Int) (h : -9223372036854775808 ≤ a ∧ a ≤ 9223372036854775807) : Ev (fun n => F22 n a) (decT a) := by
  unfold decT decI
  by_cases h0 : a < 0
  · obtain ⟨m, hm⟩ : ∃ m : Nat, a = -(m : Int) := ⟨a.natAbs, by omega⟩
    subst hm
    have e := ev_rneg m 20 m [] (by omega) (by omega) (by omega) (by simp)
    rw [if_neg (by omega), List.append_nil] at e
    rw [if_pos h0, List.reverse_append, show (-(m : Int)).natAbs = m by omega]
    refine Ev.step (e.congr fun n => ?_)
    rw [F22, decide_eq_false (by omega), iteB_f, decide_eq_true h0, iteB_t]
  · obtain ⟨m, rfl⟩ := Int.eq_ofNat_of_zero_le (show 0 ≤ a by omega)
    rw [if_neg h0, show ((m : Int)).natAbs = m by omega]
    refine ⟨19, fun n hn => ?_⟩
    obtain ⟨k, rfl⟩ : ∃ k, n = k + 19 := ⟨n - 19, by omega⟩
    exact rDec_nat k 18 m (by omega) (by omega) (by omega)
/-- Digits are read. -/
theorem decP_snoc (c : UInt8) : ∀ (l : List UInt8) (x : Int), decP (l ++ [c]) x = if (decP l x).2 = true then decP [c] (decP l x).1 else (0, false)
  | [], x => by rw [List.nil_append]; rfl
  | a :: l, x => by
    rw [List.cons_append, decP, decP]
    by_cases k : kindOf (a.toNat : Int) = 1
    · rw [if_pos k, if_pos k]; exact decP_snoc c l _
    · rw [if_neg k, if_neg k]; rfl
theorem digit_fin : ∀ r : Fin 10, kindOf ((toB (48 + (r.val : Int))).toNat : Int) = 1 ∧ ((toB (48 + (r.val : Int))).toNat : Int) - 48 = r.val ∧ toB (48 + (r.val : Int)) ≠ 45 := by decide +kernel
theorem digit_nat (r : Nat) (h : r < 10) : kindOf ((toB (48 + (r : Int))).toNat : Int) = 1 ∧ ((toB (48 + (r : Int))).toNat : Int) - 48 = r ∧ toB (48 + (r : Int)) ≠ 45 := digit_fin ⟨r, h⟩
theorem decP_dg : ∀ (n m : Nat), m ≤ n → decP ((dgR m).reverse.map toB) 0 = ((m : Int), true)
  | n, m, h => by
    by_cases h1 : m < 10
    · have hd := digit_nat m h1
      rw [dgR_lt h1]
      show decP [toB (48 + (m : Int))] 0 = _
      rw [decP, if_pos hd.1, decP, hd.2.1]
      simp
    · match n, h with
      | 0, h => omega
      | n + 1, h =>
        have ih := decP_dg n (m / 10) (by omega)
        have hd := digit_nat (m % 10) (by omega)
        rw [dgR_ge h1, List.reverse_cons, List.map_append]
        show decP (_ ++ [toB (48 + ((m % 10 : Nat) : Int))]) 0 = _
        rw [decP_snoc, ih, if_pos rfl, decP, if_pos hd.1, decP, hd.2.1]
        congr 1
        omega
theorem dg_no : ∀ (n m : Nat), m ≤ n → (45 : UInt8) ∉ (dgR m).reverse.map toB
  | n, m, h => by
    by_cases h1 : m < 10
    · have hd := digit_nat m h1
      rw [dgR_lt h1]
      show (45 : UInt8) ∉ [toB (48 + (m : Int))]
      simp only [List.mem_singleton]
      exact fun e => hd.2.2 e.symm
    · match n, h with
      | 0, h => omega
      | n + 1, h =>
        have ih := dg_no n (m / 10) (by omega)
        have hd := digit_nat (m % 10) (by omega)
        rw [dgR_ge h1, List.reverse_cons, List.map_append, List.mem_append]
        rintro (e | e)
        · exact ih e
        · have e2 : (45 : UInt8) ∈ [toB (48 + ((m % 10 : Nat) : Int))] := e
          simp only [List.mem_singleton] at e2
          exact hd.2.2 e2.symm
theorem decT_nat (m : Nat) : decT (m : Int) = (dgR m).reverse.map toB := by
  unfold decT decI
  rw [if_neg (by omega), show ((m : Int)).natAbs = m by omega]
theorem read_dec (m : Nat) (h : m < 1000000000000000000) : readD (decT (m : Int)) = ((m : Int), true) := by
  have hl := dgR_len 17 m (by omega)
  have hp := dgR_pos m
  rw [decT_nat]
  unfold readD
  rw [if_neg, decP_dg m m (Nat.le_refl _)]
  simp only [not_or]
  constructor
  · intro e; have := congrArg List.length e; simp at this; rw [this] at hp; simp at hp
  · simp; omega
end Go.Proofs.YtaiapalhdejngaaX

/- Tags, plainly: sums, parts. -/
set_option linter.unusedVariables false
set_option linter.unusedSimpArgs false
namespace Go.Proofs.YtaiapalhdejngaaX
open Go

def etS (l : List UInt8) : List Int × Bool := if (hexS l).2 = true ∧ (hexS l).1.length = 16 then ((hexS l).1, true) else ([], false)
theorem et_bytes (l : List UInt8) : Bytes (etS l).1 := by
  unfold etS
  split
  · exact hexS_bytes l
  · exact Bytes.nil
theorem et_len (l : List UInt8) : (etS l).1.length ≤ 16 := by
  unfold etS
  split
  · rename_i h; exact Nat.le_of_eq h.2
  · exact Nat.zero_le _
theorem ev_eSum (l : List UInt8) (hl : l.length ≤ 1000000) : Ev (fun n => F37 n l) (etS l) := by
  refine ((ev_ReadHex l hl).bind (g := fun n v1 => iteB (!v1.2) (some ([], false)) (iteB ((v1.1.length : Int) != (16 : Int)) (some ([], false)) (some (v1.1, true)))) (Ev.const ?_)).congr fun n => by rw [F37]
  unfold etS
  cases h2 : (hexS l).2 with
  | false => rw [if_neg (fun h => by cases h.1)]; rfl
  | true =>
    by_cases h : (hexS l).1.length = 16
    · rw [if_pos ⟨rfl, h⟩, h]; rfl
    · rw [if_neg (fun k => h k.2), show (((hexS l).1.length : Int) != 16) = true by rw [bne_iff_ne]; omega]; rfl
theorem ev_erSum (l : List UInt8) (hl : l.length ≤ 1000000) : Ev (fun n => F38 n l) (etS l) := by
  refine ((ev_rReadHex l hl).bind (g := fun n v1 => iteB (!v1.2) (some ([], false)) (iteB ((v1.1.length : Int) != (16 : Int)) (some ([], false)) (some (v1.1, true)))) (Ev.const ?_)).congr fun n => by rw [F38]
  unfold etS
  cases h2 : (hexS l).2 with
  | false => rw [if_neg (fun h => by cases h.1)]; rfl
  | true =>
    by_cases h : (hexS l).1.length = 16
    · rw [if_pos ⟨rfl, h⟩, h]; rfl
    · rw [if_neg (fun k => h k.2), show (((hexS l).1.length : Int) != 16) = true by rw [bne_iff_ne]; omega]; rfl
def sumsS : List (List UInt8) → List Int → Option (List Int)
  | [], acc => some acc
  | t :: r, acc => if (etS t).2 = true then sumsS r (acc ++ (etS t).1) else none
def ptxt (l : List (List UInt8)) (all : List Int) : List UInt8 := (txtS (sumS all) ++ [45]) ++ decT (l.length : Int)
def partsS (l : List (List UInt8)) : List UInt8 × Bool := match sumsS l [] with
  | none => ([], false)
  | some all => if l.length = 0 ∨ 10000 < l.length then ([], false) else (ptxt l all, true)
theorem decT_len (n : Nat) (h : n ≤ 10000) : (decT (n : Int)).length ≤ 5 := by
  unfold decT decI
  rw [List.length_map, List.length_reverse, if_neg (by omega)]
  exact dgR_len 4 _ (by omega)
theorem md_len (all : List Int) : (txtS (sumS all)).length = 32 := by rw [txt_len]; unfold sumS; rw [sumL_len]
theorem ev_pl (l : List (List UInt8)) (hn : l.length ≤ 10000) (ht : ∀ t ∈ l, t.length ≤ 1000000) : ∀ (k i : Nat) (acc : List Int), i + k = l.length → acc.length ≤ 16 * i → Bytes acc → Ev (fun n => F19_L1 n l (i : Int) acc) (match sumsS (l.drop i) acc with | none => ([], false) | some all => (ptxt l all, true))
  | 0, i, acc, hi, ha, hb => by
    rw [List.drop_of_length_le (by omega)]
    have hd := decT_len l.length hn
    have hm := md_len acc
    refine Ev.step (((ev_Text hb).bind (g := fun n v9 => grd (v9.length + 1 ≤ 9223372036854775807) ((F55 n (l.length : Int)).bind fun v11 => grd ((v9.length + 1) + v11.length ≤ 9223372036854775807) (some (((v9 ++ ([45] : List UInt8)) ++ v11), true)))) (((ev_Decimal (l.length : Int) (by omega)).bind (g := fun n v11 => grd (((txtS (sumS acc)).length + 1) + v11.length ≤ 9223372036854775807) (some ((((txtS (sumS acc)) ++ ([45] : List UInt8)) ++ v11), true))) (Ev.const (grd_t _ (by omega)))).congr fun n => grd_t _ (by omega))).congr fun n => ?_)
    rw [F19_L1, decide_eq_false (by omega), iteB_f]
  | k + 1, i, acc, hi, ha, hb => by
    have hlen := et_len (l.getD i default)
    have hti : (l.getD i default).length ≤ 1000000 := by
      rw [List.getD_eq_getElem?_getD, List.getElem?_eq_getElem (by omega)]
      exact ht _ (List.getElem_mem _)
    rw [drop_cons l i default (by omega)]
    refine Ev.step (((ev_eSum (l.getD i default) hti).bind (g := fun n v => iteB (!v.2) (some ([], false)) (F19_L1 n l ((i + 1 : Nat) : Int) (acc ++ v.1)) |> fun x => grd (acc.length + v.1.length ≤ 549755813888) x) ?_).congr fun n => ?_)
    · show Ev (fun n => grd _ _) _
      refine Ev.grd (by omega) ?_
      rw [sumsS]
      cases h2 : (etS (l.getD i default)).2 with
      | false => exact Ev.pure.congr fun n => rfl
      | true => exact (ev_pl l hn ht k (i + 1) (acc ++ (etS (l.getD i default)).1) (by omega) (by rw [List.length_append]; omega) (hb.append (et_bytes _))).congr fun n => rfl
    · rw [F19_L1, decide_eq_true (by omega), iteB_t, grd_t _ (by omega), toNat_nat, F53, g64 i (by omega)]
      cases F37 n (l.getD i default) with
      | none => rfl
      | some v =>
        show (grd (acc.length + v.1.length ≤ 549755813888) (some (v.2, acc ++ v.1))).bind _ = grd (acc.length + v.1.length ≤ 549755813888) _
        by_cases hg : acc.length + v.1.length ≤ 549755813888
        · rw [grd_t _ hg, grd_t _ hg]; rfl
        · unfold grd; rw [if_neg hg, if_neg hg]; rfl
theorem ev_Parts (l : List (List UInt8)) (hn : l.length ≤ 10000) (ht : ∀ t ∈ l, t.length ≤ 1000000) : Ev (fun n => F19 n l) (partsS l) := by
  unfold partsS
  by_cases h0 : l.length = 0
  · obtain rfl : l = [] := List.length_eq_zero_iff.1 h0
    exact Ev.pure.congr fun n => rfl
  · have e := ev_pl l hn ht l.length 0 [] (by omega) (by simp) Bytes.nil
    rw [List.drop_zero] at e
    have : (match sumsS l [] with | none => ([], false) | some all => if l.length = 0 ∨ 10000 < l.length then ([], false) else (ptxt l all, true)) = (match sumsS l [] with | none => ([], false) | some all => (ptxt l all, true)) := by
      cases sumsS l [] with
      | none => rfl
      | some all => show (if _ then _ else _) = _; rw [if_neg (by omega)]
    rw [this]
    refine e.congr fun n => ?_
    rw [F19, show ((l.length : Int) == 0) = false from bq (by omega), iteB_f, decide_eq_false (by omega), iteB_f]
    rfl
theorem ev_rpl (l : List (List UInt8)) (hn : l.length ≤ 10000) (ht : ∀ t ∈ l, t.length ≤ 1000000) : ∀ (k i : Nat) (acc : List Int), i + k = l.length → acc.length ≤ 16 * i → Bytes acc → Ev (fun n => F20_L1 n l (i : Int) acc) (match sumsS (l.drop i) acc with | none => ([], false) | some all => if l.length = 0 ∨ 10000 < l.length then ([], false) else (ptxt l all, true))
  | 0, i, acc, hi, ha, hb => by
    rw [List.drop_of_length_le (by omega)]
    have hd := decT_len l.length hn
    have hm := md_len acc
    show Ev _ (if _ then _ else _)
    by_cases h0 : l.length = 0
    · rw [if_pos (.inl h0)]
      refine Ev.step (Ev.pure.congr fun n => ?_)
      rw [F20_L1, decide_eq_false (by omega), iteB_f, decide_eq_true (by omega), iteB_t]
    rw [if_neg (by omega)]
    refine Ev.step (((ev_rText hb).bind (g := fun n v9 => grd (v9.length + 1 ≤ 9223372036854775807) ((F22 n (l.length : Int)).bind fun v11 => grd ((v9.length + 1) + v11.length ≤ 9223372036854775807) (some (((v9 ++ ([45] : List UInt8)) ++ v11), true)))) (((ev_rDecimal (l.length : Int) (by omega)).bind (g := fun n v11 => grd (((txtS (sumS acc)).length + 1) + v11.length ≤ 9223372036854775807) (some ((((txtS (sumS acc)) ++ ([45] : List UInt8)) ++ v11), true))) (Ev.const (grd_t _ (by omega)))).congr fun n => grd_t _ (by omega))).congr fun n => ?_)
    rw [F20_L1, decide_eq_false (by omega), iteB_f, decide_eq_false (by omega), iteB_f, decide_eq_false (by omega), iteB_f]
  | k + 1, i, acc, hi, ha, hb => by
    have hlen := et_len (l.getD i default)
    have hti : (l.getD i default).length ≤ 1000000 := by
      rw [List.getD_eq_getElem?_getD, List.getElem?_eq_getElem (by omega)]
      exact ht _ (List.getElem_mem _)
    rw [drop_cons l i default (by omega)]
    refine Ev.step (((ev_erSum (l.getD i default) hti).bind (g := fun n v => iteB (!v.2) (some ([], false)) (grd (acc.length + v.1.length ≤ 549755813888) (F20_L1 n l ((i + 1 : Nat) : Int) (acc ++ v.1)))) ?_).congr fun n => ?_)
    · rw [sumsS]
      cases h2 : (etS (l.getD i default)).2 with
      | false => exact Ev.pure.congr fun n => rfl
      | true => exact (Ev.grd (p := acc.length + (etS (l.getD i default)).1.length ≤ 549755813888) (by omega) (ev_rpl l hn ht k (i + 1) (acc ++ (etS (l.getD i default)).1) (by omega) (by rw [List.length_append]; omega) (hb.append (et_bytes _)))).congr fun n => rfl
    · rw [F20_L1, decide_eq_true (by omega), iteB_t, grd_t _ (by omega), toNat_nat, g64 i (by omega)]
theorem ev_rParts (l : List (List UInt8)) (hn : l.length ≤ 10000) (ht : ∀ t ∈ l, t.length ≤ 1000000) : Ev (fun n => F20 n l) (partsS l) := by
  have e := ev_rpl l hn ht l.length 0 [] (by omega) (by simp) Bytes.nil
  rw [List.drop_zero] at e
  exact e.congr fun n => by rw [F20]; rfl
end Go.Proofs.YtaiapalhdejngaaX

/- EtagParts, plainly. -/
set_option linter.unusedVariables false
set_option linter.unusedSimpArgs false
namespace Go.Proofs.YtaiapalhdejngaaX
open Go

def oneTag : List UInt8 := 57 :: 48 :: 48 :: 49 :: 53 :: 48 :: 57 :: 56 :: 51 :: 99 :: 100 :: 50 :: 52 :: 102 :: 98 :: 48 :: 100 :: 54 :: 57 :: 54 :: 51 :: 102 :: 55 :: 100 :: 50 :: 56 :: 101 :: 49 :: 55 :: 102 :: 55 :: 50 :: ([] : List UInt8)
theorem one_ok : (etS oneTag).2 = true := by decide +kernel
theorem one_parts : (partsS [oneTag]).2 = true := by
  unfold partsS
  rw [sumsS, if_pos one_ok, sumsS]
  rfl
theorem parts_l1 (l : List (List UInt8)) (hn : l.length ≤ 60) : ∀ (k i : Nat), i + k = l.length → (∀ j, j < i → (l.getD j default).length ≤ 100) → Ev (fun n => F5_L1 n l (i : Int)) true
  | 0, i, hi, hj => by
    have ht : ∀ t ∈ l, t.length ≤ 1000000 := by
      intro t h
      obtain ⟨j, hj1, rfl⟩ := List.getElem_of_mem h
      have := hj j (by omega)
      rw [List.getD_eq_getElem?_getD, List.getElem?_eq_getElem hj1] at this
      have : (l[j]).length ≤ 100 := this
      omega
    obtain ⟨N1, h1⟩ := ev_Parts l (by omega) ht
    obtain ⟨N2, h2⟩ := ev_rParts l (by omega) ht
    obtain ⟨N3, h3⟩ := ev_Parts [oneTag] (by decide) (by intro t h; rw [List.mem_singleton.1 h]; decide)
    refine Ev.step ⟨N1 + N2 + N3, fun n hn => ?_⟩
    have q1 := h1 n (by omega)
    have q2 := h2 n (by omega)
    have q3 := h3 n (by omega)
    dsimp only at q1 q2 q3
    show F5_L1 (n + 1) l (i : Int) = _
    rw [F5_L1, decide_eq_false (by omega), iteB_f, q1, bind_some', q2, bind_some']
    show Option.bind (F19 n [oneTag]) _ = _
    rw [q3, bind_some', beq_self_eq_true, iteB_t, beq_self_eq_true, iteB_t, one_parts]
  | k + 1, i, hi, hj => by
    by_cases h : (100 : Int) < ((l.getD i default).length : Int)
    · refine Ev.step (Ev.pure.congr fun n => ?_)
      rw [F5_L1, decide_eq_true (by omega), iteB_t, grd_t _ (by omega), toNat_nat, decide_eq_true h, iteB_t]
    · refine Ev.step ((parts_l1 l hn k (i + 1) (by omega) fun j hji => ?_).congr fun n => ?_)
      · by_cases e : j = i
        · subst e; omega
        · exact hj j (by omega)
      · rw [F5_L1, decide_eq_true (by omega), iteB_t, grd_t _ (by omega), toNat_nat, decide_eq_false h, iteB_f, g64 i (by omega)]
theorem law_main (v0 : List (List UInt8)) (h0 : okT38 v0) : ∃ n, F5 n v0 = some true := by
  have key : Ev (fun n => F5 n v0) true := by
    by_cases h : (60 : Int) < (v0.length : Int)
    · refine Ev.pure.congr fun n => ?_
      rw [F5, decide_eq_true h, iteB_t]
    · refine (parts_l1 v0 (by omega) v0.length 0 (by omega) (fun j h => by omega)).congr fun n => ?_
      rw [F5, decide_eq_false h, iteB_f]; rfl
  obtain ⟨N, h⟩ := key
  exact ⟨N, h N (Nat.le_refl _)⟩
end Go.Proofs.YtaiapalhdejngaaX

set_option linter.unusedVariables false
namespace Go.Proofs.YtaiapalhdejngaaX
open Go Go.RowKit Go.Proofs
set_option maxRecDepth 100000
theorem shapedRow (xs : List T) (h : ShapesW Try.prog [38] xs) : FnC Try.prog 5 xs (tb true) := shapedEtagParts law_main xs h
end Go.Proofs.YtaiapalhdejngaaX
namespace Go.Proofs.Ytaiapalhdejngaa.etagParts
open Go.ChangeShapes Go.WideShapes Go.ChangeAt Go.RowKit
set_option linter.unusedVariables false
theorem own : ownKnob Try.prog.godebug = none := by kernel_rfl
set_option maxRecDepth 100000 in
theorem lifted (os : Os) (started : os.Started) (H : Type) (enc : TypeId × Value → H) :
    ReturnsInHanded {} Try.checked os 5 .any (Rows.etagPartsSpec.pre6 enc Try.prog Try.f5 Rows.etagPartsRow.domain false) (Rows.etagPartsSpec.post enc Try.prog Try.f5 false true false false) := by
  refine returnsInHanded_of_change_sized (C := Try.checked) own started (by kernel_rfl) Try.func5
    (ChangeSpec.witness6 (enc := enc) (C := Try.checked) false ⟨#[], #[.slice none 0 0], []⟩ 8 (by kernel_rfl) (by kernel_rfl) (by kernel_rfl) (by kernel_rfl)) ?_
  intro W base args ds gs before hval0 hW hcnd hsz0 _
  exact YtaiapalhdejngaaX.row_contract (P := Try.prog) (fn := Try.f5) (s := Rows.etagPartsSpec) (ts := [38]) (tb := 4) (L := [38, 9]) (by kernel_rfl) (by kernel_rfl) (by kernel_rfl) (by kernel_rfl) (by kernel_rfl) (by kernel_rfl) rfl
    (fun H ds h => by
      match ds, h with
      | [d0], _ => rfl) YtaiapalhdejngaaX.shapedRow W base args ds gs before hval0 hW
theorem over : Rows.etagPartsRow.holds Try.pinned (OpenSpec.ofChange Rows.etagPartsSpec) :=
  OpenClaim.holds_of_wide 5 Try.f5 rfl rfl rfl rfl rfl rfl rfl ⟨rfl, rfl, rfl, rfl, rfl⟩ rfl rfl rfl rfl rfl (by kernel_rfl) Try.func5 (by kernel_rfl)
    (of_decide_eq_true (by kernel_rfl)) (by unfold Func.isWrapper; first | (rw [if_pos (by decide +kernel)]; kernel_rfl) | (rw [if_neg (by decide +kernel)]; exact ⟨rfl, rfl⟩))
    (fun os started H enc _ => lifted os started H enc)
theorem proved : Rows.EtagPartsSaid := over
#print axioms proved
end Go.Proofs.Ytaiapalhdejngaa.etagParts
namespace Go.Proofs.Ytaiapalhdejngaa
/-- The row, under a short name, for the claim. -/
theorem etagParts_holds : Rows.EtagPartsSaid := etagParts.proved
end Go.Proofs.Ytaiapalhdejngaa
