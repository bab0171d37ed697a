/- Part of the proof of QueryTells: walks and plain words, merged. -/
import Derived.Test.YtdaojihnaajfeaaBQueryTellsd
import Derived.Test.YtdaojihnaajfeaaBQueryTellsc
import Derived.Laws.AppendOwn
import Derived.Handed
import Derived.Shelf.Vars
import Derived.Test.YtdaojihnaajfeaaRows
import Derived.Test.YtdaojihnaajfeaaChecked
import Derived.WalkKit
import Derived.HandedShaped
import Derived.ProofKit
import Derived.OpenShut
set_option linter.unusedVariables false
set_option linter.unusedSimpArgs false

/- The reference's query as it is signed. -/
set_option linter.unusedVariables false
set_option linter.unusedSimpArgs false
namespace Go.Proofs.YtdaojihnaajfeaaX
open Go
theorem rpl_fin : ∀ c : Fin 256, F35 0 (c.val : Int) = some (plI (c.val : Int)) := by decide +kernel
theorem rpl_eq (n : Nat) (c : UInt8) : F35 n (c.toNat : Int) = some (plI (c.toNat : Int)) := rpl_fin ⟨c.toNat, c.toNat_lt⟩
theorem rdig_fin : ∀ c : Fin 256, (0 ≤ IntKind.wrap .u8 ((c.val : Int).tdiv 16) ∧ IntKind.wrap .u8 ((c.val : Int).tdiv 16) ≤ IntKind.wrap .u8 (IntKind.wrap .u8 ((c.val : Int).tdiv 16) + 1) ∧ IntKind.wrap .u8 (IntKind.wrap .u8 ((c.val : Int).tdiv 16) + 1) ≤ 16) ∧ (0 ≤ (c.val : Int).tmod 16 ∧ (c.val : Int).tmod 16 ≤ IntKind.wrap .u8 ((c.val : Int).tmod 16 + 1) ∧ IntKind.wrap .u8 ((c.val : Int).tmod 16 + 1) ≤ 16) ∧ (([48, 49, 50, 51, 52, 53, 54, 55, 56, 57, 65, 66, 67, 68, 69, 70] : List UInt8).take (IntKind.wrap .u8 (IntKind.wrap .u8 ((c.val : Int).tdiv 16) + 1)).toNat).drop (IntKind.wrap .u8 ((c.val : Int).tdiv 16)).toNat = [hexD (c.val / 16)] ∧ (([48, 49, 50, 51, 52, 53, 54, 55, 56, 57, 65, 66, 67, 68, 69, 70] : List UInt8).take (IntKind.wrap .u8 ((c.val : Int).tmod 16 + 1)).toNat).drop ((c.val : Int).tmod 16).toNat = [hexD (c.val % 16)] := by decide +kernel
theorem ev_renc_l (s : List UInt8) (hs : s.length ≤ 1000000) : ∀ (k i : Nat), i + k = s.length → Ev (fun n => F22_L1 n s false (encS (s.take i)) (i : Int)) (encS s) := by
  intro k
  induction k with
  | zero =>
    intro i hi
    rw [List.take_of_length_le (by omega)]
    refine Ev.step (Ev.pure.congr fun n => ?_)
    rw [F22_L1, decide_eq_false (by omega), iteB_f]
  | succ k ih =>
    intro i hi
    have ht : s.take (i + 1) = s.take i ++ [s.getD i 0] := by
      rw [List.take_succ_eq_append_getElem (by omega), List.getD_eq_getElem?_getD, List.getElem?_eq_getElem (by omega)]; rfl
    have hone : (s.take (i + 1)).drop i = [s.getD i 0] := by
      rw [List.drop_take, drop_cons s i 0 (by omega), show i + 1 - i = 1 by omega]; rfl
    have e := ih (i + 1) (by omega)
    rw [ht, show encS (s.take i ++ [s.getD i 0]) = encS (s.take i) ++ encB (s.getD i 0) by unfold encS; rw [List.flatMap_append]; simp] at e
    have hl : (encS (s.take i)).length ≤ 3 * i := by
      have := enc_len (s.take i); rw [List.length_take] at this; omega
    generalize encS (s.take i) = acc at *
    generalize hc : s.getD i 0 = c at *
    obtain ⟨a, b, d1, d2⟩ := rdig_fin ⟨c.toNat, c.toNat_lt⟩
    dsimp only at a b d1 d2
    refine Ev.step (e.congr fun n => ?_)
    rw [F22_L1, decide_eq_true (by omega), iteB_t, grd_t _ (by omega), toNat_nat, hc, rpl_eq, bind_some']
    unfold encB
    cases hp : plI (c.toNat : Int) with
    | true => rw [iteB_t, g64 i (by omega), grd_t _ (by omega), toNat_nat, hone, grd_t _ (by simp; omega), if_pos rfl]
    | false =>
      rw [iteB_f, iteB_f, grd_t _ (by omega), grd_t _ (by omega), grd_t _ (by omega), grd_t _ a, d1, grd_t _ (by simp; omega), grd_t _ (by omega), grd_t _ (by omega), grd_t _ b, d2, grd_t _ (by simp; omega), g64 i (by omega), if_neg (by decide)]
      simp only [List.append_assoc, List.cons_append, List.nil_append]
theorem ev_rEncode (s : List UInt8) (hs : s.length ≤ 1000000) : Ev (fun n => F22 n s false) (encS s) := (ev_renc_l s hs s.length 0 (by omega)).congr fun n => rfl
theorem less_cb : ∀ a b : List UInt8, Op.bytesLess a b = decide (Lib.compareBytes a b < 0)
  | [], [] => rfl
  | [], _ :: _ => rfl
  | _ :: _, [] => rfl
  | a :: l, b :: m => by
    rw [Op.bytesLess, Lib.compareBytes]
    by_cases h1 : a < b
    · rw [if_pos h1]; simp [h1]
    · rw [if_neg h1]
      by_cases h2 : b < a
      · have h3 : ¬ a = b := fun e => by subst e; exact h1 h2
        rw [if_pos h2]; simp [h1, h3]
      · have h3 : a = b := by
          rw [UInt8.lt_iff_toNat_lt] at h1 h2
          exact UInt8.toNat_inj.1 (by omega)
        rw [if_neg h2, less_cb l m]; simp [h1, h3]
theorem cb_pre (x y : List UInt8) : ∀ p : List UInt8, Lib.compareBytes (p ++ x) (p ++ y) = Lib.compareBytes x y
  | [] => rfl
  | c :: p => by
    have h : ¬ c < c := by rw [UInt8.lt_iff_toNat_lt]; omega
    rw [List.cons_append, List.cons_append, Lib.compareBytes, if_neg h, if_neg h, cb_pre x y p]
theorem le_part (x y : List UInt8) : (Op.bytesLess x y || x == y) = decide (Lib.compareBytes x y ≤ 0) := by
  rw [less_cb]
  by_cases h : x = y
  · subst h; rw [cb_refl]; simp
  · have := cb_eq x y
    have hne : Lib.compareBytes x y ≠ 0 := fun e => h (this e)
    rw [beq_eq_false_iff_ne.2 h, Bool.or_false]
    by_cases h2 : Lib.compareBytes x y < 0
    · rw [decide_eq_true h2, decide_eq_true (by omega)]
    · rw [decide_eq_false h2, decide_eq_false (by omega)]
theorem ahead_q (e p : Pr) : (if Op.bytesLess e.1 p.1 = true then true else if (e.1 == p.1) = true then (Op.bytesLess (qPart e) (qPart p) || qPart e == qPart p) else false) = pairLe e p := by
  rw [Bool.eq_iff_iff, pairLe_iff]
  unfold pcmp
  rw [less_cb]
  by_cases h1 : Lib.compareBytes e.1 p.1 < 0
  · rw [decide_eq_true h1, if_pos rfl, if_pos (by omega)]
    constructor <;> intro _
    · omega
    · rfl
  · rw [decide_eq_false h1, if_neg (by decide)]
    by_cases h2 : e.1 = p.1
    · rw [show (e.1 == p.1) = true by rw [h2]; exact beq_self_eq_true _, if_pos rfl, le_part, h2, cb_refl, if_neg (by decide)]
      unfold qPart
      rw [h2, cb_pre, decide_eq_true_eq]
    · have hne : Lib.compareBytes e.1 p.1 ≠ 0 := fun q => h2 (cb_eq _ _ q)
      rw [beq_eq_false_iff_ne.2 h2, if_neg (by decide), if_pos hne]
      constructor
      · intro h; cases h
      · intro h; omega
def insQ (es : List Pr) (k : Nat) (p : Pr) : List Pr := es.take k ++ [p] ++ es.drop k
theorem insQ_perm (es : List Pr) (k : Nat) (p : Pr) : (insQ es k p).Perm (es ++ [p]) := by
  unfold insQ
  have h1 : (es.take k ++ [p] ++ es.drop k).Perm (es.take k ++ (es.drop k ++ [p])) := by
    rw [List.append_assoc]
    exact List.Perm.append_left _ List.perm_append_comm
  rw [← List.append_assoc, List.take_append_drop] at h1
  exact h1
theorem insQ_sorted (es : List Pr) (k : Nat) (p : Pr) (hs : es.Pairwise fun a b => pairLe a b = true) (h1 : ∀ e ∈ es.take k, pairLe e p = true) (h2 : ∀ e, (es.drop k).head? = some e → pairLe e p = false) : (insQ es k p).Pairwise fun a b => pairLe a b = true := by
  have hs' := hs
  rw [← List.take_append_drop k es, List.pairwise_append] at hs'
  obtain ⟨s1, s2, s3⟩ := hs'
  have hp : ∀ e ∈ es.drop k, pairLe p e = true := by
    cases hd : es.drop k with
    | nil => intro e he; cases he
    | cons a t =>
      have ha : pairLe a p = false := h2 a (by rw [hd]; rfl)
      have hpa : pairLe p a = true := by
        have := pl_total a p
        rw [ha, Bool.false_or] at this
        exact this
      rw [hd, List.pairwise_cons] at s2
      intro e he
      rcases List.mem_cons.1 he with rfl | he
      · exact hpa
      · exact pl_trans _ _ _ hpa (s2.1 e he)
  unfold insQ
  rw [List.append_assoc, List.pairwise_append]
  refine ⟨s1, ?_, fun a ha b hb => ?_⟩
  · rw [List.singleton_append, List.pairwise_cons]
    exact ⟨hp, s2⟩
  · rw [List.singleton_append] at hb
    rcases List.mem_cons.1 hb with rfl | hb
    · exact h1 a ha
    · exact s3 a ha b hb
theorem map_ins {β : Type} (f : Pr → β) (es : List Pr) (k : Nat) (p : Pr) : (insQ es k p).map f = ((es.map f).take k ++ [f p]) ++ ((es.map f).drop k).take ((es.map f).length - k) := by
  have ht : ((es.map f).drop k).take ((es.map f).length - k) = (es.map f).drop k := List.take_of_length_le (by rw [List.length_drop]; omega)
  unfold insQ
  rw [ht, List.map_append, List.map_append, List.map_take, List.map_drop]
  rfl
theorem ev_rout (v8 : List Pr) (hl : v8.length ≤ 100) (hb : ∀ p ∈ v8, p.1.length + p.2.length ≤ 6000) : ∀ (k i : Nat) (t : List UInt8), i + k = v8.length → t.length ≤ i * 6002 → Ev (fun n => F10_L3 n (v8.map qPart) t (i : Int)) (t ++ qAll (decide (0 < i)) (v8.drop i)) := by
  intro k
  induction k with
  | zero =>
    intro i t hi ht
    rw [List.drop_of_length_le (by omega), qAll, List.append_nil]
    refine Ev.step (Ev.pure.congr fun n => ?_)
    rw [F10_L3, decide_eq_false (by rw [List.length_map]; omega), iteB_f]
  | succ k ih =>
    intro i t hi ht
    have hm : v8.getD i default ∈ v8 := by
      rw [List.getD_eq_getElem?_getD, List.getElem?_eq_getElem (by omega)]
      exact List.getElem_mem _
    have hpl := hb _ hm
    have hg : (v8.map qPart).getD i default = qPart (v8.getD i default) := by
      rw [List.getD_eq_getElem?_getD, List.getElem?_map, List.getD_eq_getElem?_getD, List.getElem?_eq_getElem (by omega)]; rfl
    have hml : (v8.map qPart).length = v8.length := List.length_map _
    rw [drop_cons v8 i default (by omega), qAll]
    generalize hp : v8.getD i default = p at *
    have hql : (qPart p).length ≤ 6001 := by unfold qPart; rw [List.length_append, List.length_append, List.length_singleton]; omega
    have key : ∀ (t' : List UInt8), t'.length ≤ i * 6002 + 1 → Ev (fun n => F10_J4 n (v8.map qPart) (i : Int) t') (t' ++ (qPart p ++ qAll true (v8.drop (i + 1)))) := by
      intro t' ht'
      have e := ih (i + 1) (t' ++ qPart p) (by omega) (by rw [List.length_append, Nat.add_mul]; omega)
      rw [show decide (0 < i + 1) = true from decide_eq_true (by omega), List.append_assoc] at e
      refine e.congr fun n => ?_
      rw [F10_J4, grd_t _ (by omega), toNat_nat, grd_t _ (by omega), hg, grd_t _ (by omega), g64 i (by omega)]
    by_cases h0 : 0 < i
    · rw [show (if decide (0 < i) = true then ([38] : List UInt8) else []) = [38] from if_pos (decide_eq_true h0)]
      have e := key (t ++ [38]) (by rw [List.length_append]; simp; omega)
      rw [List.append_assoc] at e
      refine Ev.step (e.congr fun n => ?_)
      rw [F10_L3, decide_eq_true (by omega), iteB_t, decide_eq_true (by omega), iteB_t, grd_t _ (by omega)]
    · rw [show (if decide (0 < i) = true then ([38] : List UInt8) else []) = [] from if_neg (by rw [decide_eq_false h0]; decide), List.nil_append]
      have e := key t (Nat.le_trans ht (Nat.le_succ _))
      refine Ev.step (e.congr fun n => ?_)
      rw [F10_L3, decide_eq_true (by omega), iteB_t, decide_eq_false (by omega), iteB_f]
theorem ev_rIns (l : List Pr) (x1 : Int) (p : Pr) (hp : p.1.length + p.2.length ≤ 6000) (es : List Pr) (hl : es.length ≤ 100) (v : List UInt8) (h : ∀ k, k ≤ es.length → (∀ e ∈ es.take k, pairLe e p = true) → (∀ e, (es.drop k).head? = some e → pairLe e p = false) → Ev (fun n => F10_L1 n l (IntKind.wrap .i64 (x1 + 1)) ((insQ es k p).map Prod.fst) ((insQ es k p).map qPart)) v) : ∀ (d j : Nat), j + d = es.length → (∀ e ∈ es.take j, pairLe e p = true) → Ev (fun n => F10_L2 n l (es.map Prod.fst) (es.map qPart) x1 p.1 p.2 (j : Int)) v := by
  have l1 : (es.map Prod.fst).length = es.length := List.length_map _
  have l2 : (es.map qPart).length = es.length := List.length_map _
  have fin : ∀ (k : Nat) (n : Nat), k ≤ es.length → (grd (0 ≤ (k : Int) ∧ (k : Int) ≤ ((es.map Prod.fst).length : Int)) (grd (((es.map Prod.fst).take (k : Int).toNat).length ≤ 549755813888) (grd ((((es.map Prod.fst).take (k : Int).toNat).length + 1) ≤ 549755813888) (grd (0 ≤ (k : Int) ∧ (k : Int) ≤ ((es.map Prod.fst).length : Int)) (grd (((((es.map Prod.fst).take (k : Int).toNat).length + 1) + (((es.map Prod.fst).drop (k : Int).toNat).take ((es.map Prod.fst).length - (k : Int).toNat)).length) ≤ 549755813888) (grd (0 ≤ (k : Int) ∧ (k : Int) ≤ ((es.map qPart).length : Int)) (grd (((es.map qPart).take (k : Int).toNat).length ≤ 549755813888) (grd (p.1.length + 1 ≤ 9223372036854775807) (grd ((p.1.length + 1) + p.2.length ≤ 9223372036854775807) (grd ((((es.map qPart).take (k : Int).toNat).length + 1) ≤ 549755813888) (grd (0 ≤ (k : Int) ∧ (k : Int) ≤ ((es.map qPart).length : Int)) (grd (((((es.map qPart).take (k : Int).toNat).length + 1) + (((es.map qPart).drop (k : Int).toNat).take ((es.map qPart).length - (k : Int).toNat)).length) ≤ 549755813888) (F10_L1 n l (IntKind.wrap .i64 (x1 + (1 : Int))) ((((es.map Prod.fst).take (k : Int).toNat) ++ [p.1]) ++ (((es.map Prod.fst).drop (k : Int).toNat).take ((es.map Prod.fst).length - (k : Int).toNat))) ((((es.map qPart).take (k : Int).toNat) ++ ([((p.1 ++ ([61] : List UInt8)) ++ p.2)])) ++ (((es.map qPart).drop (k : Int).toNat).take ((es.map qPart).length - (k : Int).toNat)))))))))))))))) = F10_L1 n l (IntKind.wrap .i64 (x1 + 1)) ((insQ es k p).map Prod.fst) ((insQ es k p).map qPart) := by
    intro k n hk
    rw [map_ins, map_ins, toNat_nat]
    have t1 : ((es.map Prod.fst).take k).length = k := by rw [List.length_take]; omega
    have t2 : ((es.map qPart).take k).length = k := by rw [List.length_take]; omega
    have t3 : (((es.map Prod.fst).drop k).take ((es.map Prod.fst).length - k)).length ≤ 100 := by rw [List.length_take, List.length_drop]; omega
    have t4 : (((es.map qPart).drop k).take ((es.map qPart).length - k)).length ≤ 100 := by rw [List.length_take, List.length_drop]; omega
    rw [grd_t _ (by omega), grd_t _ (by omega), grd_t _ (by omega), grd_t _ (by omega), grd_t _ (by omega), grd_t _ (by omega), grd_t _ (by omega), grd_t _ (by omega), grd_t _ (by omega), grd_t _ (by omega), grd_t _ (by omega), grd_t _ (by omega)]
    rfl
  intro d
  induction d with
  | zero =>
    intro j hj ha
    refine Ev.step ((h j (by omega) ha (fun e he => by rw [List.drop_of_length_le (by omega)] at he; cases he)).congr fun n => ?_)
    rw [F10_L2, decide_eq_false (by omega), iteB_f]
    exact fin j n (by omega)
  | succ d ih =>
    intro j hj ha
    have hg1 : (es.map Prod.fst).getD j default = (es.getD j default).1 := by
      rw [List.getD_eq_getElem?_getD, List.getElem?_map, List.getD_eq_getElem?_getD, List.getElem?_eq_getElem (by omega)]; rfl
    have hg2 : (es.map qPart).getD j default = qPart (es.getD j default) := by
      rw [List.getD_eq_getElem?_getD, List.getElem?_map, List.getD_eq_getElem?_getD, List.getElem?_eq_getElem (by omega)]; rfl
    have ht : es.take (j + 1) = es.take j ++ [es.getD j default] := by
      rw [List.take_succ_eq_append_getElem (by omega), List.getD_eq_getElem?_getD, List.getElem?_eq_getElem (by omega)]; rfl
    have hdr := drop_cons es j default (by omega)
    have hq := ahead_q (es.getD j default) p
    cases hle : pairLe (es.getD j default) p with
    | true =>
      have e := ih (j + 1) (by omega) (by
        rw [ht]
        intro x hx
        rcases List.mem_append.1 hx with hx | hx
        · exact ha x hx
        · obtain rfl := List.mem_singleton.1 hx; exact hle)
      refine Ev.step (e.congr fun n => ?_)
      rw [F10_L2, decide_eq_true (by omega), iteB_t, grd_t _ (by omega), toNat_nat, grd_t _ (by omega), hg1]
      rw [hle] at hq
      cases hb : Op.bytesLess (es.getD j default).1 p.1 with
      | true => rw [iteB_t, g64 j (by omega)]
      | false =>
        rw [hb, if_neg (by decide)] at hq
        rw [iteB_f, grd_t _ (by omega), grd_t _ (by omega)]
        cases hk : ((es.getD j default).1 == p.1) with
        | false => rw [hk, if_neg (by decide)] at hq; cases hq
        | true =>
          rw [hk, if_pos rfl] at hq
          rw [iteB_t, grd_t _ (by omega), grd_t _ (by omega), grd_t _ (by omega), grd_t _ (by omega), hg2]
          show iteB (Op.bytesLess (qPart (es.getD j default)) (qPart p) || qPart (es.getD j default) == qPart p) _ _ = _
          rw [hq, iteB_t, g64 j (by omega)]
    | false =>
      refine Ev.step ((h j (by omega) ha (fun e he => by
        rw [hdr] at he
        have he : some (es.getD j default) = some e := he
        injection he with he
        rw [← he]; exact hle)).congr fun n => ?_)
      rw [F10_L2, decide_eq_true (by omega), iteB_t, grd_t _ (by omega), toNat_nat, grd_t _ (by omega), hg1]
      rw [hle] at hq
      cases hb : Op.bytesLess (es.getD j default).1 p.1 with
      | true => rw [hb, if_pos rfl] at hq; cases hq
      | false =>
        rw [hb, if_neg (by decide)] at hq
        rw [iteB_f, grd_t _ (by omega), grd_t _ (by omega)]
        cases hk : ((es.getD j default).1 == p.1) with
        | false =>
          rw [iteB_f]
          have := fin j n (by omega)
          rw [toNat_nat] at this
          exact this
        | true =>
          rw [hk, if_pos rfl] at hq
          rw [iteB_t, grd_t _ (by omega), grd_t _ (by omega), grd_t _ (by omega), grd_t _ (by omega), hg2]
          show iteB (Op.bytesLess (qPart (es.getD j default)) (qPart p) || qPart (es.getD j default) == qPart p) _ _ = _
          rw [hq, iteB_f]
          have := fin j n (by omega)
          rw [toNat_nat] at this
          exact this
theorem ev_rCanL (l : List Pr) (hq : okQ l) : ∀ (k i : Nat) (es : List Pr), i + k = l.length → es.Perm ((l.take i).map enc2) → (es.Pairwise fun a b => pairLe a b = true) → Ev (fun n => F10_L1 n l (i : Int) (es.map Prod.fst) (es.map qPart)) (canT l) := by
  intro k
  induction k with
  | zero =>
    intro i es hi hp hs
    rw [List.take_of_length_le (by omega)] at hp
    have hlen : es.length = l.length := by rw [hp.length_eq, List.length_map]
    have he : es = (l.map enc2).mergeSort pairLe := List.Perm.eq_of_pairwise (le := fun a b => pairLe a b = true) (fun a b _ _ => pl_anti a b) hs (List.pairwise_mergeSort pl_trans pl_total _) (hp.trans (List.mergeSort_perm _ _).symm)
    have hln := hq.1
    have e := ev_rout es (by omega) (fun p hm => by
      obtain ⟨q, hqm, rfl⟩ := List.mem_map.1 (hp.subset hm)
      have := hq.2 q hqm
      have := enc_len q.1
      have := enc_len q.2
      show (encS q.1).length + (encS q.2).length ≤ 6000
      omega) es.length 0 [] (by omega) (by simp)
    refine Ev.step (Ev.congr (g := fun n => F10_L3 n (es.map qPart) [] (0 : Int)) ?_ fun n => ?_)
    · unfold canT
      rw [← he]
      exact e
    · rw [F10_L1, decide_eq_false (by omega), iteB_f]
  | succ k ih =>
    intro i es hi hp hs
    have hm : l.getD i default ∈ l := by
      rw [List.getD_eq_getElem?_getD, List.getElem?_eq_getElem (by omega)]
      exact List.getElem_mem _
    have ht : l.take (i + 1) = l.take i ++ [l.getD i default] := by
      rw [List.take_succ_eq_append_getElem (by omega), List.getD_eq_getElem?_getD, List.getElem?_eq_getElem (by omega)]; rfl
    have hlen : es.length = i := by rw [hp.length_eq, List.length_map, List.length_take]; omega
    have hln := hq.1
    have hb := hq.2 _ hm
    have b1 := enc_len (l.getD i default).1
    have b2 := enc_len (l.getD i default).2
    obtain ⟨N1, e1⟩ := ev_rEncode (l.getD i default).1 (by omega)
    obtain ⟨N2, e2⟩ := ev_rEncode (l.getD i default).2 (by omega)
    obtain ⟨N3, e3⟩ := ev_rIns l (i : Int) (enc2 (l.getD i default)) (by show (encS _).length + (encS _).length ≤ 6000; omega) es (by omega) (canT l) (fun k' hk' h1 h2 => by
      rw [g64 i (by omega)]
      refine ih (i + 1) (insQ es k' (enc2 (l.getD i default))) (by omega) ?_ (insQ_sorted es k' _ hs h1 h2)
      rw [ht, List.map_append]
      exact (insQ_perm es k' _).trans (List.Perm.append_right _ hp)) es.length 0 (by omega) (by simp)
    refine Ev.step ⟨N1 + N2 + N3, fun n hn => ?_⟩
    have q1 := e1 n (by omega)
    have q2 := e2 n (by omega)
    have q3 := e3 n (by omega)
    dsimp only at q1 q2 q3
    show F10_L1 (n + 1) l (i : Int) (es.map Prod.fst) (es.map qPart) = _
    rw [F10_L1, decide_eq_true (by omega), iteB_t, grd_t _ (by omega), toNat_nat, q1, bind_some', grd_t _ (by omega), q2, bind_some']
    exact q3
theorem ev_rCanon (l : List Pr) (hq : okQ l) : Ev (fun n => F10 n l) (canT l) := (ev_rCanL l hq l.length 0 [] (by omega) (by simp) List.Pairwise.nil).congr fun n => rfl
end Go.Proofs.YtdaojihnaajfeaaX

/- QueryTells: the law. -/
set_option linter.unusedVariables false
set_option linter.unusedSimpArgs false
namespace Go.Proofs.YtdaojihnaajfeaaX
open Go
theorem can_ba : canT [(([98] : List UInt8), ([] : List UInt8)), (([97] : List UInt8), ([49] : List UInt8))] = [97, 61, 49, 38, 98, 61] := by
  have h1 : enc2 (([98] : List UInt8), ([] : List UInt8)) = ([98], []) := by
    unfold enc2 encS
    rw [List.flatMap_cons, List.flatMap_nil, List.append_nil, show encB 98 = [98] by decide +kernel]
  have h2 : enc2 (([97] : List UInt8), ([49] : List UInt8)) = ([97], [49]) := by
    unfold enc2 encS
    rw [List.flatMap_cons, List.flatMap_nil, List.append_nil, List.flatMap_cons, List.flatMap_nil, List.append_nil, show encB 97 = [97] by decide +kernel, show encB 49 = [49] by decide +kernel]
  unfold canT
  rw [List.map_cons, List.map_cons, List.map_nil, h1, h2]
  have hs : [(([98] : List UInt8), ([] : List UInt8)), (([97] : List UInt8), ([49] : List UInt8))].mergeSort pairLe = [(([97] : List UInt8), ([49] : List UInt8)), (([98] : List UInt8), ([] : List UInt8))] := by
    rw [sort_perm (List.Perm.swap (([97] : List UInt8), ([49] : List UInt8)) (([98] : List UInt8), ([] : List UInt8)) [])]
    refine List.mergeSort_of_pairwise ?_
    rw [List.pairwise_cons]
    refine ⟨fun e he => ?_, ?_⟩
    · obtain rfl := List.mem_singleton.1 he
      decide +kernel
    · rw [List.pairwise_cons]
      exact ⟨fun e he => (by cases he), List.Pairwise.nil⟩
  rw [hs]
  rfl
theorem okQ_ba : okQ [(([98] : List UInt8), ([] : List UInt8)), (([97] : List UInt8), ([49] : List UInt8))] := ⟨by decide, fun p hp => by
  simp only [List.mem_cons, List.not_mem_nil, or_false] at hp
  rcases hp with rfl | rfl <;> exact ⟨by decide, by decide⟩⟩
theorem ev_J1T (l : List Pr) (ws : List (List UInt8)) (v : List Pr × Bool) (hv : v.1 = l) (a2 : List Int) (h2 : a2.length = 2) (key : List UInt8) (hq : okQ l) (hw : ws.length ≤ 40) : Ev (fun n => F3_J1 n l ws v a2 key) true := by
  have hl := hq.1
  obtain ⟨N1, e1⟩ := ev_Get l key (by omega)
  obtain ⟨N2, e2⟩ := ev_rGet l key (by omega)
  obtain ⟨⟨N3, e3⟩, N4, e4⟩ := ev_Number l key (a2.getD 0 default) (a2.getD 1 default) (by omega)
  obtain ⟨N5, e5⟩ := ev_Canon l hq
  obtain ⟨N6, e6⟩ := ev_rCanon l hq
  obtain ⟨o, ⟨N7, e7⟩, N8, e8⟩ := ev_Only l ws (by omega) (by omega)
  obtain ⟨N9, e9⟩ := ev_Canon _ okQ_ba
  rw [can_ba] at e9
  refine ⟨N1 + N2 + N3 + N4 + N5 + N6 + N7 + N8 + N9, fun n hn => ?_⟩
  have q1 := e1 n (by omega)
  have q2 := e2 n (by omega)
  have q3 := e3 n (by omega)
  have q4 := e4 n (by omega)
  have q5 := e5 n (by omega)
  have q6 := e6 n (by omega)
  have q7 := e7 n (by omega)
  have q8 := e8 n (by omega)
  have q9 := e9 n (by omega)
  dsimp only at q1 q2 q3 q4 q5 q6 q7 q8 q9
  show F3_J1 n l ws v a2 key = _
  rw [F3_J1, hv, q1, bind_some', q2, bind_some', grd_t _ (by omega), grd_t _ (by omega), q3, bind_some', grd_t _ (by omega), grd_t _ (by omega), q4, bind_some', beq_self_eq_true, iteB_t, beq_self_eq_true, iteB_t, beq_self_eq_true, iteB_t, beq_self_eq_true, iteB_t, q5, bind_some', q6, bind_some', beq_self_eq_true, iteB_t, q7, bind_some', q8, bind_some', beq_self_eq_true, iteB_t, q9, bind_some']
  rfl
theorem law_main (v0 : List Pr) (v1 : List (List UInt8)) (v2 : List Int) (h0 : okT22 v0) (h1 : okT23 v1) (h2 : okT24 v2) : ∃ n, F3 n v0 v1 v2 = some true := by
  have key : Ev (fun n => F3 n v0 v1 v2) true := by
    obtain ⟨w, ⟨N1, e1⟩, hw⟩ := ev_own29 v0
    cases hf : w.2 with
    | false =>
      refine ⟨N1, fun n hn => ?_⟩
      have q1 := e1 n hn
      dsimp only at q1
      show F3 n v0 v1 v2 = _
      rw [F3, q1, bind_some', hf, Bool.not_false, iteB_t]
    | true =>
      obtain ⟨hok, hwv⟩ := hw hf
      by_cases h4 : (40 : Int) < (v1.length : Int)
      · refine ⟨N1, fun n hn => ?_⟩
        have q1 := e1 n hn
        dsimp only at q1
        show F3 n v0 v1 v2 = _
        rw [F3, q1, bind_some', hf, Bool.not_true, iteB_f, decide_eq_true h4, iteB_t]
      · by_cases h5 : (0 : Int) < (v1.length : Int)
        · obtain ⟨N2, e2⟩ := ev_J1T v0 v1 w hwv v2 h2.1 (v1.getD (0 : Int).toNat default) hok (by omega)
          refine ⟨N1 + N2, fun n hn => ?_⟩
          have q1 := e1 n (by omega)
          have q2 := e2 n (by omega)
          dsimp only at q1 q2
          show F3 n v0 v1 v2 = _
          rw [F3, q1, bind_some', hf, Bool.not_true, iteB_f, decide_eq_false h4, iteB_f, decide_eq_true h5, iteB_t, grd_t _ h5]
          exact q2
        · obtain ⟨N2, e2⟩ := ev_J1T v0 v1 w hwv v2 h2.1 [] hok (by omega)
          refine ⟨N1 + N2, fun n hn => ?_⟩
          have q1 := e1 n (by omega)
          have q2 := e2 n (by omega)
          dsimp only at q1 q2
          show F3 n v0 v1 v2 = _
          rw [F3, q1, bind_some', hf, Bool.not_true, iteB_f, decide_eq_false h4, iteB_f, decide_eq_false h5, iteB_f]
          exact q2
  obtain ⟨N, h⟩ := key
  exact ⟨N, h N (Nat.le_refl _)⟩
end Go.Proofs.YtdaojihnaajfeaaX

/- A row that is there, of nothing, and functions that hand out a row of their own. Of no program. -/
set_option linter.unusedVariables false
set_option linter.unusedSimpArgs false
namespace Go.Proofs.YtdaojihnaajfeaaX
open Go Go.RowKit
theorem FnR.fresh {P : Program} {f : FuncId} {t : TypeId} {sz : Nat} {args : List T} {l : List T} (hf : enters P f) (hz : refsCL args = [])
    (h : ∀ (E : Env) (vs : Array Value), RepL E false args vs.toList → Calls P f vs E.w fun e w' => ∃ v' xs, e = .returned v' ∧ w'.ownsRow E.w.heap.size t sz v' l.length xs ∧ Below E.w.heap.size E.w w' ∧ RepR E sz l xs) :
    FnR P f [some (.buf t sz [] 0)] args (.rsl 0 sz 0 l.length) [some (.buf t sz l 0)] := by
  refine ⟨hf, rfl, rfl, by rw [hz]; rfl, fun B μ vs hO hOwn hv => ?_⟩
  refine (h ⟨B.w, μ, [some (.buf t sz [] 0)], B.ban⟩ vs hv).mono fun e w' ⟨v', xs, he, hown, hb, hr⟩ => ?_
  have hb : Below B.w.heap.size B.w w' := hb
  have hk : Kept B w' := ⟨hb.os, hb.tape, hb.output, hb.size, fun k h1 _ => hb.block k h1,
    fun k lk h1 j _ => cell_of_block (hb.block k (B.lt k lk h1)), fun k lk h1 c t fr hc => ⟨c, fr, (hb.block k (B.lt k lk h1)).trans hc, rfl⟩⟩
  obtain ⟨hxl, hown⟩ := hown
  rcases hown with ⟨rfl, hn⟩ | ⟨g, cap, cur, rfl, hg, hheap, hcap, _, hcs, hct⟩
  · have hl : l = [] := List.length_eq_zero_iff.1 hn
    subst hl
    refine ⟨_, fun _ => none, he, ⟨fun o x hx => ?_, fun o o' x x' b _ _ _ _ h1 _ => by cases h1⟩, ?_, hk, fun o x b _ _ h1 => by cases h1⟩
    · have hx : ([some (Own.buf t sz [] 0)] : List (Option Own))[o]? = some (some x) := hx
      cases o with
      | zero => simp at hx; subst hx; exact ⟨Nat.le_refl _, .inl ⟨rfl, rfl⟩⟩
      | succ o => simp at hx
    · simp only [Rep]
      exact ⟨trivial, ⟨_, rfl⟩, .inl ⟨trivial, rfl, trivial, ⟨⟨none, fun x h => by cases h⟩, rfl⟩⟩⟩
  · have hst : StepC ⟨B.w, μ, [some (.buf t sz [] 0)], B.ban⟩ ⟨w', fun o => if o = 0 then some g else none, [some (.buf t sz l 0)], B.ban⟩ := by
      refine ⟨fun b j v ⟨h1, h2, h3⟩ => ⟨(cell_of_block (hb.block b (cell_lt h1))).trans h1, fun lk ⟨o, y, k1, k2, k3⟩ => ?_, h3⟩, fun b c t fr hc => ⟨c, fr, (hb.block b (Array.getElem?_eq_some_iff.1 hc).1).trans hc, rfl⟩⟩
      have hlt := cell_lt h1
      have k2 : (if o = 0 then some g else none) = some b := k2
      split at k2
      · injection k2 with k2
        have : B.w.heap.size ≤ b := k2 ▸ hg
        have hlt : b < B.w.heap.size := hlt
        omega
      · cases k2
    refine ⟨_, fun o => if o = 0 then some g else none, he, ⟨fun o x hx => ?_, fun o o' x x' b h1 h2 _ _ _ _ => ?_⟩, ?_, hk, fun o x b h1 _ h2 => ?_⟩
    · have hx : ([some (Own.buf t sz l 0)] : List (Option Own))[o]? = some (some x) := hx
      cases o with
      | zero =>
        simp at hx; subst hx
        refine ⟨Nat.zero_le _, .inr ⟨g, cur, (0, 0), xs, cur.toList.drop (l.length * sz), rfl, hheap, .inl rfl, ?_, RepR.stepC hst _ _ _ hr⟩⟩
        rw [← hct]; exact (List.take_append_drop _ _).symm
      | succ o => simp at hx
    · have h1 : ([some (Own.buf t sz l 0)] : List (Option Own))[o]? = some (some x) := h1
      have h2 : ([some (Own.buf t sz l 0)] : List (Option Own))[o']? = some (some x') := h2
      have := (List.getElem?_eq_some_iff.1 h1).1
      have := (List.getElem?_eq_some_iff.1 h2).1
      simp at *
      omega
    · simp only [Rep]
      exact ⟨trivial, ⟨_, rfl⟩, .inr ⟨g, 0, cap, cur, t, (0, 0), rfl, rfl, hcap, .inr (by omega), hheap, by rw [Nat.zero_add, hcs]; exact Nat.le_refl _⟩⟩
    · have h2 : (if o = 0 then some g else none) = some b := h2
      split at h2
      · injection h2 with h2; exact .inl (h2 ▸ hg)
      · cases h2
end Go.Proofs.YtdaojihnaajfeaaX

set_option linter.unusedVariables false
namespace Go.Proofs.YtdaojihnaajfeaaX
open Go Go.RowKit Go.Proofs
set_option maxRecDepth 100000
theorem shapedRow (xs : List T) (h : ShapesW Try.prog [22, 23, 24] xs) : FnC Try.prog 3 xs (tb true) := shapedQueryTells law_main xs h
end Go.Proofs.YtdaojihnaajfeaaX
namespace Go.Proofs.Ytdaojihnaajfeaa.queryTells
open Go.ChangeShapes Go.WideShapes Go.ChangeAt Go.RowKit
set_option linter.unusedVariables false
theorem own : ownKnob Try.prog.godebug = none := by kernel_rfl
set_option maxRecDepth 100000 in
theorem lifted (os : Os) (started : os.Started) (H : Type) (enc : TypeId × Value → H) :
    ReturnsInHanded {} Try.checked os 3 .any (Rows.queryTellsSpec.pre6 enc Try.prog Try.f3 Rows.queryTellsRow.domain false) (Rows.queryTellsSpec.post enc Try.prog Try.f3 false true false false) := by
  refine returnsInHanded_of_change_shaped (C := Try.checked) own started (by kernel_rfl) Try.func3
    (ChangeSpec.witness6 (enc := enc) (C := Try.checked) false ⟨#[], #[.slice none 0 0, .slice none 0 0, .agg #[.int .i64 0, .int .i64 0]], []⟩ 8 (by kernel_rfl) (by kernel_rfl) (by kernel_rfl) (by kernel_rfl)) ?_
  intro W base args ds gs before hval0 hW hcnd hsz0 hsh _
  exact YtdaojihnaajfeaaX.row_contract (P := Try.prog) (fn := Try.f3) (s := Rows.queryTellsSpec) (ts := [22, 23, 24]) (tb := 4) (L := [22, 23, 24, 39, 9, 3, 38]) (by kernel_rfl) (by kernel_rfl) (by kernel_rfl) (by kernel_rfl) (by kernel_rfl) (by kernel_rfl) rfl
    (fun H ds h => by
      match ds, h with
      | [d0, d1, d2], _ => rfl) YtdaojihnaajfeaaX.shapedRow W (fun g hg => by
    have e : g = 0 := by simpa [YtdaojihnaajfeaaX.globsI] using hg
    subst e
    exact cell_of_shapedOpen_int (P := Try.prog) (g := 0) (t := 3) (zero := #[.int .i64 0]) hsh (of_decide_eq_true (by kernel_rfl)) (by kernel_rfl) rfl (by kernel_rfl) (by kernel_rfl) Try.underlying3) base args ds gs before hval0 hW
theorem over : Rows.queryTellsRow.holds Try.pinned (OpenSpec.ofChange Rows.queryTellsSpec) :=
  OpenClaim.holds_of_wide 3 Try.f3 rfl rfl rfl rfl rfl rfl rfl ⟨rfl, rfl, rfl, rfl, rfl⟩ rfl rfl rfl rfl rfl (by kernel_rfl) Try.func3 (by kernel_rfl)
    (of_decide_eq_true (by kernel_rfl)) (by unfold Func.isWrapper; first | (rw [if_pos (by decide +kernel)]; kernel_rfl) | (rw [if_neg (by decide +kernel)]; exact ⟨rfl, rfl⟩))
    (fun os started H enc _ => lifted os started H enc)
theorem proved : Rows.QueryTellsSaid := over
#print axioms proved
end Go.Proofs.Ytdaojihnaajfeaa.queryTells
namespace Go.Proofs.Ytdaojihnaajfeaa
theorem queryTells_holds : Rows.QueryTellsSaid := queryTells.proved
end Go.Proofs.Ytdaojihnaajfeaa
