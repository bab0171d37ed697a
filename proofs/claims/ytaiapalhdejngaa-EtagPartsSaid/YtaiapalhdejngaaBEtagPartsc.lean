/- Part of the proof of EtagParts: walks and plain words, merged. -/
import Derived.Test.YtaiapalhdejngaaBEtagPartsb
import Derived.Test.YtaiapalhdejngaaProg
import Derived.KernelRfl
set_option linter.unusedVariables false
set_option linter.unusedSimpArgs false

/- .. as a run. Of no program. -/
set_option linter.unusedVariables false
set_option linter.unusedSimpArgs false
namespace Go.Proofs.YtaiapalhdejngaaX
open Go Go.RowKit

abbrev LOp := Op × Option Tmp × Option (Option Tmp × Bool) × Bool
def liteL2 (ds : List (Option Tmp)) (lt : Nat → Bool) : List Oper → Nat → List LOp
  | [], _ => []
  | o :: l, i => (o.op, o.dst, gL ds o.guard, lt i) :: liteL2 ds lt l (i + 1)
def drawL2 (P : Program) (N : Nat) : List LOp → Nat → Nat → St → (St → Prop) → Prop
  | [], _, _, S, K => K S
  | (op, dst, g, l) :: rest, b, n, S, K => guardL S g
      (fun S => ∃ v eff, (if l = true then opW P N op (evalT S) (fun _ => none) (fun v' e' => v' = v ∧ e' = eff) ∧ eff = .none else opX P n op (evalT S) (fun q => if eOp op = true ∨ q < b then lookS S q else none) (fun v' e' => v' = v ∧ e' = eff) ∧ okE2 n op S eff) ∧
        drawL2 P N rest (if eOp op = true then n + 1 else b) (n + 1) ((S.eff n eff).put dst v) K)
      (fun S => drawL2 P N rest (if eOp op = true then n + 1 else b) (n + 1) (S.put dst (.tup [])) K)
theorem drawL2_eq (P : Program) (ops : Array Oper) (lt : Nat → Bool) (n0 : Nat) : ∀ (l : List Oper) (i b : Nat) (S : St) (K : St → Prop), drawW2 P ops lt n0 l i b S K = drawL2 P (n0 + ops.size) (liteL2 (dstsL ops.toList) lt l i) b (n0 + i) S K
  | [], i, b, S, K => rfl
  | o :: l, i, b, S, K => by
    unfold drawW2
    simp only [liteL2, drawL2, drawL2_eq P ops lt n0 l]
    exact guardL_eq ops S o (fun S => ∃ v eff, (if lt i = true then opW P (n0 + ops.size) o.op (evalT S) (fun _ => none) (fun v' e' => v' = v ∧ e' = eff) ∧ eff = .none else opX P (n0 + i) o.op (evalT S) (fun q => if eOp o.op = true ∨ q < b then lookS S q else none) (fun v' e' => v' = v ∧ e' = eff) ∧ okE2 (n0 + i) o.op S eff) ∧ drawL2 P (n0 + ops.size) (liteL2 (dstsL ops.toList) lt l (i + 1)) (if eOp o.op = true then n0 + i + 1 else b) (n0 + (i + 1)) ((S.eff (n0 + i) eff).put o.dst v) K) (fun S => drawL2 P (n0 + ops.size) (liteL2 (dstsL ops.toList) lt l (i + 1)) (if eOp o.op = true then n0 + i + 1 else b) (n0 + (i + 1)) (S.put o.dst (.tup [])) K)
def drawK2 (P : Program) (Q : Exit → St → Prop) (N : Nat) (l : List LOp) (b n : Nat) (S : St) : Prop := drawL2 P N l b n S fun S => Q .normal ⟨S.tmps, trims S.objs⟩
section
variable (P : Program) (Q : Exit → St → Prop) (N b n : Nat) (S : St) (op : Op) (dst : Option Tmp) (d : Tmp) (w l : Bool) (rest : List LOp)
theorem drawK2_nil : drawK2 P Q N [] b n S = Q .normal ⟨S.tmps, trims S.objs⟩ := rfl
def isApp : Op → Bool
  | .call ⟨.builtin .append, _, _⟩ => true
  | _ => false
theorem shiftW_no {k : Nat} {ρ : Operand → T} {look : Nat → Option Own} {K : T → Eff → Prop} (h : isApp op = false) : ¬ shiftW P k op ρ look K := by
  unfold shiftW
  split
  · cases h
  · exact fun h => h
theorem drawK2_cons (ha : isApp op = false) : drawK2 P Q N ((op, dst, none, false) :: rest) b n S = opW P n op (evalT S) (fun q => if eOp op = true ∨ q < b then lookS S q else none) fun v eff => okE2 n op S eff ∧ drawK2 P Q N rest (if eOp op = true then n + 1 else b) (n + 1) ((S.eff n eff).put dst v) := by
  refine propext ⟨fun h => ?_, fun h => ?_⟩
  · obtain ⟨v, eff, h1, h3⟩ := h
    rw [if_neg (by decide)] at h1
    obtain ⟨v', e', ⟨rfl, rfl⟩, h4⟩ := opW_split _ _ _ _ _ (h1.1.resolve_right (shiftW_no P op ha))
    exact h4 _ ⟨h1.2, h3⟩
  · obtain ⟨v, eff, ⟨h1, h2⟩, h3⟩ := opW_split _ _ _ _ _ h
    exact ⟨v, eff, by rw [if_neg (by decide)]; exact ⟨.inl (h3 _ ⟨rfl, rfl⟩), h1⟩, h2⟩
theorem appendS_split {P : Program} {k : Nat} {sT xT : TypeId} {s x : T} {look : Nat → Option Own} {K : T → Eff → Prop} (h : appendS P k sT xT s x look K) : ∃ v eff, K v eff ∧ appendS P k sT xT s x look fun v' e' => v' = v ∧ e' = eff := by
  unfold appendS at h
  split at h
  case h_2 => exact h.elim
  rename_i e ht
  obtain ⟨h1, h2, h3, h4, h5⟩ := h
  obtain ⟨sz, xs, ⟨h6, h7⟩, h8⟩ := newsW_split _ _ _ _ h5
  split at h7
  · rename_i o szs off len
    split at h7
    · rename_i bt sz' l lk hlk
      obtain ⟨g1, g2, g3, g4, g5, g6, g7, g8⟩ := h7
      refine ⟨_, _, g8, ?_⟩
      unfold appendS
      rw [ht]
      refine ⟨h1, h2, h3, h4, h8 _ ⟨h6, ?_⟩⟩
      simp only [hlk]
      exact ⟨g1, g2, g3, g4, g5, g6, g7, by first | exact ⟨rfl, rfl⟩ | trivial | simp⟩
    · exact h7.elim
  · exact h7.elim
/-- An append: as ever, or with its answer under a new number. -/
theorem drawK2_mv {P : Program} {Q : Exit → St → Prop} {N b n : Nat} {S : St} {dst : Option Tmp} {rest : List LOp} {s x : Operand} {t u : TypeId}
    (h : appendW P n t u (evalT S s) (evalT S x) (lookS S) fun v eff => okE2 n (.call ⟨.builtin .append, #[s, x], #[t, u]⟩) S eff ∧ drawK2 P Q N rest (n + 1) (n + 1) ((S.eff n eff).put dst v)) : drawK2 P Q N ((.call ⟨.builtin .append, #[s, x], #[t, u]⟩, dst, none, false) :: rest) b n S := by
  have h' : opW P n (.call ⟨.builtin .append, #[s, x], #[t, u]⟩) (evalT S) (lookS S) fun v eff => okE2 n (.call ⟨.builtin .append, #[s, x], #[t, u]⟩) S eff ∧ drawK2 P Q N rest (n + 1) (n + 1) ((S.eff n eff).put dst v) := h
  obtain ⟨v, eff, ⟨h1, h2⟩, h3⟩ := opW_split _ _ _ _ _ h'
  refine ⟨v, eff, ?_, h2⟩
  rw [if_neg (by decide)]
  refine ⟨.inl ?_, h1⟩
  have hlk : (fun q => if eOp (.call ⟨.builtin .append, #[s, x], #[t, u]⟩) = true ∨ q < b then lookS S q else none) = lookS S := funext fun q => if_pos (Or.inl rfl)
  rw [hlk]
  exact h3 _ ⟨rfl, rfl⟩
theorem drawK2_sh {P : Program} {Q : Exit → St → Prop} {N b n : Nat} {S : St} {dst : Option Tmp} {rest : List LOp} {s x : Operand} {t u : TypeId}
    (h : appendS P n t u (evalT S s) (evalT S x) (lookS S) fun v eff => okE2 n (.call ⟨.builtin .append, #[s, x], #[t, u]⟩) S eff ∧ drawK2 P Q N rest (n + 1) (n + 1) ((S.eff n eff).put dst v)) : drawK2 P Q N ((.call ⟨.builtin .append, #[s, x], #[t, u]⟩, dst, none, false) :: rest) b n S := by
  obtain ⟨v, eff, ⟨h1, h2⟩, h3⟩ := appendS_split h
  refine ⟨v, eff, ?_, h2⟩
  have hlk : (fun q => if eOp (.call ⟨.builtin .append, #[s, x], #[t, u]⟩) = true ∨ q < b then lookS S q else none) = lookS S := funext fun q => if_pos (Or.inl rfl)
  rw [if_neg (by decide), hlk]
  exact ⟨.inr h3, h1⟩
theorem drawK2_late : drawK2 P Q N ((op, dst, none, true) :: rest) b n S = opW P N op (evalT S) (fun _ => none) fun v eff => eff = .none ∧ drawK2 P Q N rest (if eOp op = true then n + 1 else b) (n + 1) ((S.eff n eff).put dst v) := by
  refine propext ⟨fun h => ?_, fun h => ?_⟩
  · obtain ⟨v, eff, h1, h3⟩ := h
    rw [if_pos rfl] at h1
    obtain ⟨v', e', ⟨rfl, rfl⟩, h4⟩ := opW_split _ _ _ _ _ h1.1
    exact h4 _ ⟨h1.2, h3⟩
  · obtain ⟨v, eff, ⟨h1, h2⟩, h3⟩ := opW_split _ _ _ _ _ h
    exact ⟨v, eff, by rw [if_pos rfl]; exact ⟨h3 _ ⟨rfl, rfl⟩, h1⟩, h2⟩
def guardE (z : T) : Prop := match z with
  | .imm (.bool c) => if c = w then drawK2 P Q N ((op, dst, none, l) :: rest) b n (S.is d w) else drawK2 P Q N rest (if eOp op = true then n + 1 else b) (n + 1) ((S.is d (!w)).put dst (.tup []))
  | .tup x => x = [] ∧ drawK2 P Q N rest (if eOp op = true then n + 1 else b) (n + 1) (S.put dst (.tup []))
  | _ => False
theorem drawK2_grd : drawK2 P Q N ((op, dst, some (some d, w), l) :: rest) b n S = guardE P Q N b n S op dst d w l rest (S.tmps.getD d .junk) := by
  show drawL2 P N ((op, dst, some (some d, w), l) :: rest) b n S _ = _
  cases w
  · rw [drawL2, guardL_false]
    generalize S.tmps.getD d .junk = z
    cases z with
    | imm v => cases v with
      | bool c => cases c <;> simp [guardE, boolW_if] <;> rfl
      | _ => rfl
    | _ => rfl
  · rw [drawL2, guardL_true]
    generalize S.tmps.getD d .junk = z
    cases z with
    | imm v => cases v with
      | bool c => cases c <;> simp [guardE, boolW_if] <;> rfl
      | _ => rfl
    | _ => rfl
theorem guardE_same (c : Bool) : guardE P Q N b n S op dst d c l rest (.imm (.bool c)) = drawK2 P Q N ((op, dst, none, l) :: rest) b n (S.is d c) := by simp [guardE]
theorem guardE_tf : guardE P Q N b n S op dst d true l rest (.imm (.bool false)) = drawK2 P Q N rest (if eOp op = true then n + 1 else b) (n + 1) ((S.is d false).put dst (.tup [])) := by simp [guardE]
theorem guardE_ft : guardE P Q N b n S op dst d false l rest (.imm (.bool true)) = drawK2 P Q N rest (if eOp op = true then n + 1 else b) (n + 1) ((S.is d true).put dst (.tup [])) := by simp [guardE]
theorem guardE_nn : guardE P Q N b n S op dst d w l rest (.tup []) = drawK2 P Q N rest (if eOp op = true then n + 1 else b) (n + 1) (S.put dst (.tup [])) := by simp [guardE]
def callD2 (g : FuncId) (args : List T) : Prop := ∃ r, FnC P g args r ∧ drawK2 P Q N rest b n (S.put dst r)
def callE2 (x : T) (args : List T) : Prop := match x with
  | .fn g caps => closedL (args ++ caps) = true ∧ callD2 P Q N b n S dst rest g (args ++ caps)
  | _ => False
theorem drawK2_call (f : Operand) (args : List Operand) (ts : Array TypeId) : drawK2 P Q N ((.call ⟨.value f, ⟨args⟩, ts⟩, dst, none, false) :: rest) b n S = callE2 P Q N b (n + 1) S dst rest (evalT S f) (dsnapL (fun i => if i < b then lookS S i else none) (args.map (evalT S))) := by
  rw [drawK2_cons (ha := rfl)]
  have e : (fun q => if eOp (.call ⟨.value f, ⟨args⟩, ts⟩) = true ∨ q < b then lookS S q else none) = fun i => if i < b then lookS S i else none := by
    funext i; simp [eOp]
  rw [e]
  simp only [opW]
  unfold callW callRW callE2
  generalize evalT S f = x
  cases x with
  | fn g caps => simp [callD2, okE2, eOp, St.eff]
  | _ => simp
theorem drawK2_call0 (f : Operand) (ts : Array TypeId) : drawK2 P Q N ((.call ⟨.value f, #[], ts⟩, dst, none, false) :: rest) b n S = callE2 P Q N b (n + 1) S dst rest (evalT S f) [] := drawK2_call P Q N b n S dst rest f [] ts
end
section
variable {P : Program} {Q : Exit → St → Prop} {N b n : Nat} {S S1 : St} {k : Kn} {op : Op} {dst : Option Tmp} {d : Tmp} {w l c : Bool} {rest : List LOp}
theorem guardE_T (hb : c = w) (h : drawK2 P Q N ((op, dst, none, l) :: rest) b n (S.is d w)) : guardE P Q N b n S op dst d w l rest (.imm (.bool c)) := by subst hb; rw [guardE_same]; exact h
theorem guardE_F (hb : c = !w) (h : drawK2 P Q N rest (if eOp op = true then n + 1 else b) (n + 1) ((S.is d (!w)).put dst (.tup []))) : guardE P Q N b n S op dst d w l rest (.imm (.bool c)) := by
  subst hb; cases w
  · exact (guardE_ft ..).mpr h
  · exact (guardE_tf ..).mpr h
theorem callD2_X {g : FuncId} {args args' : List T} {r : T} (h : FnC P g args' r) (ha : leL anyE args args') (h2 : drawK2 P Q N rest b n (S.put dst r)) : callD2 P Q N b n S dst rest g args := ⟨r, h.le ha (leT_refl r), h2⟩
theorem runX_draw2 (hm : P.follows .mixedOrders = true) (lt : List Nat) {id : Nat} {l : List Oper} (hok : drawOk2 ⟨l⟩ (fun j => lt.contains j) = true)
    (h : ∀ Qv : Exit → St → Prop, Qv .normal S1 → drawK2 P Qv ((rootsK S (rootsOf l)).objs.length + l.length) (liteL2 (dstsL l) (fun j => lt.contains j) l 0) (rootsK S (rootsOf l)).objs.length (rootsK S (rootsOf l)).objs.length ⟨(rootsK S (rootsOf l)).tmps, (rootsK S (rootsOf l)).objs ++ List.replicate (l.length + 1) none⟩)
    (h2 : endX P Q .normal S1 k) : runX P Q (.region id ⟨l⟩ true) S k := by
  have h3 := h (fun e S' => e = .normal ∧ S' = S1) ⟨rfl, rfl⟩
  intro B a w μ hS
  have hS' : Sat B (rootsK S (rootsOf l)) a w μ := hS.roots l
  have h4 : drawW2 P ⟨l⟩ (fun j => lt.contains j) (rootsK S (rootsOf l)).objs.length l 0 (rootsK S (rootsOf l)).objs.length ⟨(rootsK S (rootsOf l)).tmps, (rootsK S (rootsOf l)).objs ++ List.replicate (l.length + 1) none⟩ (fun S' => (fun (e : Exit) (S' : St) => e = .normal ∧ S' = S1) .normal ⟨S'.tmps, trims S'.objs⟩) := by
    rw [drawL2_eq]; exact h3
  have := draw2_sound (id := id) (Q := fun e S' => e = .normal ∧ S' = S1) hm hok h4 hS'
  exact wp_mono this fun e a w ⟨S', μ', ⟨h5, h6⟩, h7⟩ => by
    subst h5; subst h6; exact ⟨S', μ', h2, h7⟩
end
section
variable {P : Program} {Q : Exit → St → Prop} {S S1 : St} {k : Kn}
theorem runX_regionC {id : Nat} {l : List Oper} (h : ∀ C, contX P Q k = C → runK P C (.region id ⟨l⟩ false) S .q) : runX P Q (.region id ⟨l⟩ false) S k := by
  have h3 := h _ rfl
  exact fun B a w μ hS => WP.region h3 B a w μ (hS.roots _)
theorem runX_drawC (hm : P.follows .mixedOrders = true) {id : Nat} {l : List Oper} (hok : drawOk ⟨l⟩ = true) (h : ∀ C, contX P Q k = C → runK P C (.region id ⟨l⟩ true) S .q) : runX P Q (.region id ⟨l⟩ true) S k :=
  wpC_sound hm (.region id ⟨l⟩ true) S _ hok (h _ rfl)
theorem runX_draw2C (hm : P.follows .mixedOrders = true) (lt : List Nat) {id : Nat} {l : List Oper} (hok : drawOk2 ⟨l⟩ (fun j => lt.contains j) = true)
    (h : ∀ C, contX P Q k = C → drawK2 P C ((rootsK S (rootsOf l)).objs.length + l.length) (liteL2 (dstsL l) (fun j => lt.contains j) l 0) (rootsK S (rootsOf l)).objs.length (rootsK S (rootsOf l)).objs.length ⟨(rootsK S (rootsOf l)).tmps, (rootsK S (rootsOf l)).objs ++ List.replicate (l.length + 1) none⟩) : runX P Q (.region id ⟨l⟩ true) S k := by
  have h3 := h _ rfl
  intro B a w μ hS
  have hS' : Sat B (rootsK S (rootsOf l)) a w μ := hS.roots l
  have h4 : drawW2 P ⟨l⟩ (fun j => lt.contains j) (rootsK S (rootsOf l)).objs.length l 0 (rootsK S (rootsOf l)).objs.length ⟨(rootsK S (rootsOf l)).tmps, (rootsK S (rootsOf l)).objs ++ List.replicate (l.length + 1) none⟩ (fun S' => contX P Q k .normal ⟨S'.tmps, trims S'.objs⟩) := by
    rw [drawL2_eq]; exact h3
  exact draw2_sound (id := id) (Q := contX P Q k) hm hok h4 hS'
theorem toEnd {C : Exit → St → Prop} (hC : contX P Q k = C) (h : endX P Q .normal S k) : C .normal S := hC ▸ h
end
attribute [go_sem] isApp drawK2_nil drawK2_cons drawK2_late drawK2_grd guardE_same guardE_tf guardE_ft guardE_nn callE2 liteL2 okE2
attribute [go_sem ↓] drawK2_call drawK2_call0
end Go.Proofs.YtaiapalhdejngaaX

/- Rows with other numbers. Of no program. -/
set_option linter.unusedVariables false
set_option linter.unusedSimpArgs false
namespace Go.Proofs.YtaiapalhdejngaaX
open Go Go.RowKit

/-- Two numbers, each in the other's place. -/
def sw (a b i : Nat) : Nat := bif i == a then b else bif i == b then a else i
theorem sw_sw (a b i : Nat) : sw a b (sw a b i) = i := by
  unfold sw
  simp only [Bool.cond_eq_ite, beq_iff_eq]
  split
  · split <;> simp_all
  · split
    · simp_all
    · first | rfl | (split <;> simp_all)
mutual
def renT (a b : Nat) : T → T
  | .imm v => .imm v
  | .agg l => .agg (renL a b l)
  | .sl sz full l => .sl sz full l
  | .pp x => .pp x
  | .ref o sz i c => .ref (sw a b o) sz i c
  | .rsl o sz off len => .rsl (sw a b o) sz off len
  | .fn f caps => .fn f (renL a b caps)
  | .ifc t x => .ifc t (renT a b x)
  | .tup l => .tup (renL a b l)
  | .junk => .junk
def renL (a b : Nat) : List T → List T
  | [] => []
  | x :: l => renT a b x :: renL a b l
end
theorem renL_length (a b : Nat) : ∀ l : List T, (renL a b l).length = l.length
  | [] => rfl
  | x :: l => by rw [renL, List.length_cons, renL_length a b l, List.length_cons]
theorem cells_ren (a b : Nat) (x : T) : (renT a b x).cells.length = x.cells.length := by
  cases x <;> simp only [renT, T.cells, renL_length] <;> rfl
def Own.ren (a b : Nat) : Own → Own
  | .box t x lk => .box t (renT a b x) lk
  | .buf t sz l lk => .buf t sz l lk
  | .dead => .dead
theorem Own.ren_lock (a b : Nat) (x : Own) : (x.ren a b).lock = x.lock := by
  cases x <;> simp only [Own.ren, Own.lock, cells_ren]
theorem Own.ren_dead {a b : Nat} {x : Own} : x.ren a b = .dead ↔ x = .dead := by
  cases x <;> simp [Own.ren]
def renO (a b : Nat) (o : List (Option Own)) : List (Option Own) := ((o.set a (o.getD b none)).set b (o.getD a none)).map (Option.map (Own.ren a b))
theorem renO_get {a b : Nat} {o : List (Option Own)} (ha : a < o.length) (hb : b < o.length) (i : Nat) : (renO a b o)[sw a b i]? = (o[i]?).map (Option.map (Own.ren a b)) := by
  unfold renO
  rw [List.getElem?_map]
  congr 1
  have g : ∀ k, k < o.length → some (o.getD k none) = o[k]? := fun k hk => by rw [List.getD_eq_getElem?_getD, List.getElem?_eq_getElem hk]; rfl
  unfold sw
  by_cases h1 : i = a
  · subst h1
    simp only [beq_self_eq_true, cond_true]
    rw [List.getElem?_set, if_pos rfl, List.length_set, if_pos hb, g _ ha]
  · by_cases h2 : i = b
    · subst h2
      simp only [beq_self_eq_true, cond_true, show (i == a) = false by simpa using h1, cond_false]
      rw [List.getElem?_set, if_neg h1, List.getElem?_set, if_pos rfl, if_pos ha, g _ hb]
    · simp only [show (i == a) = false by simpa using h1, show (i == b) = false by simpa using h2, cond_false]
      rw [List.getElem?_set, if_neg (fun e => h2 e.symm), List.getElem?_set, if_neg (fun e => h1 e.symm)]

section
variable {w : World} {μ : Nat → Option Nat} {ban : Ban} {o : List (Option Own)} {a b : Nat}
def envO (w : World) (μ : Nat → Option Nat) (o : List (Option Own)) (ban : Ban) : Env := ⟨w, μ, o, ban⟩
def envR (w : World) (μ : Nat → Option Nat) (o : List (Option Own)) (ban : Ban) (a b : Nat) : Env := ⟨w, fun i => μ (sw a b i), renO a b o, ban⟩
theorem ren_back (ha : a < o.length) (hb : b < o.length) {j : Nat} {y : Own} (h : (renO a b o)[j]? = some (some y)) : ∃ x, o[sw a b j]? = some (some x) ∧ y = x.ren a b := by
  have := renO_get ha hb (sw a b j)
  rw [sw_sw, h] at this
  cases h1 : o[sw a b j]? with
  | none => rw [h1] at this; cases this
  | some z =>
    rw [h1] at this
    cases z with
    | none => cases this
    | some x =>
      refine ⟨x, rfl, ?_⟩
      simpa using this
theorem ren_fore (ha : a < o.length) (hb : b < o.length) {i : Nat} {x : Own} (h : o[i]? = some (some x)) : (renO a b o)[sw a b i]? = some (some (x.ren a b)) := by
  rw [renO_get ha hb, h]; rfl
theorem ren_stepC (ha : a < o.length) (hb : b < o.length) : StepC (envO w μ o ban) (envR w μ o ban a b) :=
  ⟨fun k j v ⟨h1, h2, h3⟩ => ⟨h1, fun lk ⟨o', y, k1, k2, k3⟩ => by
    obtain ⟨x, e1, e2⟩ := ren_back ha hb k1
    exact h2 lk ⟨sw a b o', x, e1, k2, by rw [e2, Own.ren_lock] at k3; exact k3⟩, h3⟩, fun k c t fr hb => ⟨c, fr, hb, rfl⟩⟩
mutual
theorem Rep.ren (ha : a < o.length) (hb : b < o.length) : ∀ (x : T) (cl : Bool) (v : Value), Rep (envO w μ o ban) cl x v → Rep (envR w μ o ban a b) cl (renT a b x) v
  | .imm u, cl, v, k => by simpa only [renT, Rep] using k
  | .agg l, cl, v, k => by
    simp only [renT, Rep] at k ⊢
    obtain ⟨cs, h1, h2⟩ := k
    exact ⟨cs, h1, RepL.ren ha hb l cl _ h2⟩
  | .sl sz full l, cl, v, k => by
    simp only [renT, Rep] at k ⊢
    obtain ⟨A, cap, c, h1, h2, h3, h4, h5⟩ := k
    exact ⟨A, cap, c, h1, h2, (fun hf => ⟨(h3 hf).1, fun e => ((h3 hf).2 e).step (ren_stepC ha hb)⟩), RepR.stepC (ren_stepC ha hb) l sz c h4, h5.step (ren_stepC ha hb)⟩
  | .pp x, cl, v, k => by
    simp only [renT, Rep] at k ⊢
    obtain ⟨b', o', u, h1, h2, h3⟩ := k
    exact ⟨b', o', u, h1, Rep.stepC (ren_stepC ha hb) x u h2, h3.step (ren_stepC ha hb)⟩
  | .ref o' sz i c, cl, v, k => by
    simp only [renT, Rep] at k ⊢
    obtain ⟨h1, ⟨y, h2⟩, b', h3, h4⟩ := k
    exact ⟨h1, ⟨_, ren_fore ha hb h2⟩, b', by show μ (sw a b (sw a b o')) = _; rw [sw_sw]; exact h3, h4⟩
  | .rsl o' sz off len, cl, v, k => by
    simp only [renT, Rep] at k ⊢
    obtain ⟨h1, ⟨y, h2⟩, h3⟩ := k
    have hm : (envR w μ o ban a b).μ (sw a b o') = (envO w μ o ban).μ o' := by show μ (sw a b (sw a b o')) = μ o'; rw [sw_sw]
    refine ⟨h1, ⟨_, ren_fore ha hb h2⟩, ?_⟩
    rw [hm]
    exact h3
  | .fn f caps, cl, v, k => by
    simp only [renT, Rep] at k ⊢
    obtain ⟨cs, h1, h2⟩ := k
    exact ⟨cs, h1, RepL.ren ha hb caps cl _ h2⟩
  | .ifc t x, cl, v, k => by
    simp only [renT, Rep] at k ⊢
    obtain ⟨u, h1, h2⟩ := k
    exact ⟨u, h1, Rep.ren ha hb x cl u h2⟩
  | .tup l, cl, v, k => by
    simp only [renT, Rep] at k ⊢
    obtain ⟨cs, h1, h2⟩ := k
    exact ⟨cs, h1, RepL.ren ha hb l cl _ h2⟩
  | .junk, cl, v, k => by simp only [renT, Rep]
theorem RepL.ren (ha : a < o.length) (hb : b < o.length) : ∀ (l : List T) (cl : Bool) (vs : List Value), RepL (envO w μ o ban) cl l vs → RepL (envR w μ o ban a b) cl (renL a b l) vs
  | [], cl, vs, k => by simpa only [renL, RepL] using k
  | x :: l, cl, vs, k => by
    simp only [renL, RepL] at k ⊢
    obtain ⟨v, vs', h1, h2, h3⟩ := k
    exact ⟨v, vs', h1, Rep.ren ha hb x cl v h2, RepL.ren ha hb l cl vs' h3⟩
end
theorem OwnAt.ren (ha : a < o.length) (hb : b < o.length) {i : Nat} : ∀ {x : Own}, OwnAt (envO w μ o ban) i x → OwnAt (envR w μ o ban a b) (sw a b i) (x.ren a b)
  | .box t x lk, ⟨b', fr, u, h1, h2, h3, h4, h5⟩ => ⟨b', fr, u, by show μ (sw a b (sw a b i)) = _; rw [sw_sw]; exact h1, h2, h3, Rep.ren ha hb x false u h4, by rw [cells_ren]; exact h5⟩
  | .buf t sz l lk, ⟨h0, h1⟩ => by
    have hm : (envR w μ o ban a b).μ (sw a b i) = (envO w μ o ban).μ i := by show μ (sw a b (sw a b i)) = μ i; rw [sw_sw]
    refine ⟨h0, ?_⟩
    rw [hm]
    exact h1.imp id fun ⟨b', c, fr, c1, c2, h1, h2, h3, h4, h5⟩ => ⟨b', c, fr, c1, c2, h1, h2, h3, h4, RepR.stepC (ren_stepC ha hb) _ _ _ h5⟩
  | .dead, _ => trivial
end
/-- Rows a and b change their numbers. -/
theorem leS_sw {t : List T} {o : List (Option Own)} (a b : Nat) (ha : a < o.length) (hb : b < o.length) : leS ⟨t, o⟩ ⟨renL a b t, renO a b o⟩ := fun B A w μ hS =>
  ⟨fun i => μ (sw a b i), RepL.ren (w := w) (μ := μ) (ban := B.ban) ha hb t false _ hS.tmps, hS.defers,
   ⟨fun j y hj => by
      obtain ⟨x, e1, rfl⟩ := ren_back ha hb hj
      have := OwnAt.ren (w := w) (μ := μ) (ban := B.ban) ha hb (hS.objs.at_ _ x e1)
      rwa [sw_sw] at this,
    fun j j' y y' k h1 h2 h3 h4 h5 h6 => by
      obtain ⟨x, e1, rfl⟩ := ren_back ha hb h1
      obtain ⟨x', e1', rfl⟩ := ren_back ha hb h2
      have := hS.objs.inj _ _ x x' k e1 e1' (fun e => h3 (Own.ren_dead.2 e)) (fun e => h4 (Own.ren_dead.2 e)) h5 h6
      have := congrArg (sw a b) this
      rwa [sw_sw, sw_sw] at this⟩,
   fun j y k h1 h2 h3 => by
      obtain ⟨x, e1, rfl⟩ := ren_back ha hb h1
      rw [Own.ren_lock]
      exact hS.fresh _ x k e1 (fun e => h2 (Own.ren_dead.2 e)) h3,
   hS.kept⟩
theorem leS_swT {t : List T} {o : List (Option Own)} (a b : Nat) (ha : a < o.length) (hb : b < o.length) : leS ⟨t, o⟩ ⟨renL a b t, trims (renO a b o)⟩ := fun B A w μ hS => by
  obtain ⟨μ', h⟩ := leS_sw a b ha hb B A w μ hS
  exact ⟨μ', h.same fun i x => trims_get _ i x⟩
theorem renL_map {α : Type} (a b : Nat) (e : α → T) (h : ∀ x, renT a b (e x) = e x) : ∀ l : List α, renL a b (List.map e l) = List.map e l
  | [] => rfl
  | x :: l => by rw [List.map_cons, renL, h, renL_map a b e h l]
end Go.Proofs.YtaiapalhdejngaaX

/- A struct that is built: the run stops there. Of no program. -/
set_option linter.unusedVariables false
set_option linter.unusedSimpArgs false
namespace Go.Proofs.YtaiapalhdejngaaX
open Go Go.RowKit

def bldG (P : Program) (Q : Exit → St → Prop) (t : TypeId) (parts : List (Nat × T)) (dst : Option Tmp) (rest : List (Op × Option Tmp × Option (Option Tmp × Bool))) (S : St) (k : Kn) : Prop := buildW P t parts fun v => stepsK P Q rest (S.put dst v) k
theorem stepsK_build (P : Program) (Q : Exit → St → Prop) (S : St) (k : Kn) (t : TypeId) (l : List (Nat × Operand)) (dst : Option Tmp) (rest : List (Op × Option Tmp × Option (Option Tmp × Bool))) :
    stepsK P Q ((.build t ⟨l⟩, dst, none) :: rest) S k = bldG P Q t (l.map fun p => (p.1, evalT S p.2)) dst rest S k := by
  rw [stepsK_cons]
  simp only [opW]
  rfl
theorem stepsK_build0 (P : Program) (Q : Exit → St → Prop) (S : St) (k : Kn) (t : TypeId) (dst : Option Tmp) (rest : List (Op × Option Tmp × Option (Option Tmp × Bool))) :
    stepsK P Q ((.build t #[], dst, none) :: rest) S k = bldG P Q t [] dst rest S k := stepsK_build P Q S k t [] dst rest
theorem bldG_of {P : Program} {Q : Exit → St → Prop} {t : TypeId} {parts : List (Nat × T)} {dst : Option Tmp} {rest : List (Op × Option Tmp × Option (Option Tmp × Bool))} {S : St} {k : Kn} (l : List T) (h : buildL P t parts = some l) (hK : stepsK P Q rest (S.put dst (.agg l)) k) : bldG P Q t parts dst rest S k := buildW_of l h hK
/-- .. and a slice that is built. -/
def bsG (P : Program) (Q : Exit → St → Prop) (t : TypeId) (n : Nat) (parts : List (Nat × T)) (dst : Option Tmp) (rest : List (Op × Option Tmp × Option (Option Tmp × Bool))) (S : St) (k : Kn) : Prop := buildSliceX P S.objs.length t n parts fun v eff => stepsK P Q rest ((S.after eff).put dst v) k
theorem stepsK_bs (P : Program) (Q : Exit → St → Prop) (S : St) (k : Kn) (t : TypeId) (n : Nat) (l : List (Nat × Operand)) (dst : Option Tmp) (rest : List (Op × Option Tmp × Option (Option Tmp × Bool))) :
    stepsK P Q ((.buildSlice t n ⟨l⟩, dst, none) :: rest) S k = bsG P Q t n (l.map fun p => (p.1, evalT S p.2)) dst rest S k := by
  rw [stepsK_cons]
  simp only [opW]
  rfl
theorem stepsK_bs0 (P : Program) (Q : Exit → St → Prop) (S : St) (k : Kn) (t : TypeId) (n : Nat) (dst : Option Tmp) (rest : List (Op × Option Tmp × Option (Option Tmp × Bool))) :
    stepsK P Q ((.buildSlice t n #[], dst, none) :: rest) S k = bsG P Q t n [] dst rest S k := stepsK_bs P Q S k t n [] dst rest
theorem bs_go {P : Program} {Q : Exit → St → Prop} {t : TypeId} {n : Nat} {parts : List (Nat × T)} {dst : Option Tmp} {rest : List (Op × Option Tmp × Option (Option Tmp × Bool))} {S : St} {k : Kn} (h : buildSliceX P S.objs.length t n parts fun v eff => stepsK P Q rest ((S.after eff).put dst v) k) : bsG P Q t n parts dst rest S k := h
theorem closedL_map {α : Type} (e : α → T) (h : ∀ x, closedT (e x) = true) : ∀ l : List α, closedL (List.map e l) = true
  | [] => rfl
  | x :: l => by rw [List.map_cons, closedL, h, closedL_map e h l]; rfl
theorem ppL_map {α : Type} (o : Nat) (y : T) (e : α → T) (h : ∀ x, ppT o y (e x) = e x) : ∀ l : List α, ppL o y (List.map e l) = List.map e l
  | [] => rfl
  | x :: l => by rw [List.map_cons, ppL, h, ppL_map o y e h l]
theorem ppL_s (o : Nat) (y : T) (l : List (List UInt8)) : ppL o y (List.map eS l) = List.map eS l := ppL_map o y _ (fun _ => rfl) l
/-- Elements, one by one. -/
def leE (l l' : List T) : Prop := ∀ (E : Env) (sz : Nat) (c : List Value), RepR E sz l c → RepR E sz l' c
theorem leE_refl (l : List T) : leE l l := fun _ _ _ h => h
theorem leE_cons {x y : T} {l l' : List T} (h : leT anyE x y) (h' : leE l l') : leE (x :: l) (y :: l') := fun E sz c k => by
  simp only [RepR] at k ⊢
  obtain ⟨u, c', e, h1, h2, h3⟩ := k
  exact ⟨u, c', e, h1, h E true u trivial h2, h' E sz c' h3⟩
theorem leT_slX {sz : Nat} {f : Bool} {l l' : List T} (h : leE l l') (hl : l'.length = l.length) : leT anyE (.sl sz f l) (.sl sz false l') := fun E cl v hp k => by
  simp only [Rep] at k ⊢
  obtain ⟨a, cap, c, h1, h2, h3, h4, h5⟩ := k
  exact ⟨a, cap, c, by rw [hl]; exact h1, by rw [hl]; exact h2, (fun h => by cases h), h E sz c h4, h5⟩
theorem frzL_map {α : Type} (S : St) (e : α → T) (h : ∀ (S : St) (x : α), S.frzT (e x) = S) : ∀ l : List α, S.frzL (List.map e l) = S
  | [] => rfl
  | x :: l => by rw [List.map_cons, St.frzL, h, frzL_map S e h l]
theorem frzL_u8 (S : St) (l : List Int) : S.frzL (List.map byteT l) = S := frzL_map _ _ (fun _ _ => rfl) l
theorem frzL_i (S : St) (k : IntKind) (l : List Int) : S.frzL (List.map (eI k) l) = S := frzL_map _ _ (fun _ _ => rfl) l
theorem frzL_b (S : St) (l : List Bool) : S.frzL (List.map eB l) = S := frzL_map _ _ (fun _ _ => rfl) l
theorem frzL_s (S : St) (l : List (List UInt8)) : S.frzL (List.map eS l) = S := frzL_map _ _ (fun _ _ => rfl) l
attribute [go_sem] frzL_u8 frzL_i frzL_b frzL_s
theorem closedL_u8 (l : List Int) : closedL (List.map byteT l) = true := closedL_map _ (fun _ => rfl) l
theorem closedL_i (k : IntKind) (l : List Int) : closedL (List.map (eI k) l) = true := closedL_map _ (fun _ => rfl) l
theorem closedL_b (l : List Bool) : closedL (List.map eB l) = true := closedL_map _ (fun _ => rfl) l
theorem closedL_s (l : List (List UInt8)) : closedL (List.map eS l) = true := closedL_map _ (fun _ => rfl) l
theorem dsnapL_map {α : Type} (look : Nat → Option Own) (e : α → T) (h : ∀ x, dsnap look (e x) = e x) : ∀ l : List α, dsnapL look (List.map e l) = List.map e l
  | [] => rfl
  | x :: l => by rw [List.map_cons, dsnapL, h, dsnapL_map look e h l]
theorem dsnapL_u8 (look : Nat → Option Own) (l : List Int) : dsnapL look (List.map byteT l) = List.map byteT l := dsnapL_map _ _ (fun _ => rfl) l
theorem dsnapL_i (look : Nat → Option Own) (k : IntKind) (l : List Int) : dsnapL look (List.map (eI k) l) = List.map (eI k) l := dsnapL_map _ _ (fun _ => rfl) l
theorem dsnapL_b (look : Nat → Option Own) (l : List Bool) : dsnapL look (List.map eB l) = List.map eB l := dsnapL_map _ _ (fun _ => rfl) l
theorem dsnapL_s (look : Nat → Option Own) (l : List (List UInt8)) : dsnapL look (List.map eS l) = List.map eS l := dsnapL_map _ _ (fun _ => rfl) l
attribute [go_sem] closedL_u8 closedL_i closedL_b closedL_s dsnapL_u8 dsnapL_i dsnapL_b dsnapL_s
end Go.Proofs.YtaiapalhdejngaaX

/- Contracts over rows of the caller's, by a run; and their use. Of no program. -/
set_option linter.unusedVariables false
set_option linter.unusedSimpArgs false
namespace Go.Proofs.YtaiapalhdejngaaX
open Go Go.RowKit

/-! ### At a function's end -/
def lockFr (n : Nat) : Nat → List (Option Own) → List (Option Own)
  | _, [] => []
  | i, x :: l => (if i < n then x else x.map Own.lockAll) :: lockFr n (i + 1) l
theorem lockFr_get (n : Nat) : ∀ (l : List (Option Own)) (i o : Nat), (lockFr n i l)[o]? = (l[o]?).map fun x => if i + o < n then x else x.map Own.lockAll
  | [], i, o => by simp [lockFr]
  | x :: l, i, o => by
    cases o with
    | zero => simp [lockFr]
    | succ o =>
      have := lockFr_get n l (i + 1) o
      rw [show i + 1 + o = i + (o + 1) by omega] at this
      simpa [lockFr] using this
theorem Sat.lockFr {B : Base} {S : St} {a : Act} {w : World} {μ : Nat → Option Nat} (hS : Sat B S a w μ) (n : Nat) : Sat B ⟨S.tmps, Go.Proofs.YtaiapalhdejngaaX.lockFr n 0 S.objs⟩ a w μ := by
  refine hS.relock fun i => ?_
  rw [lockFr_get, Nat.zero_add]
  cases h : S.objs[i]? with
  | none => exact .none
  | some x =>
    rw [Option.map_some]
    by_cases hi : i < n
    · rw [if_pos hi]; exact RL.refl _
    · rw [if_neg hi]
      cases x with
      | none => exact .free
      | some y =>
        cases y with
        | box t x lk => exact .box fun _ => rfl
        | buf t sz l lk => exact .buf (Nat.le_max_left _ _) (fun h => Nat.max_le.2 ⟨h, Nat.le_refl _⟩)
        | dead => exact .dead
def lookFr (n : Nat) (o : List (Option Own)) (i : Nat) : Option Own := if i < n then none else o.getD i none
theorem lookFr_some {n : Nat} {o : List (Option Own)} {i : Nat} {x : Own} (h : lookFr n o i = some x) : o[i]? = some (some x) := by
  unfold lookFr at h
  split at h
  · cases h
  · rw [List.getD_eq_getElem?_getD] at h
    cases hz : o[i]? with
    | none => rw [hz] at h; cases h
    | some z => rw [hz] at h; exact congrArg some h
def Own.snap (look : Nat → Option Own) : Own → Own
  | .box t x lk => .box t (dsnap look x) lk
  | .buf t sz l lk => .buf t sz l lk
  | .dead => .dead
theorem dsnapL_length (look : Nat → Option Own) (l : List T) : (dsnapL look l).length = l.length := by rw [dsnapL_eq]; simp
theorem cells_dsnap (look : Nat → Option Own) (x : T) : (dsnap look x).cells.length = x.cells.length := by
  cases x with
  | agg l => simp only [dsnap, T.cells, dsnapL_length]
  | rsl o sz off len =>
    rw [dsnap]; unfold Go.Proofs.YtaiapalhdejngaaX.snap
    dsimp only
    split
    · split <;> rfl
    · rfl
  | _ => rfl
theorem Own.snap_lock (look : Nat → Option Own) (x : Own) : (x.snap look).lock = x.lock := by
  cases x <;> simp only [Own.snap, Own.lock, cells_dsnap]
theorem Own.snap_dead {look : Nat → Option Own} {x : Own} : x.snap look = .dead ↔ x = .dead := by cases x <;> simp [Own.snap]
theorem Sat.snapR {B : Base} {S : St} {a : Act} {w : World} {μ : Nat → Option Nat} (hS : Sat B S a w μ) {look : Nat → Option Own} (hl : ∀ i x, look i = some x → S.objs[i]? = some (some x)) : Sat B ⟨dsnapL look S.tmps, S.objs.map (Option.map (Own.snap look))⟩ a w μ := by
  have hget : ∀ (o : Nat) (y : Own), (S.objs.map (Option.map (Own.snap look)))[o]? = some (some y) → ∃ x, S.objs[o]? = some (some x) ∧ y = x.snap look := by
    intro o y h
    rw [List.getElem?_map] at h
    cases hz : S.objs[o]? with
    | none => rw [hz] at h; cases h
    | some z =>
      rw [hz] at h
      cases z with
      | none => cases h
      | some z =>
        have h : some (some (z.snap look)) = some (some y) := h
        injection h with h; injection h with h
        exact ⟨z, rfl, h.symm⟩
  have hst : Step [] ⟨w, μ, S.objs, B.ban⟩ ⟨w, μ, S.objs.map (Option.map (Own.snap look)), B.ban⟩ := by
    refine ⟨⟨fun b j v ⟨h1, h2, h3⟩ => ⟨h1, fun lk ⟨o, y, k1, k2, k3⟩ => ?_, h3⟩, fun b c t fr hb => ⟨c, fr, hb, rfl⟩⟩, fun o ⟨x, hx⟩ _ => ⟨x.snap look, ?_⟩, fun _ _ _ => rfl⟩
    · obtain ⟨x, e1, rfl⟩ := hget o y k1
      rw [Own.snap_lock] at k3
      exact h2 lk ⟨o, x, e1, k2, k3⟩
    · have hx : S.objs[o]? = some (some x) := hx
      show (S.objs.map _)[o]? = _
      rw [List.getElem?_map, hx]; rfl
  refine ⟨RepL.step hst (dsnapL_rep hS hl _ _ hS.tmps), hS.defers, ⟨fun o y hy => ?_, fun o o' y y' b h1 h2 hd hd' hb hb' => ?_⟩, fun o y b h1 hd hb => ?_, hS.kept⟩
  · obtain ⟨x, hx, rfl⟩ := hget o y hy
    have := hS.objs.at_ o x hx
    cases x with
    | box t x lk =>
      obtain ⟨b, fr, u, h1, h2, h3, h4, h5⟩ := this
      exact ⟨b, fr, u, h1, h2, h3, Rep.step hst (dsnap_rep hS hl _ _ h4), by rw [cells_dsnap]; exact h5⟩
    | buf t sz l lk =>
      obtain ⟨h0, h1⟩ := this
      exact ⟨h0, h1.imp id fun ⟨b, c, fr, c1, c2, h1, h2, h3, h4, h5⟩ => ⟨b, c, fr, c1, c2, h1, h2, h3, h4, RepR.stepC hst.toStepC _ _ _ h5⟩⟩
    | dead => trivial
  · obtain ⟨x, hx, rfl⟩ := hget o y h1
    obtain ⟨x', hx', rfl⟩ := hget o' y' h2
    exact hS.objs.inj o o' x x' b hx hx' (fun e => hd (Own.snap_dead.2 e)) (fun e => hd' (Own.snap_dead.2 e)) hb hb'
  · obtain ⟨x, hx, rfl⟩ := hget o y h1
    rw [Own.snap_lock]
    exact hS.fresh o x b hx (fun e => hd (Own.snap_dead.2 e)) hb
/-- Rows from a number on are locked, and seen as slices; these temporaries alone are kept. -/
def St.fin (S : St) (n : Nat) (ts : List Nat) : St :=
  (St.keep ⟨dsnapL (lookFr n (lockFr n 0 S.objs)) S.tmps, (lockFr n 0 S.objs).map (Option.map (Own.snap (lookFr n (lockFr n 0 S.objs))))⟩ ts).cut n
theorem Sat.fin {B : Base} {S : St} {a : Act} {w : World} {μ : Nat → Option Nat} (hS : Sat B S a w μ) (n : Nat) (ts : List Nat) : Sat B (S.fin n ts) a w μ :=
  (((hS.lockFr n).snapR (look := lookFr n (Go.Proofs.YtaiapalhdejngaaX.lockFr n 0 S.objs)) fun i x h => lookFr_some h).keep ts).cut n

def RetR (P : Program) (fn : Func) (res : T) (n : Nat) (ts : List Nat) (objs' : List (Option Own)) : Exit → St → Prop
  | .normal, S | .ret, S => leOs anyE (S.fin n ts).objs objs' ∧ resW P ⟨(S.fin n ts).tmps, objs'⟩ fn.results.toList fun l => leT anyE (retT l) res
  | _, _ => False
theorem FnR.ofW {P : Program} {f : FuncId} {fn : Func} {c : Code} {objs objs' : List (Option Own)} {args : List T} {res : T} (ts : List Nat) (hf : P.funcs[f]? = some fn) (hn : (fn.name == "runtime.NumGoroutine") = false) (hb : fn.body = some c)
    (hrows : rowsOk objs.length 0 objs = true) (hsame : sameO objs objs' = true) (hrefs : (refsCL args).all (fun o => decide (o < objs.length)) = true)
    (h : WP P c ⟨args ++ List.replicate (fn.ntmps - args.length) .junk, objs⟩ (RetR P fn res objs.length ts objs')) : FnR P f objs args res objs' := by
  refine ⟨⟨fn, hf, hn, by rw [hb]; rfl⟩, hrows, hsame, hrefs, fun B μ vs hO hOwn hv => ?_⟩
  have hlen := hv.length
  rw [Array.length_toList] at hlen
  have hS : Sat B ⟨args ++ List.replicate (fn.ntmps - args.length) .junk, objs⟩ { tmps := vs ++ Array.replicate (fn.ntmps - vs.size) undef, defers := [] } B.w μ := by
    refine ⟨?_, rfl, hO, fun o x b h1 h2 h3 => ?_, ⟨rfl, rfl, rfl, Nat.le_refl _, fun _ _ _ => rfl, fun _ _ _ _ _ => rfl, fun k lk _ c t fr h => ⟨c, fr, h, rfl⟩⟩⟩
    · have e : (vs ++ Array.replicate (fn.ntmps - vs.size) undef).toList = vs.toList ++ List.replicate (fn.ntmps - args.length) undef := by simp [hlen]
      show RepL _ _ _ (vs ++ Array.replicate (fn.ntmps - vs.size) undef).toList
      rw [e]
      refine RepL.append hv ?_
      generalize fn.ntmps - args.length = n
      induction n with
      | zero => simp [RepL]
      | succ n ih => simp only [List.replicate_succ, RepL]; exact ⟨_, _, rfl, by simp only [Rep], ih⟩
    · have h1 : objs[o]? = some (some x) := h1
      obtain ⟨l, hl⟩ : ∃ l, x.lock = some l := by cases x <;> first | exact ⟨_, rfl⟩ | exact absurd rfl h2
      exact .inr ⟨0, l, (hOwn.1 b 0).2 ⟨rfl, o, (List.getElem?_eq_some_iff.1 h1).1, h3⟩, hl, Nat.zero_le _⟩
  refine calls_of_wp hf hb (wp_mono (h B _ _ _ hS) fun e a w' ⟨S, μ1, hQ, hS'⟩ => ?_)
  have main : (leOs anyE (S.fin objs.length ts).objs objs' ∧ resW P ⟨(S.fin objs.length ts).tmps, objs'⟩ fn.results.toList fun l => leT anyE (retT l) res) → a.defers = [] ∧ ∃ v, (results fn a.tmps).run P w' = .ok v w' ∧ (∃ u μ', Ending.returned v = .returned u ∧ Objs ⟨w', μ', objs', B.ban⟩ ∧ Rep ⟨w', μ', objs', B.ban⟩ false res u ∧ Kept B w' ∧ (∀ (o : Nat) (x : Own) (b : Nat), objs'[o]? = some (some x) → x ≠ .dead → μ' o = some b → B.w.heap.size ≤ b ∨ B.own b 0)) := by
    rintro ⟨hR1, hR2⟩
    have hF : Sat B ⟨(S.fin objs.length ts).tmps, objs'⟩ a w' μ1 := (hS'.fin objs.length ts).le (p := anyE) (leL_refl _) hR1 trivial
    obtain ⟨l, us, h1, h3, h4⟩ := res_sound hF _ _ hR2
    refine ⟨hF.defers, if hh : us.toArray.size = 1 then us.toArray[0] else .tuple us.toArray, ?_, _, μ1, rfl, hF.objs, ?_, hF.kept, fun o x b k1 k2 k3 => ?_⟩
    · have hm : (fn.results.mapM (fun | .tmp t => pure (a.tmps.getD t undef) | .cell c t => do loadVar t (← asAddr (a.tmps.getD c undef)) : ResultVar → Sem Value)).run P w' = .ok us.toArray w' := by
        rw [Array.mapM_eq_mapM_toList, Sem.run_map]
        have : (fun | .tmp t => pure (a.tmps.getD t undef) | .cell c t => do loadVar t (← asAddr (a.tmps.getD c undef)) : ResultVar → Sem Value) = rdRes a.tmps := by
          funext r; cases r <;> rfl
        rw [this, h3]; rfl
      unfold results
      exact run_bind (f := fun vs : Array Value => (pure (if h : vs.size = 1 then vs[0] else Value.tuple vs) : Sem Value)) hm
    · refine h1 _ _ _ trivial ?_
      have hul := h4.length
      by_cases h1' : us.length = 1
      · obtain ⟨u, rfl⟩ := List.length_eq_one_iff.1 h1'
        obtain ⟨x, rfl⟩ := List.length_eq_one_iff.1 (hul.symm.trans h1')
        simp only [RepL] at h4
        obtain ⟨v, vs', e1, e2, e3⟩ := h4
        subst e3
        cases e1
        simpa [retT] using e2
      · rw [dif_neg (by simpa using h1')]
        have e : retT l = .tup l := by
          cases l with
          | nil => rfl
          | cons x l => cases l with
            | nil => exact absurd hul h1'
            | cons y l => rfl
        rw [e]
        simp only [Rep]
        exact ⟨_, rfl, by simpa using h4⟩
    · rcases hF.fresh o x b k1 k2 k3 with h | ⟨lk, lk', q1, _⟩
      · exact .inl h
      · have := ((hOwn.1 b lk).1 q1).1
        subst this
        exact .inr q1
  cases e with
  | normal => exact main hQ
  | ret => exact main hQ
  | _ => exact hQ.elim
theorem FnR.goX {P : Program} (hm : P.follows .mixedOrders = true) (ts : List Nat) {f : FuncId} {fn : Func} {c : Code} {objs objs' : List (Option Own)} {args : List T} {res : T} (hf : P.funcs[f]? = some fn) (hn : (fn.name == "runtime.NumGoroutine") = false) (hb : fn.body = some c)
    (hrows : rowsOk objs.length 0 objs = true) (hsame : sameO objs objs' = true) (hrefs : (refsCL args).all (fun o => decide (o < objs.length)) = true)
    (h : runX P (RetR P fn res objs.length ts objs') c ⟨args ++ List.replicate (fn.ntmps - args.length) .junk, objs⟩ .q) : FnR P f objs args res objs' := FnR.ofW ts hf hn hb hrows hsame hrefs h
section
variable {P : Program} {Q : Exit → St → Prop} {g : FuncId} {args args' : List T} {dst : Option Tmp} {rest : List (Op × Option Tmp × Option (Option Tmp × Bool))} {S : St} {k : Kn} {r : T} {objs objs' : List (Option Own)}
theorem callR_X (σ : List Nat) (h : FnR P g objs args' r objs') (hnd : σ.Nodup) (hrel : relsO σ (lookS S) σ objs) (ha : leL anyE args (renFL σ args')) (h2 : stepsK P Q rest ((S.after (.many (movesO σ objs) (newsO σ (lookS S) σ objs'))).put dst (renF σ r)) k) : callG P Q g args dst rest S k :=
  .inr ⟨σ, objs, args', r, objs', h, hnd, hrel, fun E vs hv => ha E false vs trivial hv, h2⟩
end
theorem renFL_map {α : Type} (f : List Nat) (e : α → T) (h : ∀ x, renF f (e x) = e x) : ∀ l : List α, renFL f (List.map e l) = List.map e l
  | [] => rfl
  | x :: l => by rw [List.map_cons, renFL, h, renFL_map f e h l]

/-! ### A pointer of a variable to itself, or none -/
def adT (b : Bool) (o : Nat) : T := match b with | true => .ref o 7777 0 0 | false => .imm (.pointer none)
theorem adT_refs (b : Bool) (o : Nat) : refsT (adT b o) = [] := by cases b <;> rfl
theorem adT_refsC {b : Bool} {o n : Nat} (h : o < n) : (refsC (adT b o)).all (fun q => decide (q < n)) = true := by cases b <;> simp [adT, refsC, h]
theorem adT_ren (f : List Nat) (b : Bool) (o : Nat) : renF f (adT b o) = adT b (f.getD o 0) := by cases b <;> rfl
theorem adT_kill {ks : List Nat} {b : Bool} {o : Nat} (h : ks.contains o = false) : kill ks (adT b o) = adT b o := by
  cases b
  · rfl
  · show (if ks.contains o = true then _ else _) = _
    rw [h]; rfl
theorem adT_snap (look : Nat → Option Own) (b : Bool) (o : Nat) : dsnap look (adT b o) = adT b o := by cases b <;> rfl
theorem adT_cells (b : Bool) (o : Nat) : (adT b o).cells = [adT b o] := by cases b <;> rfl
attribute [go_sem] adT_refs adT_refsC adT_ren adT_kill adT_snap adT_cells
attribute [go_sem] lockFr lookFr Own.snap St.fin renF renFL movesO newsO newO setsO relsO relO renFL_map
end Go.Proofs.YtaiapalhdejngaaX

/- What the program's types are. -/
set_option linter.unusedVariables false
namespace Go.Proofs.YtaiapalhdejngaaX
open Go Go.RowKit Go.Proofs
theorem small_of {P : Program} {t : TypeId} (h : ((P.info? t).all fun i => decide (i.bytes ≤ 256)) = true) : ∀ i, P.info? t = some i → i.bytes ≤ 256 := fun i hi => by
  rw [hi] at h; simpa using h
theorem notInt_of {d : Option TypeDesc} (h : (match d with | some (.int _) => false | some _ => true | none => false) = true) : notInt d := by
  cases d with
  | none => cases h
  | some d => refine ⟨d, rfl, fun k e => ?_⟩; subst e; cases h
theorem mixed : Try.prog.follows .mixedOrders = true := by kernel_rfl
theorem sz2 : szOf Try.prog 2 = 1 := by kernel_rfl
theorem cz2 : Try.prog.cellsOf 2 = 1 := by kernel_rfl
theorem ok2 : okT Try.prog 2 = true := by kernel_rfl
theorem ze2 : zeroOf Try.prog 2 = .imm (.int .i64 0) := by kernel_rfl
theorem by2 : (∀ i, Try.prog.info? 2 = some i → i.bytes ≤ 256) = True := eq_true (small_of (by kernel_rfl))
theorem sz3 : szOf Try.prog 3 = 1 := by kernel_rfl
theorem cz3 : Try.prog.cellsOf 3 = 1 := by kernel_rfl
theorem ok3 : okT Try.prog 3 = true := by kernel_rfl
theorem ze3 : zeroOf Try.prog 3 = .imm (.int .i64 0) := by kernel_rfl
theorem by3 : (∀ i, Try.prog.info? 3 = some i → i.bytes ≤ 256) = True := eq_true (small_of (by kernel_rfl))
theorem sz4 : szOf Try.prog 4 = 1 := by kernel_rfl
theorem cz4 : Try.prog.cellsOf 4 = 1 := by kernel_rfl
theorem ok4 : okT Try.prog 4 = true := by kernel_rfl
theorem ze4 : zeroOf Try.prog 4 = .imm (.bool false) := by kernel_rfl
theorem by4 : (∀ i, Try.prog.info? 4 = some i → i.bytes ≤ 256) = True := eq_true (small_of (by kernel_rfl))
theorem ni4 : notInt (Try.prog.underlying 4) = True := eq_true (notInt_of (by kernel_rfl))
theorem sz5 : szOf Try.prog 5 = 1 := by kernel_rfl
theorem cz5 : Try.prog.cellsOf 5 = 1 := by kernel_rfl
theorem ok5 : okT Try.prog 5 = true := by kernel_rfl
theorem ze5 : zeroOf Try.prog 5 = .imm (.int .u8 0) := by kernel_rfl
theorem by5 : (∀ i, Try.prog.info? 5 = some i → i.bytes ≤ 256) = True := eq_true (small_of (by kernel_rfl))
theorem sz6 : szOf Try.prog 6 = 1 := by kernel_rfl
theorem cz6 : Try.prog.cellsOf 6 = 1 := by kernel_rfl
theorem ok6 : okT Try.prog 6 = true := by kernel_rfl
theorem ze6 : zeroOf Try.prog 6 = .imm (.int .u8 0) := by kernel_rfl
theorem by6 : (∀ i, Try.prog.info? 6 = some i → i.bytes ≤ 256) = True := eq_true (small_of (by kernel_rfl))
theorem sz7 : szOf Try.prog 7 = 4 := by kernel_rfl
theorem cz7 : Try.prog.cellsOf 7 = 4 := by kernel_rfl
theorem ok7 : okT Try.prog 7 = true := by kernel_rfl
theorem ze7 : zeroOf Try.prog 7 = .agg [.imm (.int .i64 0), .imm (.int .i64 0), .imm (.bool false), .imm (.int .u8 0)] := by kernel_rfl
theorem by7 : (∀ i, Try.prog.info? 7 = some i → i.bytes ≤ 256) = True := eq_true (small_of (by kernel_rfl))
theorem ni7 : notInt (Try.prog.underlying 7) = True := eq_true (notInt_of (by kernel_rfl))
theorem sz8 : szOf Try.prog 8 = 4 := by kernel_rfl
theorem cz8 : Try.prog.cellsOf 8 = 4 := by kernel_rfl
theorem ok8 : okT Try.prog 8 = true := by kernel_rfl
theorem ze8 : zeroOf Try.prog 8 = .agg [.imm (.int .i64 0), .imm (.int .i64 0), .imm (.bool false), .imm (.int .u8 0)] := by kernel_rfl
theorem by8 : (∀ i, Try.prog.info? 8 = some i → i.bytes ≤ 256) = True := eq_true (small_of (by kernel_rfl))
theorem ni8 : notInt (Try.prog.underlying 8) = True := eq_true (notInt_of (by kernel_rfl))
theorem sz9 : szOf Try.prog 9 = 1 := by kernel_rfl
theorem cz9 : Try.prog.cellsOf 9 = 1 := by kernel_rfl
theorem ok9 : okT Try.prog 9 = true := by kernel_rfl
theorem ze9 : zeroOf Try.prog 9 = .imm (.string ByteArray.empty) := by kernel_rfl
theorem by9 : (∀ i, Try.prog.info? 9 = some i → i.bytes ≤ 256) = True := eq_true (small_of (by kernel_rfl))
theorem ni9 : notInt (Try.prog.underlying 9) = True := eq_true (notInt_of (by kernel_rfl))
theorem sz10 : szOf Try.prog 10 = 1 := by kernel_rfl
theorem cz10 : Try.prog.cellsOf 10 = 1 := by kernel_rfl
theorem ok10 : okT Try.prog 10 = true := by kernel_rfl
theorem ze10 : zeroOf Try.prog 10 = .imm (.string ByteArray.empty) := by kernel_rfl
theorem by10 : (∀ i, Try.prog.info? 10 = some i → i.bytes ≤ 256) = True := eq_true (small_of (by kernel_rfl))
theorem ni10 : notInt (Try.prog.underlying 10) = True := eq_true (notInt_of (by kernel_rfl))
theorem sz11 : szOf Try.prog 11 = 1 := by kernel_rfl
theorem cz11 : Try.prog.cellsOf 11 = 1 := by kernel_rfl
theorem ok11 : okT Try.prog 11 = true := by kernel_rfl
theorem ze11 : zeroOf Try.prog 11 = .imm (.string ByteArray.empty) := by kernel_rfl
theorem by11 : (∀ i, Try.prog.info? 11 = some i → i.bytes ≤ 256) = True := eq_true (small_of (by kernel_rfl))
theorem ni11 : notInt (Try.prog.underlying 11) = True := eq_true (notInt_of (by kernel_rfl))
theorem sz12 : szOf Try.prog 12 = 1 := by kernel_rfl
theorem cz12 : Try.prog.cellsOf 12 = 1 := by kernel_rfl
theorem ok12 : okT Try.prog 12 = true := by kernel_rfl
theorem ze12 : zeroOf Try.prog 12 = .imm (.int .u64 0) := by kernel_rfl
theorem by12 : (∀ i, Try.prog.info? 12 = some i → i.bytes ≤ 256) = True := eq_true (small_of (by kernel_rfl))
theorem sz13 : szOf Try.prog 13 = 2 := by kernel_rfl
theorem cz13 : Try.prog.cellsOf 13 = 2 := by kernel_rfl
theorem ok13 : okT Try.prog 13 = true := by kernel_rfl
theorem ze13 : zeroOf Try.prog 13 = .agg [.imm (.string ByteArray.empty), .imm (.int .u64 0)] := by kernel_rfl
theorem by13 : (∀ i, Try.prog.info? 13 = some i → i.bytes ≤ 256) = True := eq_true (small_of (by kernel_rfl))
theorem ni13 : notInt (Try.prog.underlying 13) = True := eq_true (notInt_of (by kernel_rfl))
theorem sz14 : szOf Try.prog 14 = 2 := by kernel_rfl
theorem cz14 : Try.prog.cellsOf 14 = 2 := by kernel_rfl
theorem ok14 : okT Try.prog 14 = true := by kernel_rfl
theorem ze14 : zeroOf Try.prog 14 = .agg [.imm (.string ByteArray.empty), .imm (.int .u64 0)] := by kernel_rfl
theorem by14 : (∀ i, Try.prog.info? 14 = some i → i.bytes ≤ 256) = True := eq_true (small_of (by kernel_rfl))
theorem ni14 : notInt (Try.prog.underlying 14) = True := eq_true (notInt_of (by kernel_rfl))
theorem sz15 : szOf Try.prog 15 = 1 := by kernel_rfl
theorem cz15 : Try.prog.cellsOf 15 = 1 := by kernel_rfl
theorem ok15 : okT Try.prog 15 = true := by kernel_rfl
theorem ze15 : zeroOf Try.prog 15 = .imm (.pointer none) := by kernel_rfl
theorem by15 : (∀ i, Try.prog.info? 15 = some i → i.bytes ≤ 256) = True := eq_true (small_of (by kernel_rfl))
theorem ni15 : notInt (Try.prog.underlying 15) = True := eq_true (notInt_of (by kernel_rfl))
theorem sz16 : szOf Try.prog 16 = 1 := by kernel_rfl
theorem cz16 : Try.prog.cellsOf 16 = 1 := by kernel_rfl
theorem ok16 : okT Try.prog 16 = true := by kernel_rfl
theorem ze16 : zeroOf Try.prog 16 = .imm (.pointer none) := by kernel_rfl
theorem by16 : (∀ i, Try.prog.info? 16 = some i → i.bytes ≤ 256) = True := eq_true (small_of (by kernel_rfl))
theorem ni16 : notInt (Try.prog.underlying 16) = True := eq_true (notInt_of (by kernel_rfl))
theorem sz17 : szOf Try.prog 17 = 1 := by kernel_rfl
theorem cz17 : Try.prog.cellsOf 17 = 1 := by kernel_rfl
theorem ok17 : okT Try.prog 17 = true := by kernel_rfl
theorem ze17 : zeroOf Try.prog 17 = .imm (.pointer none) := by kernel_rfl
theorem by17 : (∀ i, Try.prog.info? 17 = some i → i.bytes ≤ 256) = True := eq_true (small_of (by kernel_rfl))
theorem ni17 : notInt (Try.prog.underlying 17) = True := eq_true (notInt_of (by kernel_rfl))
theorem sz18 : szOf Try.prog 18 = 1 := by kernel_rfl
theorem cz18 : Try.prog.cellsOf 18 = 1 := by kernel_rfl
theorem ok18 : okT Try.prog 18 = true := by kernel_rfl
theorem ze18 : zeroOf Try.prog 18 = .agg [.imm (.pointer none)] := by kernel_rfl
theorem by18 : (∀ i, Try.prog.info? 18 = some i → i.bytes ≤ 256) = True := eq_true (small_of (by kernel_rfl))
theorem ni18 : notInt (Try.prog.underlying 18) = True := eq_true (notInt_of (by kernel_rfl))
theorem sz19 : szOf Try.prog 19 = 1 := by kernel_rfl
theorem cz19 : Try.prog.cellsOf 19 = 1 := by kernel_rfl
theorem ok19 : okT Try.prog 19 = true := by kernel_rfl
theorem ze19 : zeroOf Try.prog 19 = .agg [.imm (.pointer none)] := by kernel_rfl
theorem by19 : (∀ i, Try.prog.info? 19 = some i → i.bytes ≤ 256) = True := eq_true (small_of (by kernel_rfl))
theorem ni19 : notInt (Try.prog.underlying 19) = True := eq_true (notInt_of (by kernel_rfl))
theorem sz20 : szOf Try.prog 20 = 1 := by kernel_rfl
theorem cz20 : Try.prog.cellsOf 20 = 1 := by kernel_rfl
theorem ok20 : okT Try.prog 20 = true := by kernel_rfl
theorem ze20 : zeroOf Try.prog 20 = .imm .nilIface := by kernel_rfl
theorem by20 : (∀ i, Try.prog.info? 20 = some i → i.bytes ≤ 256) = True := eq_true (small_of (by kernel_rfl))
theorem ni20 : notInt (Try.prog.underlying 20) = True := eq_true (notInt_of (by kernel_rfl))
theorem sz21 : szOf Try.prog 21 = 1 := by kernel_rfl
theorem cz21 : Try.prog.cellsOf 21 = 1 := by kernel_rfl
theorem ok21 : okT Try.prog 21 = true := by kernel_rfl
theorem ze21 : zeroOf Try.prog 21 = .imm (.int .i32 0) := by kernel_rfl
theorem by21 : (∀ i, Try.prog.info? 21 = some i → i.bytes ≤ 256) = True := eq_true (small_of (by kernel_rfl))
theorem sz22 : szOf Try.prog 22 = 1 := by kernel_rfl
theorem cz22 : Try.prog.cellsOf 22 = 1 := by kernel_rfl
theorem ok22 : okT Try.prog 22 = true := by kernel_rfl
theorem ze22 : zeroOf Try.prog 22 = .sl 0 true [] := by kernel_rfl
theorem by22 : (∀ i, Try.prog.info? 22 = some i → i.bytes ≤ 256) = True := eq_true (small_of (by kernel_rfl))
theorem ni22 : notInt (Try.prog.underlying 22) = True := eq_true (notInt_of (by kernel_rfl))
theorem sz23 : szOf Try.prog 23 = 3 := by kernel_rfl
theorem cz23 : Try.prog.cellsOf 23 = 3 := by kernel_rfl
theorem ok23 : okT Try.prog 23 = true := by kernel_rfl
theorem ze23 : zeroOf Try.prog 23 = .agg [.imm (.string ByteArray.empty), .imm (.string ByteArray.empty), .sl 0 true []] := by kernel_rfl
theorem by23 : (∀ i, Try.prog.info? 23 = some i → i.bytes ≤ 256) = True := eq_true (small_of (by kernel_rfl))
theorem ni23 : notInt (Try.prog.underlying 23) = True := eq_true (notInt_of (by kernel_rfl))
theorem sz24 : szOf Try.prog 24 = 3 := by kernel_rfl
theorem cz24 : Try.prog.cellsOf 24 = 3 := by kernel_rfl
theorem ok24 : okT Try.prog 24 = true := by kernel_rfl
theorem ze24 : zeroOf Try.prog 24 = .agg [.imm (.string ByteArray.empty), .imm (.string ByteArray.empty), .sl 0 true []] := by kernel_rfl
theorem by24 : (∀ i, Try.prog.info? 24 = some i → i.bytes ≤ 256) = True := eq_true (small_of (by kernel_rfl))
theorem ni24 : notInt (Try.prog.underlying 24) = True := eq_true (notInt_of (by kernel_rfl))
theorem sz25 : szOf Try.prog 25 = 1 := by kernel_rfl
theorem cz25 : Try.prog.cellsOf 25 = 1 := by kernel_rfl
theorem ok25 : okT Try.prog 25 = true := by kernel_rfl
theorem ze25 : zeroOf Try.prog 25 = .sl 0 true [] := by kernel_rfl
theorem by25 : (∀ i, Try.prog.info? 25 = some i → i.bytes ≤ 256) = True := eq_true (small_of (by kernel_rfl))
theorem ni25 : notInt (Try.prog.underlying 25) = True := eq_true (notInt_of (by kernel_rfl))
theorem sz26 : szOf Try.prog 26 = 3 := by kernel_rfl
theorem cz26 : Try.prog.cellsOf 26 = 3 := by kernel_rfl
theorem ok26 : okT Try.prog 26 = true := by kernel_rfl
theorem ze26 : zeroOf Try.prog 26 = .agg [.imm (.string ByteArray.empty), .imm (.string ByteArray.empty), .sl 0 true []] := by kernel_rfl
theorem by26 : (∀ i, Try.prog.info? 26 = some i → i.bytes ≤ 256) = True := eq_true (small_of (by kernel_rfl))
theorem ni26 : notInt (Try.prog.underlying 26) = True := eq_true (notInt_of (by kernel_rfl))
theorem sz27 : szOf Try.prog 27 = 3 := by kernel_rfl
theorem cz27 : Try.prog.cellsOf 27 = 3 := by kernel_rfl
theorem ok27 : okT Try.prog 27 = true := by kernel_rfl
theorem ze27 : zeroOf Try.prog 27 = .agg [.imm (.string ByteArray.empty), .imm (.string ByteArray.empty), .sl 0 true []] := by kernel_rfl
theorem by27 : (∀ i, Try.prog.info? 27 = some i → i.bytes ≤ 256) = True := eq_true (small_of (by kernel_rfl))
theorem ni27 : notInt (Try.prog.underlying 27) = True := eq_true (notInt_of (by kernel_rfl))
theorem sz38 : szOf Try.prog 38 = 1 := by kernel_rfl
theorem cz38 : Try.prog.cellsOf 38 = 1 := by kernel_rfl
theorem ok38 : okT Try.prog 38 = true := by kernel_rfl
theorem ze38 : zeroOf Try.prog 38 = .sl 0 true [] := by kernel_rfl
theorem by38 : (∀ i, Try.prog.info? 38 = some i → i.bytes ≤ 256) = True := eq_true (small_of (by kernel_rfl))
theorem ni38 : notInt (Try.prog.underlying 38) = True := eq_true (notInt_of (by kernel_rfl))
theorem sz41 : szOf Try.prog 41 = 2 := by kernel_rfl
theorem cz41 : Try.prog.cellsOf 41 = 2 := by kernel_rfl
theorem ok41 : okT Try.prog 41 = true := by kernel_rfl
theorem ze41 : zeroOf Try.prog 41 = .agg [.imm (.int .i64 0), .imm (.int .i64 0)] := by kernel_rfl
theorem by41 : (∀ i, Try.prog.info? 41 = some i → i.bytes ≤ 256) = True := eq_true (small_of (by kernel_rfl))
theorem eg41 : Try.prog.eqGuardType Try.prog.depth 41 = false := by kernel_rfl
theorem sh41 : Try.prog.stoodInHeld 41 = false := by kernel_rfl
theorem ni41 : notInt (Try.prog.underlying 41) = True := eq_true (notInt_of (by kernel_rfl))
theorem sz42 : szOf Try.prog 42 = 2 := by kernel_rfl
theorem cz42 : Try.prog.cellsOf 42 = 2 := by kernel_rfl
theorem ok42 : okT Try.prog 42 = true := by kernel_rfl
theorem ze42 : zeroOf Try.prog 42 = .agg [.imm (.int .i64 0), .imm (.int .i64 0)] := by kernel_rfl
theorem by42 : (∀ i, Try.prog.info? 42 = some i → i.bytes ≤ 256) = True := eq_true (small_of (by kernel_rfl))
theorem eg42 : Try.prog.eqGuardType Try.prog.depth 42 = false := by kernel_rfl
theorem sh42 : Try.prog.stoodInHeld 42 = false := by kernel_rfl
theorem ni42 : notInt (Try.prog.underlying 42) = True := eq_true (notInt_of (by kernel_rfl))
theorem sz43 : szOf Try.prog 43 = 1 := by kernel_rfl
theorem cz43 : Try.prog.cellsOf 43 = 1 := by kernel_rfl
theorem ok43 : okT Try.prog 43 = true := by kernel_rfl
theorem ze43 : zeroOf Try.prog 43 = .imm (.int .i64 0) := by kernel_rfl
theorem by43 : (∀ i, Try.prog.info? 43 = some i → i.bytes ≤ 256) = True := eq_true (small_of (by kernel_rfl))
theorem sz52 : szOf Try.prog 52 = 1 := by kernel_rfl
theorem cz52 : Try.prog.cellsOf 52 = 1 := by kernel_rfl
theorem ok52 : okT Try.prog 52 = true := by kernel_rfl
theorem ze52 : zeroOf Try.prog 52 = .sl 0 true [] := by kernel_rfl
theorem by52 : (∀ i, Try.prog.info? 52 = some i → i.bytes ≤ 256) = True := eq_true (small_of (by kernel_rfl))
theorem ni52 : notInt (Try.prog.underlying 52) = True := eq_true (notInt_of (by kernel_rfl))
theorem sz69 : szOf Try.prog 69 = 1 := by kernel_rfl
theorem cz69 : Try.prog.cellsOf 69 = 1 := by kernel_rfl
theorem ok69 : okT Try.prog 69 = true := by kernel_rfl
theorem ze69 : zeroOf Try.prog 69 = .sl 0 true [] := by kernel_rfl
theorem by69 : (∀ i, Try.prog.info? 69 = some i → i.bytes ≤ 256) = True := eq_true (small_of (by kernel_rfl))
theorem ni69 : notInt (Try.prog.underlying 69) = True := eq_true (notInt_of (by kernel_rfl))
theorem sz70 : szOf Try.prog 70 = 16 := by kernel_rfl
theorem cz70 : Try.prog.cellsOf 70 = 16 := by kernel_rfl
theorem ok70 : okT Try.prog 70 = true := by kernel_rfl
theorem ze70 : zeroOf Try.prog 70 = .agg [.imm (.int .u8 0), .imm (.int .u8 0), .imm (.int .u8 0), .imm (.int .u8 0), .imm (.int .u8 0), .imm (.int .u8 0), .imm (.int .u8 0), .imm (.int .u8 0), .imm (.int .u8 0), .imm (.int .u8 0), .imm (.int .u8 0), .imm (.int .u8 0), .imm (.int .u8 0), .imm (.int .u8 0), .imm (.int .u8 0), .imm (.int .u8 0)] := by kernel_rfl
theorem by70 : (∀ i, Try.prog.info? 70 = some i → i.bytes ≤ 256) = True := eq_true (small_of (by kernel_rfl))
theorem eg70 : Try.prog.eqGuardType Try.prog.depth 70 = false := by kernel_rfl
theorem sh70 : Try.prog.stoodInHeld 70 = false := by kernel_rfl
theorem ni70 : notInt (Try.prog.underlying 70) = True := eq_true (notInt_of (by kernel_rfl))
theorem sz73 : szOf Try.prog 73 = 1 := by kernel_rfl
theorem cz73 : Try.prog.cellsOf 73 = 1 := by kernel_rfl
theorem ok73 : okT Try.prog 73 = true := by kernel_rfl
theorem ze73 : zeroOf Try.prog 73 = .imm (.pointer none) := by kernel_rfl
theorem by73 : (∀ i, Try.prog.info? 73 = some i → i.bytes ≤ 256) = True := eq_true (small_of (by kernel_rfl))
theorem ni73 : notInt (Try.prog.underlying 73) = True := eq_true (notInt_of (by kernel_rfl))
theorem sz74 : szOf Try.prog 74 = 2 := by kernel_rfl
theorem cz74 : Try.prog.cellsOf 74 = 2 := by kernel_rfl
theorem ok74 : okT Try.prog 74 = true := by kernel_rfl
theorem ze74 : zeroOf Try.prog 74 = .agg [.imm (.pointer none), .sl 0 true []] := by kernel_rfl
theorem by74 : (∀ i, Try.prog.info? 74 = some i → i.bytes ≤ 256) = True := eq_true (small_of (by kernel_rfl))
theorem ni74 : notInt (Try.prog.underlying 74) = True := eq_true (notInt_of (by kernel_rfl))
theorem sz75 : szOf Try.prog 75 = 2 := by kernel_rfl
theorem cz75 : Try.prog.cellsOf 75 = 2 := by kernel_rfl
theorem ok75 : okT Try.prog 75 = true := by kernel_rfl
theorem ze75 : zeroOf Try.prog 75 = .agg [.imm (.pointer none), .sl 0 true []] := by kernel_rfl
theorem by75 : (∀ i, Try.prog.info? 75 = some i → i.bytes ≤ 256) = True := eq_true (small_of (by kernel_rfl))
theorem ni75 : notInt (Try.prog.underlying 75) = True := eq_true (notInt_of (by kernel_rfl))
theorem sz78 : szOf Try.prog 78 = 1 := by kernel_rfl
theorem cz78 : Try.prog.cellsOf 78 = 1 := by kernel_rfl
theorem ok78 : okT Try.prog 78 = true := by kernel_rfl
theorem ze78 : zeroOf Try.prog 78 = .imm .nilIface := by kernel_rfl
theorem by78 : (∀ i, Try.prog.info? 78 = some i → i.bytes ≤ 256) = True := eq_true (small_of (by kernel_rfl))
theorem ni78 : notInt (Try.prog.underlying 78) = True := eq_true (notInt_of (by kernel_rfl))
theorem sz79 : szOf Try.prog 79 = 1 := by kernel_rfl
theorem cz79 : Try.prog.cellsOf 79 = 1 := by kernel_rfl
theorem ok79 : okT Try.prog 79 = true := by kernel_rfl
theorem ze79 : zeroOf Try.prog 79 = .imm .nilIface := by kernel_rfl
theorem by79 : (∀ i, Try.prog.info? 79 = some i → i.bytes ≤ 256) = True := eq_true (small_of (by kernel_rfl))
theorem ni79 : notInt (Try.prog.underlying 79) = True := eq_true (notInt_of (by kernel_rfl))
theorem sz89 : szOf Try.prog 89 = 1 := by kernel_rfl
theorem cz89 : Try.prog.cellsOf 89 = 1 := by kernel_rfl
theorem ok89 : okT Try.prog 89 = true := by kernel_rfl
theorem ze89 : zeroOf Try.prog 89 = .sl 0 true [] := by kernel_rfl
theorem by89 : (∀ i, Try.prog.info? 89 = some i → i.bytes ≤ 256) = True := eq_true (small_of (by kernel_rfl))
theorem ni89 : notInt (Try.prog.underlying 89) = True := eq_true (notInt_of (by kernel_rfl))
theorem sz90 : szOf Try.prog 90 = 1 := by kernel_rfl
theorem cz90 : Try.prog.cellsOf 90 = 1 := by kernel_rfl
theorem ok90 : okT Try.prog 90 = true := by kernel_rfl
theorem ze90 : zeroOf Try.prog 90 = .agg [.sl 0 true []] := by kernel_rfl
theorem by90 : (∀ i, Try.prog.info? 90 = some i → i.bytes ≤ 256) = True := eq_true (small_of (by kernel_rfl))
theorem ni90 : notInt (Try.prog.underlying 90) = True := eq_true (notInt_of (by kernel_rfl))
theorem sz91 : szOf Try.prog 91 = 1 := by kernel_rfl
theorem cz91 : Try.prog.cellsOf 91 = 1 := by kernel_rfl
theorem ok91 : okT Try.prog 91 = true := by kernel_rfl
theorem ze91 : zeroOf Try.prog 91 = .agg [.sl 0 true []] := by kernel_rfl
theorem by91 : (∀ i, Try.prog.info? 91 = some i → i.bytes ≤ 256) = True := eq_true (small_of (by kernel_rfl))
theorem ni91 : notInt (Try.prog.underlying 91) = True := eq_true (notInt_of (by kernel_rfl))
theorem sz93 : szOf Try.prog 93 = 4 := by kernel_rfl
theorem cz93 : Try.prog.cellsOf 93 = 4 := by kernel_rfl
theorem ok93 : okT Try.prog 93 = true := by kernel_rfl
theorem ze93 : zeroOf Try.prog 93 = .agg [.imm (.string ByteArray.empty), .imm (.string ByteArray.empty), .sl 0 true [], .imm (.int .i64 0)] := by kernel_rfl
theorem by93 : (∀ i, Try.prog.info? 93 = some i → i.bytes ≤ 256) = True := eq_true (small_of (by kernel_rfl))
theorem ni93 : notInt (Try.prog.underlying 93) = True := eq_true (notInt_of (by kernel_rfl))
theorem sz94 : szOf Try.prog 94 = 4 := by kernel_rfl
theorem cz94 : Try.prog.cellsOf 94 = 4 := by kernel_rfl
theorem ok94 : okT Try.prog 94 = true := by kernel_rfl
theorem ze94 : zeroOf Try.prog 94 = .agg [.imm (.string ByteArray.empty), .imm (.string ByteArray.empty), .sl 0 true [], .imm (.int .i64 0)] := by kernel_rfl
theorem by94 : (∀ i, Try.prog.info? 94 = some i → i.bytes ≤ 256) = True := eq_true (small_of (by kernel_rfl))
theorem ni94 : notInt (Try.prog.underlying 94) = True := eq_true (notInt_of (by kernel_rfl))
theorem sz99 : szOf Try.prog 99 = 1 := by kernel_rfl
theorem cz99 : Try.prog.cellsOf 99 = 1 := by kernel_rfl
theorem ok99 : okT Try.prog 99 = true := by kernel_rfl
theorem ze99 : zeroOf Try.prog 99 = .sl 0 true [] := by kernel_rfl
theorem by99 : (∀ i, Try.prog.info? 99 = some i → i.bytes ≤ 256) = True := eq_true (small_of (by kernel_rfl))
theorem ni99 : notInt (Try.prog.underlying 99) = True := eq_true (notInt_of (by kernel_rfl))
theorem sz100 : szOf Try.prog 100 = 1 := by kernel_rfl
theorem cz100 : Try.prog.cellsOf 100 = 1 := by kernel_rfl
theorem ok100 : okT Try.prog 100 = true := by kernel_rfl
theorem ze100 : zeroOf Try.prog 100 = .agg [.sl 0 true []] := by kernel_rfl
theorem by100 : (∀ i, Try.prog.info? 100 = some i → i.bytes ≤ 256) = True := eq_true (small_of (by kernel_rfl))
theorem ni100 : notInt (Try.prog.underlying 100) = True := eq_true (notInt_of (by kernel_rfl))
theorem sz101 : szOf Try.prog 101 = 1 := by kernel_rfl
theorem cz101 : Try.prog.cellsOf 101 = 1 := by kernel_rfl
theorem ok101 : okT Try.prog 101 = true := by kernel_rfl
theorem ze101 : zeroOf Try.prog 101 = .agg [.sl 0 true []] := by kernel_rfl
theorem by101 : (∀ i, Try.prog.info? 101 = some i → i.bytes ≤ 256) = True := eq_true (small_of (by kernel_rfl))
theorem ni101 : notInt (Try.prog.underlying 101) = True := eq_true (notInt_of (by kernel_rfl))
theorem sz109 : szOf Try.prog 109 = 1 := by kernel_rfl
theorem cz109 : Try.prog.cellsOf 109 = 1 := by kernel_rfl
theorem ok109 : okT Try.prog 109 = true := by kernel_rfl
theorem ze109 : zeroOf Try.prog 109 = .imm (.int .u32 0) := by kernel_rfl
theorem by109 : (∀ i, Try.prog.info? 109 = some i → i.bytes ≤ 256) = True := eq_true (small_of (by kernel_rfl))
theorem sz110 : szOf Try.prog 110 = 4 := by kernel_rfl
theorem cz110 : Try.prog.cellsOf 110 = 4 := by kernel_rfl
theorem ok110 : okT Try.prog 110 = true := by kernel_rfl
theorem ze110 : zeroOf Try.prog 110 = .agg [.imm (.int .u32 0), .imm (.int .u32 0), .imm (.int .u32 0), .imm (.int .u32 0)] := by kernel_rfl
theorem by110 : (∀ i, Try.prog.info? 110 = some i → i.bytes ≤ 256) = True := eq_true (small_of (by kernel_rfl))
theorem eg110 : Try.prog.eqGuardType Try.prog.depth 110 = false := by kernel_rfl
theorem sh110 : Try.prog.stoodInHeld 110 = false := by kernel_rfl
theorem ni110 : notInt (Try.prog.underlying 110) = True := eq_true (notInt_of (by kernel_rfl))
theorem sz111 : szOf Try.prog 111 = 1 := by kernel_rfl
theorem cz111 : Try.prog.cellsOf 111 = 1 := by kernel_rfl
theorem ok111 : okT Try.prog 111 = true := by kernel_rfl
theorem ze111 : zeroOf Try.prog 111 = .imm (.int .u64 0) := by kernel_rfl
theorem by111 : (∀ i, Try.prog.info? 111 = some i → i.bytes ≤ 256) = True := eq_true (small_of (by kernel_rfl))
theorem sz112 : szOf Try.prog 112 = 5 := by kernel_rfl
theorem cz112 : Try.prog.cellsOf 112 = 5 := by kernel_rfl
theorem ok112 : okT Try.prog 112 = true := by kernel_rfl
theorem ze112 : zeroOf Try.prog 112 = .agg [.imm (.int .u32 0), .imm (.int .u32 0), .imm (.int .u32 0), .imm (.int .u32 0), .imm (.int .u64 0)] := by kernel_rfl
theorem by112 : (∀ i, Try.prog.info? 112 = some i → i.bytes ≤ 256) = True := eq_true (small_of (by kernel_rfl))
theorem eg112 : Try.prog.eqGuardType Try.prog.depth 112 = false := by kernel_rfl
theorem sh112 : Try.prog.stoodInHeld 112 = false := by kernel_rfl
theorem ni112 : notInt (Try.prog.underlying 112) = True := eq_true (notInt_of (by kernel_rfl))
theorem sz113 : szOf Try.prog 113 = 5 := by kernel_rfl
theorem cz113 : Try.prog.cellsOf 113 = 5 := by kernel_rfl
theorem ok113 : okT Try.prog 113 = true := by kernel_rfl
theorem ze113 : zeroOf Try.prog 113 = .agg [.imm (.int .u32 0), .imm (.int .u32 0), .imm (.int .u32 0), .imm (.int .u32 0), .imm (.int .u64 0)] := by kernel_rfl
theorem by113 : (∀ i, Try.prog.info? 113 = some i → i.bytes ≤ 256) = True := eq_true (small_of (by kernel_rfl))
theorem eg113 : Try.prog.eqGuardType Try.prog.depth 113 = false := by kernel_rfl
theorem sh113 : Try.prog.stoodInHeld 113 = false := by kernel_rfl
theorem ni113 : notInt (Try.prog.underlying 113) = True := eq_true (notInt_of (by kernel_rfl))
theorem sz116 : szOf Try.prog 116 = 64 := by kernel_rfl
theorem cz116 : Try.prog.cellsOf 116 = 64 := by kernel_rfl
theorem ok116 : okT Try.prog 116 = true := by kernel_rfl
theorem ze116 : zeroOf Try.prog 116 = .agg [.imm (.int .u8 0), .imm (.int .u8 0), .imm (.int .u8 0), .imm (.int .u8 0), .imm (.int .u8 0), .imm (.int .u8 0), .imm (.int .u8 0), .imm (.int .u8 0), .imm (.int .u8 0), .imm (.int .u8 0), .imm (.int .u8 0), .imm (.int .u8 0), .imm (.int .u8 0), .imm (.int .u8 0), .imm (.int .u8 0), .imm (.int .u8 0), .imm (.int .u8 0), .imm (.int .u8 0), .imm (.int .u8 0), .imm (.int .u8 0), .imm (.int .u8 0), .imm (.int .u8 0), .imm (.int .u8 0), .imm (.int .u8 0), .imm (.int .u8 0), .imm (.int .u8 0), .imm (.int .u8 0), .imm (.int .u8 0), .imm (.int .u8 0), .imm (.int .u8 0), .imm (.int .u8 0), .imm (.int .u8 0), .imm (.int .u8 0), .imm (.int .u8 0), .imm (.int .u8 0), .imm (.int .u8 0), .imm (.int .u8 0), .imm (.int .u8 0), .imm (.int .u8 0), .imm (.int .u8 0), .imm (.int .u8 0), .imm (.int .u8 0), .imm (.int .u8 0), .imm (.int .u8 0), .imm (.int .u8 0), .imm (.int .u8 0), .imm (.int .u8 0), .imm (.int .u8 0), .imm (.int .u8 0), .imm (.int .u8 0), .imm (.int .u8 0), .imm (.int .u8 0), .imm (.int .u8 0), .imm (.int .u8 0), .imm (.int .u8 0), .imm (.int .u8 0), .imm (.int .u8 0), .imm (.int .u8 0), .imm (.int .u8 0), .imm (.int .u8 0), .imm (.int .u8 0), .imm (.int .u8 0), .imm (.int .u8 0), .imm (.int .u8 0)] := by kernel_rfl
theorem by116 : (∀ i, Try.prog.info? 116 = some i → i.bytes ≤ 256) = True := eq_true (small_of (by kernel_rfl))
theorem eg116 : Try.prog.eqGuardType Try.prog.depth 116 = false := by kernel_rfl
theorem sh116 : Try.prog.stoodInHeld 116 = false := by kernel_rfl
theorem ni116 : notInt (Try.prog.underlying 116) = True := eq_true (notInt_of (by kernel_rfl))
theorem sz117 : szOf Try.prog 117 = 4 := by kernel_rfl
theorem cz117 : Try.prog.cellsOf 117 = 4 := by kernel_rfl
theorem ok117 : okT Try.prog 117 = true := by kernel_rfl
theorem ze117 : zeroOf Try.prog 117 = .agg [.imm (.int .u8 0), .imm (.int .u8 0), .imm (.int .u8 0), .imm (.int .u8 0)] := by kernel_rfl
theorem by117 : (∀ i, Try.prog.info? 117 = some i → i.bytes ≤ 256) = True := eq_true (small_of (by kernel_rfl))
theorem eg117 : Try.prog.eqGuardType Try.prog.depth 117 = false := by kernel_rfl
theorem sh117 : Try.prog.stoodInHeld 117 = false := by kernel_rfl
theorem ni117 : notInt (Try.prog.underlying 117) = True := eq_true (notInt_of (by kernel_rfl))
theorem sz122 : szOf Try.prog 122 = 1 := by kernel_rfl
theorem cz122 : Try.prog.cellsOf 122 = 1 := by kernel_rfl
theorem ok122 : okT Try.prog 122 = true := by kernel_rfl
theorem ze122 : zeroOf Try.prog 122 = .imm (.int .u64 0) := by kernel_rfl
theorem by122 : (∀ i, Try.prog.info? 122 = some i → i.bytes ≤ 256) = True := eq_true (small_of (by kernel_rfl))
theorem sz125 : szOf Try.prog 125 = 1 := by kernel_rfl
theorem cz125 : Try.prog.cellsOf 125 = 1 := by kernel_rfl
theorem ok125 : okT Try.prog 125 = true := by kernel_rfl
theorem ze125 : zeroOf Try.prog 125 = .imm (.pointer none) := by kernel_rfl
theorem by125 : (∀ i, Try.prog.info? 125 = some i → i.bytes ≤ 256) = True := eq_true (small_of (by kernel_rfl))
theorem ni125 : notInt (Try.prog.underlying 125) = True := eq_true (notInt_of (by kernel_rfl))
theorem sz126 : szOf Try.prog 126 = 1 := by kernel_rfl
theorem cz126 : Try.prog.cellsOf 126 = 1 := by kernel_rfl
theorem ok126 : okT Try.prog 126 = true := by kernel_rfl
theorem ze126 : zeroOf Try.prog 126 = .imm (.pointer none) := by kernel_rfl
theorem by126 : (∀ i, Try.prog.info? 126 = some i → i.bytes ≤ 256) = True := eq_true (small_of (by kernel_rfl))
theorem ni126 : notInt (Try.prog.underlying 126) = True := eq_true (notInt_of (by kernel_rfl))
theorem sz127 : szOf Try.prog 127 = 1 := by kernel_rfl
theorem cz127 : Try.prog.cellsOf 127 = 1 := by kernel_rfl
theorem ok127 : okT Try.prog 127 = true := by kernel_rfl
theorem ze127 : zeroOf Try.prog 127 = .imm (.pointer none) := by kernel_rfl
theorem by127 : (∀ i, Try.prog.info? 127 = some i → i.bytes ≤ 256) = True := eq_true (small_of (by kernel_rfl))
theorem ni127 : notInt (Try.prog.underlying 127) = True := eq_true (notInt_of (by kernel_rfl))
theorem sz132 : szOf Try.prog 132 = 5 := by kernel_rfl
theorem cz132 : Try.prog.cellsOf 132 = 5 := by kernel_rfl
theorem ok132 : okT Try.prog 132 = true := by kernel_rfl
theorem ze132 : zeroOf Try.prog 132 = .agg [.imm (.int .u32 0), .imm (.int .u32 0), .imm (.int .u32 0), .imm (.int .u32 0), .imm (.int .u64 0)] := by kernel_rfl
theorem by132 : (∀ i, Try.prog.info? 132 = some i → i.bytes ≤ 256) = True := eq_true (small_of (by kernel_rfl))
theorem eg132 : Try.prog.eqGuardType Try.prog.depth 132 = false := by kernel_rfl
theorem sh132 : Try.prog.stoodInHeld 132 = false := by kernel_rfl
theorem ni132 : notInt (Try.prog.underlying 132) = True := eq_true (notInt_of (by kernel_rfl))
theorem sz137 : szOf Try.prog 137 = 16 := by kernel_rfl
theorem cz137 : Try.prog.cellsOf 137 = 16 := by kernel_rfl
theorem ok137 : okT Try.prog 137 = true := by kernel_rfl
theorem ze137 : zeroOf Try.prog 137 = .agg [.imm (.int .u32 0), .imm (.int .u32 0), .imm (.int .u32 0), .imm (.int .u32 0), .imm (.int .u32 0), .imm (.int .u32 0), .imm (.int .u32 0), .imm (.int .u32 0), .imm (.int .u32 0), .imm (.int .u32 0), .imm (.int .u32 0), .imm (.int .u32 0), .imm (.int .u32 0), .imm (.int .u32 0), .imm (.int .u32 0), .imm (.int .u32 0)] := by kernel_rfl
theorem by137 : (∀ i, Try.prog.info? 137 = some i → i.bytes ≤ 256) = True := eq_true (small_of (by kernel_rfl))
theorem eg137 : Try.prog.eqGuardType Try.prog.depth 137 = false := by kernel_rfl
theorem sh137 : Try.prog.stoodInHeld 137 = false := by kernel_rfl
theorem ni137 : notInt (Try.prog.underlying 137) = True := eq_true (notInt_of (by kernel_rfl))
theorem sz139 : szOf Try.prog 139 = 64 := by kernel_rfl
theorem cz139 : Try.prog.cellsOf 139 = 64 := by kernel_rfl
theorem ok139 : okT Try.prog 139 = true := by kernel_rfl
theorem ze139 : zeroOf Try.prog 139 = .agg [.imm (.int .u32 0), .imm (.int .u32 0), .imm (.int .u32 0), .imm (.int .u32 0), .imm (.int .u32 0), .imm (.int .u32 0), .imm (.int .u32 0), .imm (.int .u32 0), .imm (.int .u32 0), .imm (.int .u32 0), .imm (.int .u32 0), .imm (.int .u32 0), .imm (.int .u32 0), .imm (.int .u32 0), .imm (.int .u32 0), .imm (.int .u32 0), .imm (.int .u32 0), .imm (.int .u32 0), .imm (.int .u32 0), .imm (.int .u32 0), .imm (.int .u32 0), .imm (.int .u32 0), .imm (.int .u32 0), .imm (.int .u32 0), .imm (.int .u32 0), .imm (.int .u32 0), .imm (.int .u32 0), .imm (.int .u32 0), .imm (.int .u32 0), .imm (.int .u32 0), .imm (.int .u32 0), .imm (.int .u32 0), .imm (.int .u32 0), .imm (.int .u32 0), .imm (.int .u32 0), .imm (.int .u32 0), .imm (.int .u32 0), .imm (.int .u32 0), .imm (.int .u32 0), .imm (.int .u32 0), .imm (.int .u32 0), .imm (.int .u32 0), .imm (.int .u32 0), .imm (.int .u32 0), .imm (.int .u32 0), .imm (.int .u32 0), .imm (.int .u32 0), .imm (.int .u32 0), .imm (.int .u32 0), .imm (.int .u32 0), .imm (.int .u32 0), .imm (.int .u32 0), .imm (.int .u32 0), .imm (.int .u32 0), .imm (.int .u32 0), .imm (.int .u32 0), .imm (.int .u32 0), .imm (.int .u32 0), .imm (.int .u32 0), .imm (.int .u32 0), .imm (.int .u32 0), .imm (.int .u32 0), .imm (.int .u32 0), .imm (.int .u32 0)] := by kernel_rfl
theorem by139 : (∀ i, Try.prog.info? 139 = some i → i.bytes ≤ 256) = True := eq_true (small_of (by kernel_rfl))
theorem eg139 : Try.prog.eqGuardType Try.prog.depth 139 = false := by kernel_rfl
theorem sh139 : Try.prog.stoodInHeld 139 = false := by kernel_rfl
theorem ni139 : notInt (Try.prog.underlying 139) = True := eq_true (notInt_of (by kernel_rfl))
theorem sz141 : szOf Try.prog 141 = 4 := by kernel_rfl
theorem cz141 : Try.prog.cellsOf 141 = 4 := by kernel_rfl
theorem ok141 : okT Try.prog 141 = true := by kernel_rfl
theorem ze141 : zeroOf Try.prog 141 = .agg [.imm (.int .i64 0), .imm (.int .i64 0), .imm (.int .i64 0), .imm (.int .i64 0)] := by kernel_rfl
theorem by141 : (∀ i, Try.prog.info? 141 = some i → i.bytes ≤ 256) = True := eq_true (small_of (by kernel_rfl))
theorem eg141 : Try.prog.eqGuardType Try.prog.depth 141 = false := by kernel_rfl
theorem sh141 : Try.prog.stoodInHeld 141 = false := by kernel_rfl
theorem ni141 : notInt (Try.prog.underlying 141) = True := eq_true (notInt_of (by kernel_rfl))
theorem sz142 : szOf Try.prog 142 = 16 := by kernel_rfl
theorem cz142 : Try.prog.cellsOf 142 = 16 := by kernel_rfl
theorem ok142 : okT Try.prog 142 = true := by kernel_rfl
theorem ze142 : zeroOf Try.prog 142 = .agg [.imm (.int .i64 0), .imm (.int .i64 0), .imm (.int .i64 0), .imm (.int .i64 0), .imm (.int .i64 0), .imm (.int .i64 0), .imm (.int .i64 0), .imm (.int .i64 0), .imm (.int .i64 0), .imm (.int .i64 0), .imm (.int .i64 0), .imm (.int .i64 0), .imm (.int .i64 0), .imm (.int .i64 0), .imm (.int .i64 0), .imm (.int .i64 0)] := by kernel_rfl
theorem by142 : (∀ i, Try.prog.info? 142 = some i → i.bytes ≤ 256) = True := eq_true (small_of (by kernel_rfl))
theorem eg142 : Try.prog.eqGuardType Try.prog.depth 142 = false := by kernel_rfl
theorem sh142 : Try.prog.stoodInHeld 142 = false := by kernel_rfl
theorem ni142 : notInt (Try.prog.underlying 142) = True := eq_true (notInt_of (by kernel_rfl))
theorem sz147 : szOf Try.prog 147 = 3 := by kernel_rfl
theorem cz147 : Try.prog.cellsOf 147 = 3 := by kernel_rfl
theorem ok147 : okT Try.prog 147 = true := by kernel_rfl
theorem ze147 : zeroOf Try.prog 147 = .agg [.imm (.int .i32 0), .imm (.int .i32 0), .imm (.int .i32 0)] := by kernel_rfl
theorem by147 : (∀ i, Try.prog.info? 147 = some i → i.bytes ≤ 256) = True := eq_true (small_of (by kernel_rfl))
theorem eg147 : Try.prog.eqGuardType Try.prog.depth 147 = false := by kernel_rfl
theorem sh147 : Try.prog.stoodInHeld 147 = false := by kernel_rfl
theorem ni147 : notInt (Try.prog.underlying 147) = True := eq_true (notInt_of (by kernel_rfl))
theorem sz148 : szOf Try.prog 148 = 1 := by kernel_rfl
theorem cz148 : Try.prog.cellsOf 148 = 1 := by kernel_rfl
theorem ok148 : okT Try.prog 148 = true := by kernel_rfl
theorem ze148 : zeroOf Try.prog 148 = .imm (.pointer none) := by kernel_rfl
theorem by148 : (∀ i, Try.prog.info? 148 = some i → i.bytes ≤ 256) = True := eq_true (small_of (by kernel_rfl))
theorem ni148 : notInt (Try.prog.underlying 148) = True := eq_true (notInt_of (by kernel_rfl))
theorem sz152 : szOf Try.prog 152 = 1 := by kernel_rfl
theorem cz152 : Try.prog.cellsOf 152 = 1 := by kernel_rfl
theorem ok152 : okT Try.prog 152 = true := by kernel_rfl
theorem ze152 : zeroOf Try.prog 152 = .sl 0 true [] := by kernel_rfl
theorem by152 : (∀ i, Try.prog.info? 152 = some i → i.bytes ≤ 256) = True := eq_true (small_of (by kernel_rfl))
theorem ni152 : notInt (Try.prog.underlying 152) = True := eq_true (notInt_of (by kernel_rfl))
theorem sz158 : szOf Try.prog 158 = 4 := by kernel_rfl
theorem cz158 : Try.prog.cellsOf 158 = 4 := by kernel_rfl
theorem ok158 : okT Try.prog 158 = true := by kernel_rfl
theorem ze158 : zeroOf Try.prog 158 = .agg [.imm (.pointer none), .imm (.pointer none), .imm (.pointer none), .imm (.string ByteArray.empty)] := by kernel_rfl
theorem by158 : (∀ i, Try.prog.info? 158 = some i → i.bytes ≤ 256) = True := eq_true (small_of (by kernel_rfl))
theorem ni158 : notInt (Try.prog.underlying 158) = True := eq_true (notInt_of (by kernel_rfl))
theorem sz159 : szOf Try.prog 159 = 4 := by kernel_rfl
theorem cz159 : Try.prog.cellsOf 159 = 4 := by kernel_rfl
theorem ok159 : okT Try.prog 159 = true := by kernel_rfl
theorem ze159 : zeroOf Try.prog 159 = .agg [.imm (.pointer none), .imm (.pointer none), .imm (.pointer none), .imm (.string ByteArray.empty)] := by kernel_rfl
theorem by159 : (∀ i, Try.prog.info? 159 = some i → i.bytes ≤ 256) = True := eq_true (small_of (by kernel_rfl))
theorem ni159 : notInt (Try.prog.underlying 159) = True := eq_true (notInt_of (by kernel_rfl))
theorem sz160 : szOf Try.prog 160 = 0 := by kernel_rfl
theorem cz160 : Try.prog.cellsOf 160 = 0 := by kernel_rfl
theorem ok160 : okT Try.prog 160 = true := by kernel_rfl
theorem ze160 : zeroOf Try.prog 160 = .agg [] := by kernel_rfl
theorem by160 : (∀ i, Try.prog.info? 160 = some i → i.bytes ≤ 256) = True := eq_true (small_of (by kernel_rfl))
theorem ni160 : notInt (Try.prog.underlying 160) = True := eq_true (notInt_of (by kernel_rfl))
theorem sz161 : szOf Try.prog 161 = 0 := by kernel_rfl
theorem cz161 : Try.prog.cellsOf 161 = 0 := by kernel_rfl
theorem ok161 : okT Try.prog 161 = true := by kernel_rfl
theorem ze161 : zeroOf Try.prog 161 = .agg [] := by kernel_rfl
theorem by161 : (∀ i, Try.prog.info? 161 = some i → i.bytes ≤ 256) = True := eq_true (small_of (by kernel_rfl))
theorem ni161 : notInt (Try.prog.underlying 161) = True := eq_true (notInt_of (by kernel_rfl))
theorem sz162 : szOf Try.prog 162 = 0 := by kernel_rfl
theorem cz162 : Try.prog.cellsOf 162 = 0 := by kernel_rfl
theorem ok162 : okT Try.prog 162 = true := by kernel_rfl
theorem ze162 : zeroOf Try.prog 162 = .agg [] := by kernel_rfl
theorem by162 : (∀ i, Try.prog.info? 162 = some i → i.bytes ≤ 256) = True := eq_true (small_of (by kernel_rfl))
theorem ni162 : notInt (Try.prog.underlying 162) = True := eq_true (notInt_of (by kernel_rfl))
theorem sz164 : szOf Try.prog 164 = 1 := by kernel_rfl
theorem cz164 : Try.prog.cellsOf 164 = 1 := by kernel_rfl
theorem ok164 : okT Try.prog 164 = true := by kernel_rfl
theorem ze164 : zeroOf Try.prog 164 = .imm (.int .u8 0) := by kernel_rfl
theorem by164 : (∀ i, Try.prog.info? 164 = some i → i.bytes ≤ 256) = True := eq_true (small_of (by kernel_rfl))
theorem sz165 : szOf Try.prog 165 = 1 := by kernel_rfl
theorem cz165 : Try.prog.cellsOf 165 = 1 := by kernel_rfl
theorem ok165 : okT Try.prog 165 = true := by kernel_rfl
theorem ze165 : zeroOf Try.prog 165 = .imm (.int .u8 0) := by kernel_rfl
theorem by165 : (∀ i, Try.prog.info? 165 = some i → i.bytes ≤ 256) = True := eq_true (small_of (by kernel_rfl))
theorem sz167 : szOf Try.prog 167 = 1 := by kernel_rfl
theorem cz167 : Try.prog.cellsOf 167 = 1 := by kernel_rfl
theorem ok167 : okT Try.prog 167 = true := by kernel_rfl
theorem ze167 : zeroOf Try.prog 167 = .imm (.int .i32 0) := by kernel_rfl
theorem by167 : (∀ i, Try.prog.info? 167 = some i → i.bytes ≤ 256) = True := eq_true (small_of (by kernel_rfl))
theorem sz168 : szOf Try.prog 168 = 1 := by kernel_rfl
theorem cz168 : Try.prog.cellsOf 168 = 1 := by kernel_rfl
theorem ok168 : okT Try.prog 168 = true := by kernel_rfl
theorem ze168 : zeroOf Try.prog 168 = .imm (.int .i32 0) := by kernel_rfl
theorem by168 : (∀ i, Try.prog.info? 168 = some i → i.bytes ≤ 256) = True := eq_true (small_of (by kernel_rfl))
theorem sz169 : szOf Try.prog 169 = 11 := by kernel_rfl
theorem cz169 : Try.prog.cellsOf 169 = 11 := by kernel_rfl
theorem ok169 : okT Try.prog 169 = true := by kernel_rfl
theorem ze169 : zeroOf Try.prog 169 = .agg [.imm (.int .u64 0), .imm (.int .u64 0), .imm (.int .u32 0), .imm (.int .u8 0), .imm (.int .u8 0), .imm (.int .u8 0), .imm (.int .u8 0), .imm .nilFunc, .imm (.pointer none), .imm (.int .i32 0), .imm (.int .i32 0)] := by kernel_rfl
theorem by169 : (∀ i, Try.prog.info? 169 = some i → i.bytes ≤ 256) = True := eq_true (small_of (by kernel_rfl))
theorem ni169 : notInt (Try.prog.underlying 169) = True := eq_true (notInt_of (by kernel_rfl))
theorem sz170 : szOf Try.prog 170 = 11 := by kernel_rfl
theorem cz170 : Try.prog.cellsOf 170 = 11 := by kernel_rfl
theorem ok170 : okT Try.prog 170 = true := by kernel_rfl
theorem ze170 : zeroOf Try.prog 170 = .agg [.imm (.int .u64 0), .imm (.int .u64 0), .imm (.int .u32 0), .imm (.int .u8 0), .imm (.int .u8 0), .imm (.int .u8 0), .imm (.int .u8 0), .imm .nilFunc, .imm (.pointer none), .imm (.int .i32 0), .imm (.int .i32 0)] := by kernel_rfl
theorem by170 : (∀ i, Try.prog.info? 170 = some i → i.bytes ≤ 256) = True := eq_true (small_of (by kernel_rfl))
theorem ni170 : notInt (Try.prog.underlying 170) = True := eq_true (notInt_of (by kernel_rfl))
theorem rs0 : Try.f0.results.toList = [] := by kernel_rfl
theorem rs1 : Try.f1.results.toList = [] := by kernel_rfl
theorem rs2 : Try.f2.results.toList = [] := by kernel_rfl
theorem rs3 : Try.f3.results.toList = [.tmp 4] := by kernel_rfl
theorem rs4 : Try.f4.results.toList = [.tmp 2] := by kernel_rfl
theorem rs5 : Try.f5.results.toList = [.tmp 2] := by kernel_rfl
theorem rs6 : Try.f6.results.toList = [.tmp 6] := by kernel_rfl
theorem rs7 : Try.f7.results.toList = [.tmp 4] := by kernel_rfl
theorem rs8 : Try.f8.results.toList = [.tmp 4] := by kernel_rfl
theorem rs9 : Try.f9.results.toList = [.tmp 2] := by kernel_rfl
theorem rs10 : Try.f10.results.toList = [.tmp 2] := by kernel_rfl
theorem rs11 : Try.f11.results.toList = [.tmp 4] := by kernel_rfl
theorem rs12 : Try.f12.results.toList = [.tmp 2] := by kernel_rfl
theorem rs13 : Try.f13.results.toList = [.cell 4 27, .tmp 5] := by kernel_rfl
theorem rs14 : Try.f14.results.toList = [.cell 4 24, .tmp 5] := by kernel_rfl
theorem rs15 : Try.f15.results.toList = [.tmp 4, .tmp 5] := by kernel_rfl
theorem rs16 : Try.f16.results.toList = [.tmp 4] := by kernel_rfl
theorem rs17 : Try.f17.results.toList = [.tmp 2] := by kernel_rfl
theorem rs18 : Try.f18.results.toList = [.tmp 2] := by kernel_rfl
theorem rs19 : Try.f19.results.toList = [.tmp 2, .tmp 3] := by kernel_rfl
theorem rs20 : Try.f20.results.toList = [.tmp 2, .tmp 3] := by kernel_rfl
theorem rs21 : Try.f21.results.toList = [.cell 4 42, .tmp 5, .tmp 6] := by kernel_rfl
theorem rs22 : Try.f22.results.toList = [.tmp 2] := by kernel_rfl
theorem rs23 : Try.f23.results.toList = [.tmp 4, .tmp 5, .tmp 6, .tmp 7] := by kernel_rfl
theorem rs24 : Try.f24.results.toList = [.tmp 2] := by kernel_rfl
theorem rs25 : Try.f25.results.toList = [.tmp 4] := by kernel_rfl
theorem rs26 : Try.f26.results.toList = [.tmp 2] := by kernel_rfl
theorem rs27 : Try.f27.results.toList = [.tmp 2] := by kernel_rfl
theorem rs28 : Try.f28.results.toList = [.tmp 2] := by kernel_rfl
theorem rs29 : Try.f29.results.toList = [.tmp 2] := by kernel_rfl
theorem rs30 : Try.f30.results.toList = [.tmp 2] := by kernel_rfl
theorem rs31 : Try.f31.results.toList = [.tmp 2] := by kernel_rfl
theorem rs32 : Try.f32.results.toList = [.tmp 2] := by kernel_rfl
theorem rs33 : Try.f33.results.toList = [.tmp 2] := by kernel_rfl
theorem rs34 : Try.f34.results.toList = [.tmp 2, .tmp 3] := by kernel_rfl
theorem rs35 : Try.f35.results.toList = [.tmp 2, .tmp 3] := by kernel_rfl
theorem rs36 : Try.f36.results.toList = [.cell 2 27, .tmp 3] := by kernel_rfl
theorem rs37 : Try.f37.results.toList = [.tmp 2, .tmp 3] := by kernel_rfl
theorem rs38 : Try.f38.results.toList = [.tmp 2, .tmp 3] := by kernel_rfl
theorem rs39 : Try.f39.results.toList = [.tmp 2] := by kernel_rfl
theorem rs40 : Try.f40.results.toList = [.tmp 2] := by kernel_rfl
theorem rs41 : Try.f41.results.toList = [.tmp 2] := by kernel_rfl
theorem rs42 : Try.f42.results.toList = [.tmp 2] := by kernel_rfl
theorem rs43 : Try.f43.results.toList = [.tmp 4] := by kernel_rfl
theorem rs44 : Try.f44.results.toList = [.tmp 4] := by kernel_rfl
theorem rs45 : Try.f45.results.toList = [.cell 2 70] := by kernel_rfl
theorem rs46 : Try.f46.results.toList = [.tmp 2] := by kernel_rfl
theorem rs47 : Try.f47.results.toList = [.tmp 2] := by kernel_rfl
theorem rs48 : Try.f48.results.toList = [.tmp 2, .tmp 3] := by kernel_rfl
theorem rs49 : Try.f49.results.toList = [.tmp 4, .tmp 5] := by kernel_rfl
theorem rs50 : Try.f50.results.toList = [.tmp 4] := by kernel_rfl
theorem rs51 : Try.f51.results.toList = [.tmp 2] := by kernel_rfl
theorem rs52 : Try.f52.results.toList = [.tmp 2] := by kernel_rfl
theorem rs53 : Try.f53.results.toList = [.tmp 3] := by kernel_rfl
theorem rs54 : Try.f54.results.toList = [.tmp 2] := by kernel_rfl
theorem rs55 : Try.f55.results.toList = [.tmp 2] := by kernel_rfl
theorem rs56 : Try.f56.results.toList = [.tmp 4, .tmp 5] := by kernel_rfl
theorem rs57 : Try.f57.results.toList = [.tmp 2, .tmp 3, .tmp 4] := by kernel_rfl
theorem rs58 : Try.f58.results.toList = [.tmp 2] := by kernel_rfl
theorem rs59 : Try.f59.results.toList = [.tmp 2, .tmp 3] := by kernel_rfl
theorem rs60 : Try.f60.results.toList = [.tmp 2] := by kernel_rfl
theorem rs61 : Try.f61.results.toList = [] := by kernel_rfl
theorem rs62 : Try.f62.results.toList = [.cell 2 94, .tmp 3] := by kernel_rfl
theorem rs63 : Try.f63.results.toList = [.tmp 4] := by kernel_rfl
theorem rs64 : Try.f64.results.toList = [.tmp 4] := by kernel_rfl
theorem rs65 : Try.f65.results.toList = [] := by kernel_rfl
theorem rs66 : Try.f66.results.toList = [] := by kernel_rfl
theorem rs67 : Try.f67.results.toList = [.tmp 2, .tmp 3] := by kernel_rfl
theorem rs68 : Try.f68.results.toList = [.tmp 2] := by kernel_rfl
theorem rs69 : Try.f69.results.toList = [.tmp 2, .tmp 3] := by kernel_rfl
theorem rs70 : Try.f70.results.toList = [.tmp 2] := by kernel_rfl
theorem rs71 : Try.f71.results.toList = [.tmp 2] := by kernel_rfl
theorem rs72 : Try.f72.results.toList = [.tmp 2] := by kernel_rfl
theorem rs73 : Try.f73.results.toList = [.tmp 4, .tmp 5, .tmp 6] := by kernel_rfl
theorem rs74 : Try.f74.results.toList = [.tmp 2, .tmp 3] := by kernel_rfl
theorem rs75 : Try.f75.results.toList = [.tmp 2, .tmp 3] := by kernel_rfl
theorem rs76 : Try.f76.results.toList = [.tmp 2, .tmp 3] := by kernel_rfl
theorem rs77 : Try.f77.results.toList = [.cell 2 70] := by kernel_rfl
theorem rs78 : Try.f78.results.toList = [.tmp 2, .tmp 3] := by kernel_rfl
theorem rs79 : Try.f79.results.toList = [.tmp 2, .tmp 3] := by kernel_rfl
theorem rs80 : Try.f80.results.toList = [.tmp 2] := by kernel_rfl
theorem rs81 : Try.f81.results.toList = [.cell 0 113] := by kernel_rfl
theorem rs82 : Try.f82.results.toList = [.cell 4 113] := by kernel_rfl
theorem rs83 : Try.f83.results.toList = [.cell 4 70] := by kernel_rfl
theorem rs84 : Try.f84.results.toList = [.cell 2 117] := by kernel_rfl
theorem rs85 : Try.f85.results.toList = [.tmp 4] := by kernel_rfl
theorem rs86 : Try.f86.results.toList = [.tmp 2] := by kernel_rfl
theorem rs87 : Try.f87.results.toList = [.tmp 2] := by kernel_rfl
theorem rs88 : Try.f88.results.toList = [.tmp 2] := by kernel_rfl
theorem rs89 : Try.f89.results.toList = [.tmp 2] := by kernel_rfl
theorem rs90 : Try.f90.results.toList = [.tmp 2] := by kernel_rfl
theorem rs91 : Try.f91.results.toList = [] := by kernel_rfl
theorem rs92 : Try.f92.results.toList = [.tmp 4, .tmp 5] := by kernel_rfl
theorem rs93 : Try.f93.results.toList = [.tmp 3] := by kernel_rfl
theorem rs94 : Try.f94.results.toList = [.tmp 2] := by kernel_rfl
theorem rs95 : Try.f95.results.toList = [.tmp 4] := by kernel_rfl
theorem rs96 : Try.f96.results.toList = [.tmp 5] := by kernel_rfl
theorem rs97 : Try.f97.results.toList = [.tmp 4] := by kernel_rfl
theorem rs98 : Try.f98.results.toList = [.tmp 4, .tmp 5, .tmp 6] := by kernel_rfl
theorem rs99 : Try.f99.results.toList = [.tmp 2, .tmp 3] := by kernel_rfl
theorem rs100 : Try.f100.results.toList = [.cell 0 132] := by kernel_rfl
theorem rs101 : Try.f101.results.toList = [.cell 4 132] := by kernel_rfl
theorem rs102 : Try.f102.results.toList = [.cell 4 70] := by kernel_rfl
theorem rs103 : Try.f103.results.toList = [.tmp 2, .tmp 3] := by kernel_rfl
theorem rs104 : Try.f104.results.toList = [.tmp 2] := by kernel_rfl
theorem rs105 : Try.f105.results.toList = [.cell 2 137] := by kernel_rfl
theorem rs106 : Try.f106.results.toList = [.cell 0 139] := by kernel_rfl
theorem rs107 : Try.f107.results.toList = [.cell 0 142] := by kernel_rfl
theorem rs108 : Try.f108.results.toList = [.tmp 8, .tmp 9] := by kernel_rfl
theorem rs109 : Try.f109.results.toList = [.tmp 4] := by kernel_rfl
theorem rs110 : Try.f110.results.toList = [.tmp 2] := by kernel_rfl
theorem rs111 : Try.f111.results.toList = [] := by kernel_rfl
theorem rs112 : Try.f112.results.toList = [.tmp 4] := by kernel_rfl
theorem rs113 : Try.f113.results.toList = [.tmp 4] := by kernel_rfl
theorem rs114 : Try.f114.results.toList = [.tmp 4] := by kernel_rfl
theorem rs115 : Try.f115.results.toList = [.cell 0 139] := by kernel_rfl
theorem rs116 : Try.f116.results.toList = [.tmp 2] := by kernel_rfl
theorem rs117 : Try.f117.results.toList = [.tmp 4] := by kernel_rfl
theorem rs118 : Try.f118.results.toList = [.tmp 2] := by kernel_rfl
theorem rs119 : Try.f119.results.toList = [] := by kernel_rfl
theorem rs120 : Try.f120.results.toList = [] := by kernel_rfl
theorem rs121 : Try.f121.results.toList = [.tmp 2] := by kernel_rfl
theorem rs122 : Try.f122.results.toList = [.tmp 4] := by kernel_rfl
theorem rs123 : Try.f123.results.toList = [.tmp 2, .tmp 3] := by kernel_rfl
theorem rs124 : Try.f124.results.toList = [] := by kernel_rfl
theorem rs125 : Try.f125.results.toList = [] := by kernel_rfl
theorem rs126 : Try.f126.results.toList = [] := by kernel_rfl
theorem rs127 : Try.f127.results.toList = [] := by kernel_rfl
theorem rs128 : Try.f128.results.toList = [] := by kernel_rfl
theorem rs129 : Try.f129.results.toList = [] := by kernel_rfl
theorem rs130 : Try.f130.results.toList = [] := by kernel_rfl
theorem rs131 : Try.f131.results.toList = [] := by kernel_rfl
theorem rs132 : Try.f132.results.toList = [] := by kernel_rfl
theorem rs133 : Try.f133.results.toList = [] := by kernel_rfl
theorem rs134 : Try.f134.results.toList = [] := by kernel_rfl
theorem rs135 : Try.f135.results.toList = [] := by kernel_rfl
theorem rs136 : Try.f136.results.toList = [] := by kernel_rfl
theorem rs137 : Try.f137.results.toList = [] := by kernel_rfl
theorem rs138 : Try.f138.results.toList = [] := by kernel_rfl
theorem rs139 : Try.f139.results.toList = [] := by kernel_rfl
theorem rs140 : Try.f140.results.toList = [] := by kernel_rfl
theorem rs141 : Try.f141.results.toList = [] := by kernel_rfl
end Go.Proofs.YtaiapalhdejngaaX

/- The laws that a run goes by. -/
namespace Go.Proofs.YtaiapalhdejngaaX
open Go Go.RowKit Go.Proofs
attribute [go_sem ↓] stepsK_call drawK_call opW binXW eqW eqFs eqEs binV intW strW fieldW indexW extractW unW loadW loadP fieldAddrW indexAddrW endsW sliceW copyW arrPW buildSliceW makeW convertW storeW newsW appendW elemsW nilW lenW min2W max2W builtinW ifaceW partW boolW_true boolW_false getD_j16 set_j16 rootsP
attribute [go_sem] endK_q endK_seq endK_seq_exit endK_seq_ret endK_blk endK_blk_ret endK_blk_exit roundsK_succ endK_lp endK_lp_exit endK_lp_ret runK_skip runK_exit runK_ret runK_seq runK_block runK_region runK_draw stepsK_nil callK callE stepsK_cons drawK_nil drawK_cons rootsK_nil rootsK_cons loopQ_normal loopQ_exit loopQ_ret loopC_normal loopC_exit loopC_ret loopK_normal loopK_exit loopK_ret St.keep keepL St.gc gcW deadK reachL refsT refsL refsO dropL Int.toNat_natCast St.cut List.range'_zero List.range'_succ lookS_at liteL dstsL gL St.is evalT ofVal ofVals St.after St.put St.upd
attribute [go_sem] St.eff quietE eOp effB trims trim setCells fillT fillE patchT isJunk leafT T.cells oneT RetQ resW retT St.lockAll Own.lockAll dsnap dsnapL snap closedT closedL rootsOf rootsO rootsA rootOf St.frzR St.frzB St.frzT St.frzL St.frz kill killL Own.kill aggD List.getD_cons_zero List.getD_cons_succ List.getD_nil List.set_cons_zero List.set_cons_succ List.set_nil List.flatMap_cons List.flatMap_nil List.append_nil List.nil_append List.cons_append List.map_cons List.map_nil List.filterMap_cons List.filterMap_nil List.find?_cons List.find?_nil List.getElem?_cons_zero List.getElem?_cons_succ List.getElem?_nil List.length_cons List.length_nil List.replicate
attribute [go_sem] List.contains_cons List.contains_nil List.take_zero List.drop_zero List.take_succ_cons List.drop_succ_cons List.all_cons List.all_nil List.size_toArray List.getElem?_toArray Array.toList_map List.map_toArray Option.some_beq_some Option.none_beq_some Option.some_beq_none Option.map_some Option.map_none Option.bind_some Option.bind_none Option.some.injEq ne_eq not_false_eq_true not_true_eq_false true_and and_true and_false false_and Bool.false_eq_true Bool.true_eq_false forall_const false_imp_iff true_imp_iff imp_self beq_self_eq_true or_true true_or or_false false_or if_true if_false ite_true ite_false Bool.or_true Bool.true_or Bool.and_true Bool.true_and Bool.false_or Bool.or_false Bool.false_and Bool.and_false Bool.not_true Bool.not_false decide_true decide_false Nat.lt_irrefl Nat.le_refl Nat.zero_add Nat.add_zero Nat.zero_mul Nat.mul_one
attribute [go_sem] Nat.mul_zero Nat.zero_le gt_iff_lt ge_iff_le Int.cast_ofNat_Int Option.isNone_some Option.isNone_none Option.isSome_some Option.isSome_none Nat.zero_max Nat.max_zero Nat.max_self List.take_length List.length_append List.length_map
attribute [go_sem] rs0 rs1 rs2 rs3 rs4 rs5 rs6 rs7 rs8 rs9 rs10 rs11 rs12 rs13 rs14 rs15 rs16 rs17 rs18 rs19 rs20 rs21 rs22 rs23 rs24 rs25 rs26 rs27 rs28 rs29 rs30 rs31 rs32 rs33 rs34 rs35 rs36 rs37 rs38 rs39 rs40 rs41 rs42 rs43 rs44 rs45 rs46 rs47 rs48 rs49 rs50 rs51 rs52 rs53 rs54 rs55 rs56 rs57 rs58 rs59
attribute [go_sem] rs60 rs61 rs62 rs63 rs64 rs65 rs66 rs67 rs68 rs69 rs70 rs71 rs72 rs73 rs74 rs75 rs76 rs77 rs78 rs79 rs80 rs81 rs82 rs83 rs84 rs85 rs86 rs87 rs88 rs89 rs90 rs91 rs92 rs93 rs94 rs95 rs96 rs97 rs98 rs99 rs100 rs101 rs102 rs103 rs104 rs105 rs106 rs107 rs108 rs109 rs110 rs111 rs112 rs113 rs114 rs115 rs116 rs117 rs118 rs119
attribute [go_sem] rs120 rs121 rs122 rs123 rs124 rs125 rs126 rs127 rs128 rs129 rs130 rs131 rs132 rs133 rs134 rs135 rs136 rs137 rs138 rs139 rs140 rs141 Try.underlying0 Try.underlying1 Try.underlying2 sz2 cz2 ok2 ze2 by2 Try.underlying3 sz3 cz3 ok3 ze3 by3 Try.underlying4 sz4 cz4 ok4 ze4 by4 ni4 Try.underlying5 sz5 cz5 ok5 ze5 by5 Try.underlying6 sz6 cz6 ok6 ze6 by6 Try.underlying7 sz7 cz7 ok7 ze7
attribute [go_sem] by7 ni7 Try.underlying8 sz8 cz8 ok8 ze8 by8 ni8 Try.underlying9 sz9 cz9 ok9 ze9 by9 ni9 Try.underlying10 sz10 cz10 ok10 ze10 by10 ni10 Try.underlying11 sz11 cz11 ok11 ze11 by11 ni11 Try.underlying12 sz12 cz12 ok12 ze12 by12 Try.underlying13 sz13 cz13 ok13 ze13 by13 ni13 Try.underlying14 sz14 cz14 ok14 ze14 by14 ni14 Try.underlying15 sz15 cz15 ok15 ze15 by15 ni15 Try.underlying16 sz16 cz16
attribute [go_sem] ok16 ze16 by16 ni16 Try.underlying17 sz17 cz17 ok17 ze17 by17 ni17 Try.underlying18 sz18 cz18 ok18 ze18 by18 ni18 Try.underlying19 sz19 cz19 ok19 ze19 by19 ni19 Try.underlying20 sz20 cz20 ok20 ze20 by20 ni20 Try.underlying21 sz21 cz21 ok21 ze21 by21 Try.underlying22 sz22 cz22 ok22 ze22 by22 ni22 Try.underlying23 sz23 cz23 ok23 ze23 by23 ni23 Try.underlying24 sz24 cz24 ok24 ze24 by24 ni24 Try.underlying25
attribute [go_sem] sz25 cz25 ok25 ze25 by25 ni25 Try.underlying26 sz26 cz26 ok26 ze26 by26 ni26 Try.underlying27 sz27 cz27 ok27 ze27 by27 ni27 Try.underlying28 Try.underlying29 Try.underlying30 Try.underlying31 Try.underlying32 Try.underlying33 Try.underlying34 Try.underlying35 Try.underlying36 Try.underlying37 Try.underlying38 sz38 cz38 ok38 ze38 by38 ni38 Try.underlying39 Try.underlying40 Try.underlying41 sz41 cz41 ok41 ze41 by41 ni41 eg41 sh41 Try.underlying42 sz42 cz42 ok42 ze42 by42 ni42 eg42 sh42 Try.underlying43 sz43 cz43
attribute [go_sem] ok43 ze43 by43 Try.underlying44 Try.underlying45 Try.underlying46 Try.underlying47 Try.underlying48 Try.underlying49 Try.underlying50 Try.underlying51 Try.underlying52 sz52 cz52 ok52 ze52 by52 ni52 Try.underlying53 Try.underlying54 Try.underlying55 Try.underlying56 Try.underlying57 Try.underlying58 Try.underlying59 Try.underlying60 Try.underlying61 Try.underlying62 Try.underlying63 Try.underlying64 Try.underlying65 Try.underlying66 Try.underlying67 Try.underlying68 Try.underlying69 sz69 cz69 ok69 ze69 by69 ni69 Try.underlying70 sz70 cz70 ok70 ze70 by70 ni70 eg70 sh70 Try.underlying71 Try.underlying72 Try.underlying73 sz73 cz73 ok73 ze73 by73 ni73 Try.underlying74
attribute [go_sem] sz74 cz74 ok74 ze74 by74 ni74 Try.underlying75 sz75 cz75 ok75 ze75 by75 ni75 Try.underlying76 Try.underlying77 Try.underlying78 sz78 cz78 ok78 ze78 by78 ni78 Try.underlying79 sz79 cz79 ok79 ze79 by79 ni79 Try.underlying80 Try.underlying81 Try.underlying82 Try.underlying83 Try.underlying84 Try.underlying85 Try.underlying86 Try.underlying87 Try.underlying88 Try.underlying89 sz89 cz89 ok89 ze89 by89 ni89 Try.underlying90 sz90 cz90 ok90 ze90 by90 ni90 Try.underlying91 sz91 cz91 ok91 ze91 by91 ni91 Try.underlying92
attribute [go_sem] Try.underlying93 sz93 cz93 ok93 ze93 by93 ni93 Try.underlying94 sz94 cz94 ok94 ze94 by94 ni94 Try.underlying95 Try.underlying96 Try.underlying97 Try.underlying98 Try.underlying99 sz99 cz99 ok99 ze99 by99 ni99 Try.underlying100 sz100 cz100 ok100 ze100 by100 ni100 Try.underlying101 sz101 cz101 ok101 ze101 by101 ni101 Try.underlying102 Try.underlying103 Try.underlying104 Try.underlying105 Try.underlying106 Try.underlying107 Try.underlying108 Try.underlying109 sz109 cz109 ok109 ze109 by109 Try.underlying110 sz110 cz110 ok110 ze110 by110 ni110 eg110
attribute [go_sem] sh110 Try.underlying111 sz111 cz111 ok111 ze111 by111 Try.underlying112 sz112 cz112 ok112 ze112 by112 ni112 eg112 sh112 Try.underlying113 sz113 cz113 ok113 ze113 by113 ni113 eg113 sh113 Try.underlying114 Try.underlying115 Try.underlying116 sz116 cz116 ok116 ze116 by116 ni116 eg116 sh116 Try.underlying117 sz117 cz117 ok117 ze117 by117 ni117 eg117 sh117 Try.underlying118 Try.underlying119 Try.underlying120 Try.underlying121 Try.underlying122 sz122 cz122 ok122 ze122 by122 Try.underlying123 Try.underlying124 Try.underlying125 sz125 cz125
attribute [go_sem] ok125 ze125 by125 ni125 Try.underlying126 sz126 cz126 ok126 ze126 by126 ni126 Try.underlying127 sz127 cz127 ok127 ze127 by127 ni127 Try.underlying128 Try.underlying129 Try.underlying130 Try.underlying131 Try.underlying132 sz132 cz132 ok132 ze132 by132 ni132 eg132 sh132 Try.underlying133 Try.underlying134 Try.underlying135 Try.underlying136 Try.underlying137 sz137 cz137 ok137 ze137 by137 ni137 eg137 sh137 Try.underlying138 Try.underlying139 sz139 cz139 ok139 ze139 by139 ni139 eg139 sh139 Try.underlying140 Try.underlying141 sz141 cz141 ok141 ze141
attribute [go_sem] by141 ni141 eg141 sh141 Try.underlying142 sz142 cz142 ok142 ze142 by142 ni142 eg142 sh142 Try.underlying143 Try.underlying144 Try.underlying145 Try.underlying146 Try.underlying147 sz147 cz147 ok147 ze147 by147 ni147 eg147 sh147 Try.underlying148 sz148 cz148 ok148 ze148 by148 ni148 Try.underlying149 Try.underlying150 Try.underlying151 Try.underlying152 sz152 cz152 ok152 ze152 by152 ni152 Try.underlying153 Try.underlying154 Try.underlying155 Try.underlying156 Try.underlying157 Try.underlying158 sz158 cz158 ok158 ze158 by158 ni158 Try.underlying159 sz159 cz159 ok159 ze159
attribute [go_sem] by159 ni159 Try.underlying160 sz160 cz160 ok160 ze160 by160 ni160 Try.underlying161 sz161 cz161 ok161 ze161 by161 ni161 Try.underlying162 sz162 cz162 ok162 ze162 by162 ni162 Try.underlying163 Try.underlying164 sz164 cz164 ok164 ze164 by164 Try.underlying165 sz165 cz165 ok165 ze165 by165 Try.underlying166 Try.underlying167 sz167 cz167 ok167 ze167 by167 Try.underlying168 sz168 cz168 ok168 ze168 by168 Try.underlying169 sz169 cz169 ok169 ze169 by169 ni169 Try.underlying170 sz170 cz170 ok170
attribute [go_sem] ze170 by170 ni170
end Go.Proofs.YtaiapalhdejngaaX

/- Words for what functions answer. -/
set_option linter.unusedVariables false
namespace Go.Proofs.YtaiapalhdejngaaX
open Go Go.RowKit Go.Proofs
abbrev i32 (n : Int) : T := .imm (.int .i32 n)
abbrev i64 (n : Int) : T := .imm (.int .i64 n)
abbrev u8 (n : Int) : T := .imm (.int .u8 n)
abbrev u32 (n : Int) : T := .imm (.int .u32 n)
abbrev u64 (n : Int) : T := .imm (.int .u64 n)
abbrev tb (b : Bool) : T := .imm (.bool b)
abbrev ts (s : ByteArray) : T := .imm (.string s)
theorem tb_eq {a b : Bool} (h : a = b) : T.imm (.bool a) = .imm (.bool b) := by rw [h]
theorem tb_iff {p : Prop} [Decidable p] {b : Bool} (h : b = true ↔ p) : T.imm (.bool b) = .imm (.bool (decide p)) := by
  refine tb_eq ?_
  cases b with
  | true => exact (decide_eq_true (h.1 rfl)).symm
  | false => exact (decide_eq_false fun hp => Bool.noConfusion (h.2 hp)).symm
theorem imm_eq {k : IntKind} {a b : Int} (h : a = b) : T.imm (.int k a) = .imm (.int k b) := by rw [h]
theorem str_eq {a b : ByteArray} (h : a = b) : T.imm (.string a) = .imm (.string b) := by rw [h]
theorem sl_eq {sz : Nat} {f : Bool} {a b : List T} (h : a = b) : T.sl sz f a = .sl sz f b := by rw [h]
theorem boolW_mk {b : Bool} {A B : Prop} (h1 : b = true → A) (h2 : b = false → B) : boolW b A B := ⟨h1, h2⟩
theorem boolD_mk {p : Prop} [Decidable p] {A B : Prop} (h1 : p → A) (h2 : ¬ p → B) : boolW (decide p) A B := ⟨fun h => h1 (of_decide_eq_true h), fun h => h2 (of_decide_eq_false h)⟩
theorem wf_of {k : IntKind} {n : Int} (h : (Lit.int k n).wf = true) : k.min ≤ n ∧ n ≤ k.max := by
  simpa [Lit.wf] using h
theorem wf_i32 {n : Int} (h : (Lit.int .i32 n).wf = true) : -2147483648 ≤ n ∧ n ≤ 2147483647 := wf_of h
theorem wf_i64 {n : Int} (h : (Lit.int .i64 n).wf = true) : -9223372036854775808 ≤ n ∧ n ≤ 9223372036854775807 := wf_of h
theorem wf_u8 {n : Int} (h : (Lit.int .u8 n).wf = true) : 0 ≤ n ∧ n ≤ 255 := wf_of h
theorem wf_u32 {n : Int} (h : (Lit.int .u32 n).wf = true) : 0 ≤ n ∧ n ≤ 4294967295 := wf_of h
theorem wf_u64 {n : Int} (h : (Lit.int .u64 n).wf = true) : 0 ≤ n ∧ n ≤ 18446744073709551615 := wf_of h
end Go.Proofs.YtaiapalhdejngaaX

/- Bits of numbers that are not below zero. -/
set_option linter.unusedVariables false
namespace Go.Proofs.YtaiapalhdejngaaX
open Go Go.RowKit Go.Proofs
theorem ofInt_nat (w : Nat) (n : Nat) (h : n < 2 ^ w) : (BitVec.ofInt w (n : Int)).toNat = n := by
  rw [BitVec.ofInt_natCast, BitVec.toNat_ofNat, Nat.mod_eq_of_lt h]
theorem or_low (i a b : Nat) (ha : a % 2 ^ i = 0) (hb : b < 2 ^ i) : a ||| b = a + b := by
  obtain ⟨q, rfl⟩ : ∃ q, a = 2 ^ i * q := ⟨a / 2 ^ i, by have := Nat.div_add_mod a (2 ^ i); omega⟩
  exact (Nat.two_pow_add_eq_or_of_lt hb q).symm
/-- Bits beside others are a sum. -/
theorem or_add (w i : Nat) (x y : Int) (hx : 0 ≤ x) (hxw : x < 2 ^ w) (hd : x % 2 ^ i = 0) (hy : 0 ≤ y) (hyi : y < 2 ^ i) (hiw : i ≤ w) : ((BitVec.ofInt w x ||| BitVec.ofInt w y).toNat : Int) = x + y := by
  obtain ⟨a, rfl⟩ := Int.eq_ofNat_of_zero_le hx
  obtain ⟨b, rfl⟩ := Int.eq_ofNat_of_zero_le hy
  have e : ((2 : Int) ^ i) = ((2 ^ i : Nat) : Int) := by simp
  have e' : ((2 : Int) ^ w) = ((2 ^ w : Nat) : Int) := by simp
  rw [e] at hd hyi
  rw [e'] at hxw
  have hle : 2 ^ i ≤ 2 ^ w := Nat.pow_le_pow_right (by omega) hiw
  rw [BitVec.toNat_or, ofInt_nat w a (by omega), ofInt_nat w b (by omega), or_low i a b (by omega) (by omega)]
  omega
theorem and_low (w i : Nat) (x : Int) (hx : 0 ≤ x) (hxw : x < 2 ^ w) (hiw : i ≤ w) (m : Int) (hm : m = 2 ^ i - 1) : ((BitVec.ofInt w x &&& BitVec.ofInt w m).toNat : Int) = x % 2 ^ i := by
  obtain ⟨a, rfl⟩ := Int.eq_ofNat_of_zero_le hx
  have e : ((2 : Int) ^ i) = ((2 ^ i : Nat) : Int) := by simp
  have e' : ((2 : Int) ^ w) = ((2 ^ w : Nat) : Int) := by simp
  rw [e'] at hxw
  have hle : 2 ^ i ≤ 2 ^ w := Nat.pow_le_pow_right (by omega) hiw
  have hp : 0 < 2 ^ i := Nat.two_pow_pos i
  have hm' : m = ((2 ^ i - 1 : Nat) : Int) := by omega
  subst hm'
  rw [BitVec.toNat_and, ofInt_nat w a (by omega), ofInt_nat w _ (by omega), Nat.and_two_pow_sub_one_eq_mod, e]
  omega
theorem bOr_add (k : IntKind) (i : Nat) (x y : Int) (hx : 0 ≤ x) (hxw : x < 2 ^ k.bits) (hd : x % 2 ^ i = 0) (hy : 0 ≤ y) (hyi : y < 2 ^ i) (hiw : i ≤ k.bits) : bOr k x y = x + y := or_add k.bits i x y hx hxw hd hy hyi hiw
theorem bAnd_low (k : IntKind) (i : Nat) (x : Int) (hx : 0 ≤ x) (hxw : x < 2 ^ k.bits) (hiw : i ≤ k.bits) (m : Int) (hm : m = 2 ^ i - 1) : bAnd k x m = x % 2 ^ i := and_low k.bits i x hx hxw hiw m hm
theorem bShr_div (k : IntKind) (x : Int) (n : Nat) (m : Int) (h : (2 : Int) ^ min n k.bits = m) (hm : 0 ≤ m) : bShr k x n = x / m := by unfold bShr; rw [h, Int.fdiv_eq_ediv_of_nonneg _ hm]
end Go.Proofs.YtaiapalhdejngaaX

set_option linter.unusedVariables false
set_option linter.unusedSimpArgs false
namespace Go.Proofs.YtaiapalhdejngaaX
open Go Go.RowKit Go.Proofs
set_option maxRecDepth 100000

end Go.Proofs.YtaiapalhdejngaaX

set_option linter.unusedVariables false
set_option linter.unusedSimpArgs false
namespace Go.Proofs.YtaiapalhdejngaaX
open Go Go.RowKit Go.Proofs
set_option maxRecDepth 100000
/-! ### hex.Kind: by hand (an inner function that sees the byte through a place of the caller's own) -/
def kindOf (c : Int) : Int := if 48 ≤ c ∧ c ≤ 57 then 1 else if 97 ≤ c ∧ c ≤ 102 then 2 else if 103 ≤ c ∧ c ≤ 122 then 3 else if 65 ≤ c ∧ c ≤ 90 then 4 else 0
def F70 (n : Nat) (a0 : Int) : Option Int := some (kindOf a0)
set_option maxHeartbeats 2000000 in
theorem kind_inside (a b c : Int) (p : Addr) (w : World) (hc : w.cell? p = some (.int .u8 c)) :
    Calls Try.prog 96 #[.int .u8 a, .int .u8 b, .pointer (some p)] w fun e w' => e = .returned (.bool (decide (a ≤ c ∧ c ≤ b))) ∧ w' = w := by
  by_cases h1 : a ≤ c
  · have h1b : decide (a ≤ c) = true := decide_eq_true h1
    go_enter Try.func96, Try.ntmps96
    go_wp2
    go_ret
    exact ⟨by simp [h1], rfl⟩
  · have h1b : decide (a ≤ c) = false := decide_eq_false h1
    go_enter Try.func96, Try.ntmps96
    go_wp2
    go_ret
    exact ⟨by simp [h1], rfl⟩
set_option maxHeartbeats 4000000 in
theorem kind_calls (a0 : Int) (w : World) :
    Calls Try.prog 70 #[.int .u8 a0] w fun e w' => e = .returned (.int .i64 (kindOf a0)) ∧ Below w.heap.size w w' := by
  have hmf : ∀ (fn : Fn) (first cap : Array Value) (w : World), (Instr.makeFunc fn first cap).run Try.prog w = .ok (.func fn first cap) w := fun _ _ _ _ => rfl
  go_enter Try.func70, Try.ntmps70
  go_wp2_with (go_at_call 96; refine (kind_inside _ _ a0 _ _ (by simp)).mono ?_; rintro e w' ⟨rfl, rfl⟩)
  all_goals (go_ret; exact ⟨by unfold kindOf; (repeat (first | rw [if_pos (by omega)] | rw [if_neg (by omega)])); rfl, (Below.refl _ _).alloc (Nat.le_refl _) _⟩)
theorem F70_ok (n : Nat) (a0 : Int) (r : Int) (h : F70 n a0 = some r) : FnC Try.prog 70 [.imm (.int .u8 a0)] (.imm (.int .i64 r)) := by
  obtain rfl := Option.some.inj h
  refine ⟨⟨Try.f70, Try.func70, by kernel_rfl, rfl⟩, fun w ban vs hban hv => ?_⟩
  have e : vs = #[.int .u8 a0] := by
    obtain ⟨l⟩ := vs
    simp only [RepL, Rep] at hv
    obtain ⟨u, us, h1, h2, h3⟩ := hv
    simp_all [Lit.value]
  rw [e]
  refine (kind_calls a0 w).mono ?_
  rintro e w' ⟨rfl, hb⟩
  exact ⟨_, rfl, hb, by simp only [Rep]; exact ⟨trivial, rfl⟩⟩

end Go.Proofs.YtaiapalhdejngaaX

set_option linter.unusedVariables false
set_option linter.unusedSimpArgs false
namespace Go.Proofs.YtaiapalhdejngaaX
open Go Go.RowKit Go.Proofs
set_option maxRecDepth 100000
attribute [local go_sem ↓] stepsK_build stepsK_build0 stepsK_bs stepsK_bs0 appendS
attribute [local go_sem] String.reduceEq String.reduceNe reduceCtorEq Int.reduceEq Nat.reduceAdd Nat.reduceSub Nat.reduceMul Nat.reduceLT Nat.reduceLeDiff Nat.reduceEqDiff Nat.reduceBEq Int.reduceToNat Int.reduceLT Int.reduceLE Int.reduceGT Int.reduceGE Int.reduceAdd Int.reduceSub Int.reduceMul Int.reduceNeg Int.reduceBEq Int.reduceBNe Int.reducePow Int.reduceDiv Int.reduceMod Int.reduceTDiv Int.reduceTMod Int.reduceNatCast
/-! ### hex.value -/
def F99 (n : Nat) (a0 : Int) : Option ((Int) × (Bool)) := (F70 n a0).bind fun v1 => iteB (v1 == (1 : Int)) (some ((IntKind.wrap .u8 (a0 - (48 : Int))), true)) (iteB (v1 == (2 : Int)) (some ((IntKind.wrap .u8 ((IntKind.wrap .u8 (a0 - (97 : Int))) + (10 : Int))), true)) (some ((0 : Int), false)))
set_option maxHeartbeats 4000000 in
theorem F99_ok : ∀ (n : Nat) (a0 : Int) (r : (Int) × (Bool)), F99 n a0 = some r → FnC Try.prog 99 [.imm (.int .u8 a0)] (.tup [.imm (.int .u8 r.1), .imm (.bool r.2)])
  | n, a0, r, h => by
    unfold F99 at h
    refine FnC.goX mixed Try.func99 (by kernel_rfl) rfl ?_
    simp only [Try.ntmps99, List.length_cons, List.length_nil, List.replicate, List.cons_append, List.nil_append, Nat.reduceAdd, Nat.reduceSub]
    refine runX_seq ?_
    refine runX_regionC fun C hC => ?_
    try simp -implicitDefEqProofs (maxSteps := 4000000) (disch := first | omega | decide | (simp only [go_sem]; omega)) only [go_sem, ↓reduceIte]
    repeat (with_reducible refine And.intro (by first | assumption | omega | (simp; done) | (simp; omega)) ?_)
    refine toEnd hC ?_
    refine endX_seq ?_
    refine runX_seq ?_
    refine runX_seq ?_
    refine runX_regionC fun C hC => ?_
    obtain ⟨v1, h1, h⟩ := bnd_some h
    try simp -implicitDefEqProofs (maxSteps := 4000000) (disch := first | omega | decide | (simp only [go_sem]; omega)) only [go_sem, ↓reduceIte]
    repeat (with_reducible refine And.intro (by first | assumption | omega | (simp; done) | (simp; omega)) ?_)
    refine callG_X (by first | rfl | (simp only [go_sem]; done) | (simp only [closedL, closedT, Bool.and_true]; exact closedL_map _ (fun _ => by first | rfl | (simp only [go_sem]; done)) _)) (F70_ok n a0 _ h1) (by repeat (first | exact leL_refl _ | refine leL_cons (by first | exact leT_refl _ | exact leT_virt | exact leT_junk _ | exact leT_sl | exact leT_sln | exact leT_nil | (refine leT_agg (by repeat (first | exact leL_refl _ | refine leL_cons (by first | exact leT_refl _ | exact leT_sl | exact leT_sln | exact leT_nil) ?_)))) ?_)) ?_
    try simp -implicitDefEqProofs (maxSteps := 4000000) (disch := first | omega | decide | (simp only [go_sem]; omega)) only [go_sem, ↓reduceIte]
    repeat (with_reducible refine And.intro (by first | assumption | omega | (simp; done) | (simp; omega)) ?_)
    refine toEnd hC ?_
    refine endX_seq ?_
    refine runX_block ?_
    refine runX_seq ?_
    refine runX_regionC fun C hC => ?_
    try simp -implicitDefEqProofs (maxSteps := 4000000) (disch := first | omega | decide | (simp only [go_sem]; omega)) only [go_sem, ↓reduceIte]
    repeat (with_reducible refine And.intro (by first | assumption | omega | (simp; done) | (simp; omega)) ?_)
    refine toEnd hC ?_
    refine endX_seq ?_
    rcases iteB_some h with ⟨c2, h⟩ | ⟨c2, h⟩
    · refine runX_condT rfl c2 ?_
      refine runX_seq ?_
      refine runX_regionC fun C hC => ?_
      try simp -implicitDefEqProofs (maxSteps := 4000000) (disch := first | omega | decide | (simp only [go_sem]; omega)) only [go_sem, ↓reduceIte]
      repeat (with_reducible refine And.intro (by first | assumption | omega | (simp; done) | (simp; omega)) ?_)
      refine toEnd hC ?_
      refine endX_seq ?_
      refine runX_ret ?_
      refine endX_blkR ?_
      refine endX_seqR ?_
      refine endX_q ?_
      obtain rfl := Option.some.inj h
      show RetW _ _ _ _ _
      simp only [RetW]
      (try simp -implicitDefEqProofs (maxSteps := 4000000) (disch := first | omega | decide | (simp only [go_sem]; omega)) only [go_sem, ↓reduceIte])
      (try simp (disch := omega) only [if_pos, Nat.sub_zero])
      exact leT_refl _
    · refine runX_condF rfl c2 ?_
      refine runX_seq ?_
      refine runX_regionC fun C hC => ?_
      try simp -implicitDefEqProofs (maxSteps := 4000000) (disch := first | omega | decide | (simp only [go_sem]; omega)) only [go_sem, ↓reduceIte]
      repeat (with_reducible refine And.intro (by first | assumption | omega | (simp; done) | (simp; omega)) ?_)
      refine toEnd hC ?_
      refine endX_seq ?_
      rcases iteB_some h with ⟨c3, h⟩ | ⟨c3, h⟩
      · refine runX_condT rfl c3 ?_
        refine runX_seq ?_
        refine runX_regionC fun C hC => ?_
        try simp -implicitDefEqProofs (maxSteps := 4000000) (disch := first | omega | decide | (simp only [go_sem]; omega)) only [go_sem, ↓reduceIte]
        repeat (with_reducible refine And.intro (by first | assumption | omega | (simp; done) | (simp; omega)) ?_)
        refine toEnd hC ?_
        refine endX_seq ?_
        refine runX_ret ?_
        refine endX_blkR ?_
        refine endX_seqR ?_
        refine endX_q ?_
        obtain rfl := Option.some.inj h
        show RetW _ _ _ _ _
        simp only [RetW]
        (try simp -implicitDefEqProofs (maxSteps := 4000000) (disch := first | omega | decide | (simp only [go_sem]; omega)) only [go_sem, ↓reduceIte])
        (try simp (disch := omega) only [if_pos, Nat.sub_zero])
        exact leT_refl _
      · refine runX_condF rfl c3 ?_
        refine runX_skip ?_
        refine endX_blk ?_
        refine endX_seq ?_
        refine runX_seq ?_
        refine runX_regionC fun C hC => ?_
        try simp -implicitDefEqProofs (maxSteps := 4000000) (disch := first | omega | decide | (simp only [go_sem]; omega)) only [go_sem, ↓reduceIte]
        repeat (with_reducible refine And.intro (by first | assumption | omega | (simp; done) | (simp; omega)) ?_)
        refine toEnd hC ?_
        refine endX_seq ?_
        refine runX_ret ?_
        refine endX_q ?_
        obtain rfl := Option.some.inj h
        show RetW _ _ _ _ _
        simp only [RetW]
        (try simp -implicitDefEqProofs (maxSteps := 4000000) (disch := first | omega | decide | (simp only [go_sem]; omega)) only [go_sem, ↓reduceIte])
        (try simp (disch := omega) only [if_pos, Nat.sub_zero])
        exact leT_refl _
end Go.Proofs.YtaiapalhdejngaaX

set_option linter.unusedVariables false
set_option linter.unusedSimpArgs false
namespace Go.Proofs.YtaiapalhdejngaaX
open Go Go.RowKit Go.Proofs
set_option maxRecDepth 100000
attribute [local go_sem ↓] stepsK_build stepsK_build0 stepsK_bs stepsK_bs0 appendS
attribute [local go_sem] String.reduceEq String.reduceNe reduceCtorEq Int.reduceEq Nat.reduceAdd Nat.reduceSub Nat.reduceMul Nat.reduceLT Nat.reduceLeDiff Nat.reduceEqDiff Nat.reduceBEq Int.reduceToNat Int.reduceLT Int.reduceLE Int.reduceGT Int.reduceGE Int.reduceAdd Int.reduceSub Int.reduceMul Int.reduceNeg Int.reduceBEq Int.reduceBNe Int.reducePow Int.reduceDiv Int.reduceMod Int.reduceTDiv Int.reduceTMod Int.reduceNatCast
/-! ### hex.ReadHex -/
def F75_S1 (a0 : List UInt8) (x2 : Int) (x3 : List (Int)) : St := ⟨[.imm (.string (bs a0)), .junk, .junk, .junk, .rsl 0 1 0 x3.length, .imm (.int .i64 x2), .junk, .junk, .junk, .junk, .junk, .junk, .junk, .junk, .junk, .junk, .junk, .junk, .junk, .junk, .junk, .junk, .junk, .junk, .junk, .junk, .junk, .junk, .junk, .junk, .junk, .junk, .junk, .junk, .junk, .junk, .junk, .junk, .junk, .junk, .junk, .junk, .junk, .junk, .junk, .junk, .junk, .junk, .junk], [some (.buf 5 1 (List.map byteT x3) 0)]⟩
def F75_L1 : Nat → (List UInt8) → (Int) → (List (Int)) → Option ((List (Int)) × (Bool))
  | 0, _, _, _ => none
  | m1 + 1, a0, x2, x3 => iteB (decide (x2 < (a0.length : Int))) (grd (0 ≤ x2 ∧ x2 < (a0.length : Int)) ((F99 m1 ((a0.getD x2.toNat 0).toNat : Int)).bind fun v6 => grd (0 ≤ (IntKind.wrap .i64 (x2 + (1 : Int))) ∧ (IntKind.wrap .i64 (x2 + (1 : Int))) < (a0.length : Int)) ((F99 m1 ((a0.getD (IntKind.wrap .i64 (x2 + (1 : Int))).toNat 0).toNat : Int)).bind fun v8 => iteB (!v6.2) (some ([], false)) (iteB (!v8.2) (some ([], false)) (grd ((x3.length + 1) ≤ 549755813888) (F75_L1 m1 a0 (IntKind.wrap .i64 (x2 + (2 : Int))) (x3 ++ [(IntKind.wrap .u8 (bOr .u8 (IntKind.wrap .u8 (bShl .u8 v6.1 4)) v8.1))]))))))) (some (x3, true))
def F75 (n : Nat) (a0 : List UInt8) : Option ((List (Int)) × (Bool)) := iteB (((a0.length : Int).tmod (2 : Int)) != (0 : Int)) (some ([], false)) (F75_L1 n a0 (0 : Int) [])
set_option maxHeartbeats 4000000 in
theorem F75_ok : ∀ (n : Nat) (a0 : List UInt8) (r : (List (Int)) × (Bool)), F75 n a0 = some r → FnC Try.prog 75 [.imm (.string (bs a0))] (.tup [.sl 1 false (List.map byteT r.1), .imm (.bool r.2)])
  | n, a0, r, h => by
    unfold F75 at h
    refine FnC.goX mixed Try.func75 (by kernel_rfl) rfl ?_
    simp only [Try.ntmps75, List.length_cons, List.length_nil, List.replicate, List.cons_append, List.nil_append, Nat.reduceAdd, Nat.reduceSub]
    refine runX_seq ?_
    refine runX_regionC fun C hC => ?_
    try simp -implicitDefEqProofs (maxSteps := 4000000) (disch := first | omega | decide | (simp only [go_sem]; omega)) only [go_sem, ↓reduceIte]
    repeat (with_reducible refine And.intro (by first | assumption | omega | (simp; done) | (simp; omega)) ?_)
    refine toEnd hC ?_
    refine endX_seq ?_
    refine runX_seq ?_
    refine runX_seq ?_
    refine runX_regionC fun C hC => ?_
    try simp -implicitDefEqProofs (maxSteps := 4000000) (disch := first | omega | decide | (simp only [go_sem]; omega)) only [go_sem, ↓reduceIte]
    repeat (with_reducible refine And.intro (by first | assumption | omega | (simp; done) | (simp; omega)) ?_)
    refine toEnd hC ?_
    refine endX_seq ?_
    rcases iteB_some h with ⟨c1, h⟩ | ⟨c1, h⟩
    · refine runX_condT rfl c1 ?_
      refine runX_seq ?_
      refine runX_regionC fun C hC => ?_
      try simp -implicitDefEqProofs (maxSteps := 4000000) (disch := first | omega | decide | (simp only [go_sem]; omega)) only [go_sem, ↓reduceIte]
      repeat (with_reducible refine And.intro (by first | assumption | omega | (simp; done) | (simp; omega)) ?_)
      refine toEnd hC ?_
      refine endX_seq ?_
      refine runX_ret ?_
      refine endX_seqR ?_
      refine endX_q ?_
      obtain rfl := Option.some.inj h
      show RetW _ _ _ _ _
      simp only [RetW]
      (try simp -implicitDefEqProofs (maxSteps := 4000000) (disch := first | omega | decide | (simp only [go_sem]; omega)) only [go_sem, ↓reduceIte])
      (try simp (disch := omega) only [if_pos, Nat.sub_zero])
      first | exact leT_refl _ | (refine ⟨rfl, ?_⟩; first | exact leT_refl _ | exact leT_sl | exact leT_sln | exact leT_nil | (refine leT_tup (by repeat (first | exact leL_refl _ | refine leL_cons (by first | exact leT_refl _ | exact leT_virt | exact leT_junk _ | exact leT_sl | exact leT_sln | exact leT_nil | (refine leT_agg (by repeat (first | exact leL_refl _ | refine leL_cons (by first | exact leT_refl _ | exact leT_sl | exact leT_sln | exact leT_nil) ?_)))) ?_))) | (refine leT_agg (by repeat (first | exact leL_refl _ | refine leL_cons (by first | exact leT_refl _ | exact leT_virt | exact leT_junk _ | exact leT_sl | exact leT_sln | exact leT_nil | (refine leT_agg (by repeat (first | exact leL_refl _ | refine leL_cons (by first | exact leT_refl _ | exact leT_sl | exact leT_sln | exact leT_nil) ?_)))) ?_)))) | (first | exact leT_refl _ | exact leT_sl | exact leT_sln | exact leT_nil | (refine leT_tup (by repeat (first | exact leL_refl _ | refine leL_cons (by first | exact leT_refl _ | exact leT_virt | exact leT_junk _ | exact leT_sl | exact leT_sln | exact leT_nil | (refine leT_agg (by repeat (first | exact leL_refl _ | refine leL_cons (by first | exact leT_refl _ | exact leT_sl | exact leT_sln | exact leT_nil) ?_)))) ?_))) | (refine leT_agg (by repeat (first | exact leL_refl _ | refine leL_cons (by first | exact leT_refl _ | exact leT_virt | exact leT_junk _ | exact leT_sl | exact leT_sln | exact leT_nil | (refine leT_agg (by repeat (first | exact leL_refl _ | refine leL_cons (by first | exact leT_refl _ | exact leT_sl | exact leT_sln | exact leT_nil) ?_)))) ?_)))) | (simp only [List.append_assoc, List.cons_append, List.nil_append]; exact leT_refl _) | (rw [List.take_of_length_le (by simp)]; (try simp only [List.append_assoc, List.cons_append, List.nil_append]); exact leT_refl _)
    · refine runX_condF rfl c1 ?_
      refine runX_skip ?_
      refine endX_seq ?_
      refine runX_seq ?_
      refine runX_regionC fun C hC => ?_
      try simp -implicitDefEqProofs (maxSteps := 4000000) (disch := first | omega | decide | (simp only [go_sem]; omega)) only [go_sem, ↓reduceIte]
      repeat (with_reducible refine And.intro (by first | assumption | omega | (simp; done) | (simp; omega)) ?_)
      refine toEnd hC ?_
      refine endX_seq ?_
      refine runX_seq ?_
      refine runX_seq ?_
      refine runX_regionC fun C hC => ?_
      try simp -implicitDefEqProofs (maxSteps := 4000000) (disch := first | omega | decide | (simp only [go_sem]; omega)) only [go_sem, ↓reduceIte]
      repeat (with_reducible refine And.intro (by first | assumption | omega | (simp; done) | (simp; omega)) ?_)
      refine toEnd hC ?_
      refine endX_seq ?_
      refine runX_block ?_
      refine runX_loop [0, 4, 5] (fun m S => ∃ (x2 : Int) (x3 : List (Int)), S = F75_S1 a0 x2 x3 ∧ m ≤ n ∧ F75_L1 m a0 x2 x3 = some r) n ⟨F75_S1 a0 (0 : Int) [], ?_, (0 : Int), [], rfl, Nat.le_refl _, h⟩ ?_
      · (try simp -implicitDefEqProofs (maxSteps := 4000000) (disch := first | omega | decide | (simp only [go_sem]; omega)) only [go_sem, ↓reduceIte])
        simp only [F75_S1]
        refine leS_trans (leS_pad _ _ 1) ?_
        simp only [List.replicate, List.cons_append, List.nil_append]
        refine leS_virt 0 5 1 rfl ?_ ?_ rfl
        · repeat (first | exact leL_refl _ | refine leL_cons (by first | exact leT_refl _ | exact leT_virt | exact leT_junk _ | exact leT_sl | exact leT_sln | exact leT_nil | (refine leT_agg (by repeat (first | exact leL_refl _ | refine leL_cons (by first | exact leT_refl _ | exact leT_sl | exact leT_sln | exact leT_nil) ?_)))) ?_)
        · repeat (first | exact leOs_refl _ | refine leOs.cons (by first | exact leO.same _ | (refine leO.box (leT_agg (by repeat (first | exact leL_refl _ | refine leL_cons (by first | exact leT_refl _ | exact leT_virt | exact leT_junk _ | exact leT_sl | exact leT_sln | exact leT_nil | (refine leT_agg (by repeat (first | exact leL_refl _ | refine leL_cons (by first | exact leT_refl _ | exact leT_sl | exact leT_sln | exact leT_nil) ?_)))) ?_))) rfl) | (refine leO.box (by first | exact leT_virt | exact leT_sl | exact leT_sln) rfl)) ?_)
      · clear h
        rintro m1 S ⟨x2, x3, rfl, hm1, h⟩
        cases m1 with
        | zero => first | cases (show (none : Option _) = some _ from h) | (rw [F75_L1] at h; cases h)
        | succ m1 =>
          rw [F75_L1] at h
          simp only [F75_S1]
          refine runX_seq ?_
          refine runX_seq ?_
          refine runX_regionC fun C hC => ?_
          try simp -implicitDefEqProofs (maxSteps := 4000000) (disch := first | omega | decide | (simp only [go_sem]; omega)) only [go_sem, ↓reduceIte]
          repeat (with_reducible refine And.intro (by first | assumption | omega | (simp; done) | (simp; omega)) ?_)
          refine toEnd hC ?_
          refine endX_seq ?_
          rcases iteB_some h with ⟨c4, h⟩ | ⟨c4, h⟩
          · refine runX_condT rfl c4 ?_
            refine runX_skip ?_
            refine endX_seq ?_
            refine runX_seq ?_
            refine runX_block ?_
            refine runX_seq ?_
            refine runX_regionC fun C hC => ?_
            obtain ⟨g5, h⟩ := grd_some h
            obtain ⟨v6, h6, h⟩ := bnd_some h
            try simp -implicitDefEqProofs (maxSteps := 4000000) (disch := first | omega | decide | (simp only [go_sem]; omega)) only [go_sem, ↓reduceIte]
            repeat (with_reducible refine And.intro (by first | assumption | omega | (simp; done) | (simp; omega)) ?_)
            refine callG_X (by first | rfl | (simp only [go_sem]; done) | (simp only [closedL, closedT, Bool.and_true]; exact closedL_map _ (fun _ => by first | rfl | (simp only [go_sem]; done)) _)) (F99_ok m1 ((a0.getD x2.toNat 0).toNat : Int) _ h6) (by repeat (first | exact leL_refl _ | refine leL_cons (by first | exact leT_refl _ | exact leT_virt | exact leT_junk _ | exact leT_sl | exact leT_sln | exact leT_nil | (refine leT_agg (by repeat (first | exact leL_refl _ | refine leL_cons (by first | exact leT_refl _ | exact leT_sl | exact leT_sln | exact leT_nil) ?_)))) ?_)) ?_
            try simp -implicitDefEqProofs (maxSteps := 4000000) (disch := first | omega | decide | (simp only [go_sem]; omega)) only [go_sem, ↓reduceIte]
            repeat (with_reducible refine And.intro (by first | assumption | omega | (simp; done) | (simp; omega)) ?_)
            refine toEnd hC ?_
            refine endX_seq ?_
            refine runX_seq ?_
            refine runX_regionC fun C hC => ?_
            obtain ⟨g7, h⟩ := grd_some h
            obtain ⟨v8, h8, h⟩ := bnd_some h
            try simp -implicitDefEqProofs (maxSteps := 4000000) (disch := first | omega | decide | (simp only [go_sem]; omega)) only [go_sem, ↓reduceIte]
            repeat (with_reducible refine And.intro (by first | assumption | omega | (simp; done) | (simp; omega)) ?_)
            refine callG_X (by first | rfl | (simp only [go_sem]; done) | (simp only [closedL, closedT, Bool.and_true]; exact closedL_map _ (fun _ => by first | rfl | (simp only [go_sem]; done)) _)) (F99_ok m1 ((a0.getD (IntKind.wrap .i64 (x2 + (1 : Int))).toNat 0).toNat : Int) _ h8) (by repeat (first | exact leL_refl _ | refine leL_cons (by first | exact leT_refl _ | exact leT_virt | exact leT_junk _ | exact leT_sl | exact leT_sln | exact leT_nil | (refine leT_agg (by repeat (first | exact leL_refl _ | refine leL_cons (by first | exact leT_refl _ | exact leT_sl | exact leT_sln | exact leT_nil) ?_)))) ?_)) ?_
            try simp -implicitDefEqProofs (maxSteps := 4000000) (disch := first | omega | decide | (simp only [go_sem]; omega)) only [go_sem, ↓reduceIte]
            repeat (with_reducible refine And.intro (by first | assumption | omega | (simp; done) | (simp; omega)) ?_)
            refine toEnd hC ?_
            refine endX_seq ?_
            refine runX_seq ?_
            refine runX_seq ?_
            refine runX_regionC fun C hC => ?_
            try simp -implicitDefEqProofs (maxSteps := 4000000) (disch := first | omega | decide | (simp only [go_sem]; omega)) only [go_sem, ↓reduceIte]
            repeat (with_reducible refine And.intro (by first | assumption | omega | (simp; done) | (simp; omega)) ?_)
            rcases iteB_some h with ⟨c9, h⟩ | ⟨c9, h⟩
            · refine guardK_F c9 ?_
              try simp -implicitDefEqProofs (maxSteps := 4000000) (disch := first | omega | decide | (simp only [go_sem]; omega)) only [go_sem, ↓reduceIte]
              repeat (with_reducible refine And.intro (by first | assumption | omega | (simp; done) | (simp; omega)) ?_)
              refine toEnd hC ?_
              refine endX_seq ?_
              refine runX_condT rfl rfl ?_
              refine runX_seq ?_
              refine runX_regionC fun C hC => ?_
              try simp -implicitDefEqProofs (maxSteps := 4000000) (disch := first | omega | decide | (simp only [go_sem]; omega)) only [go_sem, ↓reduceIte]
              repeat (with_reducible refine And.intro (by first | assumption | omega | (simp; done) | (simp; omega)) ?_)
              refine toEnd hC ?_
              refine endX_seq ?_
              refine runX_ret ?_
              refine endX_seqR ?_
              refine endX_blkR ?_
              refine endX_seqR ?_
              refine endX_q (roundQ_ret ?_)
              refine endX_blkR ?_
              refine endX_seqR ?_
              refine endX_q ?_
              obtain rfl := Option.some.inj h
              show RetW _ _ _ _ _
              simp only [RetW]
              (try simp -implicitDefEqProofs (maxSteps := 4000000) (disch := first | omega | decide | (simp only [go_sem]; omega)) only [go_sem, ↓reduceIte])
              (try simp (disch := omega) only [if_pos, Nat.sub_zero])
              first | exact leT_refl _ | (refine ⟨rfl, ?_⟩; first | exact leT_refl _ | exact leT_sl | exact leT_sln | exact leT_nil | (refine leT_tup (by repeat (first | exact leL_refl _ | refine leL_cons (by first | exact leT_refl _ | exact leT_virt | exact leT_junk _ | exact leT_sl | exact leT_sln | exact leT_nil | (refine leT_agg (by repeat (first | exact leL_refl _ | refine leL_cons (by first | exact leT_refl _ | exact leT_sl | exact leT_sln | exact leT_nil) ?_)))) ?_))) | (refine leT_agg (by repeat (first | exact leL_refl _ | refine leL_cons (by first | exact leT_refl _ | exact leT_virt | exact leT_junk _ | exact leT_sl | exact leT_sln | exact leT_nil | (refine leT_agg (by repeat (first | exact leL_refl _ | refine leL_cons (by first | exact leT_refl _ | exact leT_sl | exact leT_sln | exact leT_nil) ?_)))) ?_)))) | (first | exact leT_refl _ | exact leT_sl | exact leT_sln | exact leT_nil | (refine leT_tup (by repeat (first | exact leL_refl _ | refine leL_cons (by first | exact leT_refl _ | exact leT_virt | exact leT_junk _ | exact leT_sl | exact leT_sln | exact leT_nil | (refine leT_agg (by repeat (first | exact leL_refl _ | refine leL_cons (by first | exact leT_refl _ | exact leT_sl | exact leT_sln | exact leT_nil) ?_)))) ?_))) | (refine leT_agg (by repeat (first | exact leL_refl _ | refine leL_cons (by first | exact leT_refl _ | exact leT_virt | exact leT_junk _ | exact leT_sl | exact leT_sln | exact leT_nil | (refine leT_agg (by repeat (first | exact leL_refl _ | refine leL_cons (by first | exact leT_refl _ | exact leT_sl | exact leT_sln | exact leT_nil) ?_)))) ?_)))) | (simp only [List.append_assoc, List.cons_append, List.nil_append]; exact leT_refl _) | (rw [List.take_of_length_le (by simp)]; (try simp only [List.append_assoc, List.cons_append, List.nil_append]); exact leT_refl _)
            · refine guardK_T c9 ?_
              try simp -implicitDefEqProofs (maxSteps := 4000000) (disch := first | omega | decide | (simp only [go_sem]; omega)) only [go_sem, ↓reduceIte]
              repeat (with_reducible refine And.intro (by first | assumption | omega | (simp; done) | (simp; omega)) ?_)
              refine toEnd hC ?_
              refine endX_seq ?_
              rcases iteB_some h with ⟨c10, h⟩ | ⟨c10, h⟩
              · refine runX_condT rfl c10 ?_
                refine runX_seq ?_
                refine runX_regionC fun C hC => ?_
                try simp -implicitDefEqProofs (maxSteps := 4000000) (disch := first | omega | decide | (simp only [go_sem]; omega)) only [go_sem, ↓reduceIte]
                repeat (with_reducible refine And.intro (by first | assumption | omega | (simp; done) | (simp; omega)) ?_)
                refine toEnd hC ?_
                refine endX_seq ?_
                refine runX_ret ?_
                refine endX_seqR ?_
                refine endX_blkR ?_
                refine endX_seqR ?_
                refine endX_q (roundQ_ret ?_)
                refine endX_blkR ?_
                refine endX_seqR ?_
                refine endX_q ?_
                obtain rfl := Option.some.inj h
                show RetW _ _ _ _ _
                simp only [RetW]
                (try simp -implicitDefEqProofs (maxSteps := 4000000) (disch := first | omega | decide | (simp only [go_sem]; omega)) only [go_sem, ↓reduceIte])
                (try simp (disch := omega) only [if_pos, Nat.sub_zero])
                first | exact leT_refl _ | (refine ⟨rfl, ?_⟩; first | exact leT_refl _ | exact leT_sl | exact leT_sln | exact leT_nil | (refine leT_tup (by repeat (first | exact leL_refl _ | refine leL_cons (by first | exact leT_refl _ | exact leT_virt | exact leT_junk _ | exact leT_sl | exact leT_sln | exact leT_nil | (refine leT_agg (by repeat (first | exact leL_refl _ | refine leL_cons (by first | exact leT_refl _ | exact leT_sl | exact leT_sln | exact leT_nil) ?_)))) ?_))) | (refine leT_agg (by repeat (first | exact leL_refl _ | refine leL_cons (by first | exact leT_refl _ | exact leT_virt | exact leT_junk _ | exact leT_sl | exact leT_sln | exact leT_nil | (refine leT_agg (by repeat (first | exact leL_refl _ | refine leL_cons (by first | exact leT_refl _ | exact leT_sl | exact leT_sln | exact leT_nil) ?_)))) ?_)))) | (first | exact leT_refl _ | exact leT_sl | exact leT_sln | exact leT_nil | (refine leT_tup (by repeat (first | exact leL_refl _ | refine leL_cons (by first | exact leT_refl _ | exact leT_virt | exact leT_junk _ | exact leT_sl | exact leT_sln | exact leT_nil | (refine leT_agg (by repeat (first | exact leL_refl _ | refine leL_cons (by first | exact leT_refl _ | exact leT_sl | exact leT_sln | exact leT_nil) ?_)))) ?_))) | (refine leT_agg (by repeat (first | exact leL_refl _ | refine leL_cons (by first | exact leT_refl _ | exact leT_virt | exact leT_junk _ | exact leT_sl | exact leT_sln | exact leT_nil | (refine leT_agg (by repeat (first | exact leL_refl _ | refine leL_cons (by first | exact leT_refl _ | exact leT_sl | exact leT_sln | exact leT_nil) ?_)))) ?_)))) | (simp only [List.append_assoc, List.cons_append, List.nil_append]; exact leT_refl _) | (rw [List.take_of_length_le (by simp)]; (try simp only [List.append_assoc, List.cons_append, List.nil_append]); exact leT_refl _)
              · refine runX_condF rfl c10 ?_
                refine runX_skip ?_
                refine endX_seq ?_
                refine runX_regionC fun C hC => ?_
                try simp -implicitDefEqProofs (maxSteps := 4000000) (disch := first | omega | decide | (simp only [go_sem]; omega)) only [go_sem, ↓reduceIte]
                repeat (with_reducible refine And.intro (by first | assumption | omega | (simp; done) | (simp; omega)) ?_)
                refine bs_go <| buildX_val ?_
                obtain ⟨g11, h⟩ := grd_some h
                try simp -implicitDefEqProofs (maxSteps := 4000000) (disch := first | omega | decide | (simp only [go_sem]; omega)) only [go_sem, ↓reduceIte]
                repeat (with_reducible refine And.intro (by first | assumption | omega | (simp; done) | (simp; omega)) ?_)
                refine toEnd hC ?_
                refine endX_blk ?_
                refine endX_seq ?_
                refine runX_regionC fun C hC => ?_
                try simp -implicitDefEqProofs (maxSteps := 4000000) (disch := first | omega | decide | (simp only [go_sem]; omega)) only [go_sem, ↓reduceIte]
                repeat (with_reducible refine And.intro (by first | assumption | omega | (simp; done) | (simp; omega)) ?_)
                refine toEnd hC ?_
                refine endX_q (roundQ_normal ⟨m1, by omega, F75_S1 a0 (IntKind.wrap .i64 (x2 + (2 : Int))) (x3 ++ [(IntKind.wrap .u8 (bOr .u8 (IntKind.wrap .u8 (bShl .u8 v6.1 4)) v8.1))]), ?_, (IntKind.wrap .i64 (x2 + (2 : Int))), (x3 ++ [(IntKind.wrap .u8 (bOr .u8 (IntKind.wrap .u8 (bShl .u8 v6.1 4)) v8.1))]), rfl, by omega, h⟩)
                simp only [F75_S1]
                (try simp -implicitDefEqProofs (maxSteps := 4000000) (disch := first | omega | decide | (simp only [go_sem]; omega)) only [go_sem, ↓reduceIte])
                first | exact leS_refl _ | (refine leS_le ?_ ?_ <;> first | exact leL_refl _ | exact leOs_refl _ | (simp only [List.append_assoc, List.cons_append, List.nil_append]; exact leOs_refl _) | (repeat (first | exact leL_refl _ | refine leL_cons (by first | exact leT_refl _ | exact leT_virt | exact leT_junk _ | exact leT_sl | exact leT_sln | exact leT_nil | (refine leT_agg (by repeat (first | exact leL_refl _ | refine leL_cons (by first | exact leT_refl _ | exact leT_sl | exact leT_sln | exact leT_nil) ?_)))) ?_)))
          · refine runX_condF rfl c4 ?_
            refine runX_exit ?_
            refine endX_seqE ?_
            refine endX_q (roundQ_exit ?_)
            refine endX_blkE ?_
            refine endX_seq ?_
            refine runX_seq ?_
            refine runX_regionC fun C hC => ?_
            try simp -implicitDefEqProofs (maxSteps := 4000000) (disch := first | omega | decide | (simp only [go_sem]; omega)) only [go_sem, ↓reduceIte]
            repeat (with_reducible refine And.intro (by first | assumption | omega | (simp; done) | (simp; omega)) ?_)
            refine toEnd hC ?_
            refine endX_seq ?_
            refine runX_ret ?_
            refine endX_q ?_
            obtain rfl := Option.some.inj h
            show RetW _ _ _ _ _
            simp only [RetW]
            (try simp -implicitDefEqProofs (maxSteps := 4000000) (disch := first | omega | decide | (simp only [go_sem]; omega)) only [go_sem, ↓reduceIte])
            (try simp (disch := omega) only [if_pos, Nat.sub_zero])
            first | exact leT_refl _ | (refine ⟨rfl, ?_⟩; first | exact leT_refl _ | exact leT_sl | exact leT_sln | exact leT_nil | (refine leT_tup (by repeat (first | exact leL_refl _ | refine leL_cons (by first | exact leT_refl _ | exact leT_virt | exact leT_junk _ | exact leT_sl | exact leT_sln | exact leT_nil | (refine leT_agg (by repeat (first | exact leL_refl _ | refine leL_cons (by first | exact leT_refl _ | exact leT_sl | exact leT_sln | exact leT_nil) ?_)))) ?_))) | (refine leT_agg (by repeat (first | exact leL_refl _ | refine leL_cons (by first | exact leT_refl _ | exact leT_virt | exact leT_junk _ | exact leT_sl | exact leT_sln | exact leT_nil | (refine leT_agg (by repeat (first | exact leL_refl _ | refine leL_cons (by first | exact leT_refl _ | exact leT_sl | exact leT_sln | exact leT_nil) ?_)))) ?_)))) | (first | exact leT_refl _ | exact leT_sl | exact leT_sln | exact leT_nil | (refine leT_tup (by repeat (first | exact leL_refl _ | refine leL_cons (by first | exact leT_refl _ | exact leT_virt | exact leT_junk _ | exact leT_sl | exact leT_sln | exact leT_nil | (refine leT_agg (by repeat (first | exact leL_refl _ | refine leL_cons (by first | exact leT_refl _ | exact leT_sl | exact leT_sln | exact leT_nil) ?_)))) ?_))) | (refine leT_agg (by repeat (first | exact leL_refl _ | refine leL_cons (by first | exact leT_refl _ | exact leT_virt | exact leT_junk _ | exact leT_sl | exact leT_sln | exact leT_nil | (refine leT_agg (by repeat (first | exact leL_refl _ | refine leL_cons (by first | exact leT_refl _ | exact leT_sl | exact leT_sln | exact leT_nil) ?_)))) ?_)))) | (simp only [List.append_assoc, List.cons_append, List.nil_append]; exact leT_refl _) | (rw [List.take_of_length_le (by simp)]; (try simp only [List.append_assoc, List.cons_append, List.nil_append]); exact leT_refl _)
end Go.Proofs.YtaiapalhdejngaaX

set_option linter.unusedVariables false
set_option linter.unusedSimpArgs false
namespace Go.Proofs.YtaiapalhdejngaaX
open Go Go.RowKit Go.Proofs
set_option maxRecDepth 100000
attribute [local go_sem ↓] stepsK_build stepsK_build0 stepsK_bs stepsK_bs0 appendS
attribute [local go_sem] String.reduceEq String.reduceNe reduceCtorEq Int.reduceEq Nat.reduceAdd Nat.reduceSub Nat.reduceMul Nat.reduceLT Nat.reduceLeDiff Nat.reduceEqDiff Nat.reduceBEq Int.reduceToNat Int.reduceLT Int.reduceLE Int.reduceGT Int.reduceGE Int.reduceAdd Int.reduceSub Int.reduceMul Int.reduceNeg Int.reduceBEq Int.reduceBNe Int.reducePow Int.reduceDiv Int.reduceMod Int.reduceTDiv Int.reduceTMod Int.reduceNatCast
/-! ### etag.Sum -/
def F37 (n : Nat) (a0 : List UInt8) : Option ((List (Int)) × (Bool)) := (F75 n a0).bind fun v1 => iteB (!v1.2) (some ([], false)) (iteB ((v1.1.length : Int) != (16 : Int)) (some ([], false)) (some (v1.1, true)))
set_option maxHeartbeats 4000000 in
theorem F37_ok : ∀ (n : Nat) (a0 : List UInt8) (r : (List (Int)) × (Bool)), F37 n a0 = some r → FnC Try.prog 37 [.imm (.string (bs a0))] (.tup [.sl 1 false (List.map byteT r.1), .imm (.bool r.2)])
  | n, a0, r, h => by
    unfold F37 at h
    refine FnC.goX mixed Try.func37 (by kernel_rfl) rfl ?_
    simp only [Try.ntmps37, List.length_cons, List.length_nil, List.replicate, List.cons_append, List.nil_append, Nat.reduceAdd, Nat.reduceSub]
    refine runX_seq ?_
    refine runX_regionC fun C hC => ?_
    try simp -implicitDefEqProofs (maxSteps := 4000000) (disch := first | omega | decide | (simp only [go_sem]; omega)) only [go_sem, ↓reduceIte]
    repeat (with_reducible refine And.intro (by first | assumption | omega | (simp; done) | (simp; omega)) ?_)
    refine toEnd hC ?_
    refine endX_seq ?_
    refine runX_seq ?_
    refine runX_regionC fun C hC => ?_
    obtain ⟨v1, h1, h⟩ := bnd_some h
    try simp -implicitDefEqProofs (maxSteps := 4000000) (disch := first | omega | decide | (simp only [go_sem]; omega)) only [go_sem, ↓reduceIte]
    repeat (with_reducible refine And.intro (by first | assumption | omega | (simp; done) | (simp; omega)) ?_)
    refine callG_X (by first | rfl | (simp only [go_sem]; done) | (simp only [closedL, closedT, Bool.and_true]; exact closedL_map _ (fun _ => by first | rfl | (simp only [go_sem]; done)) _)) (F75_ok n a0 _ h1) (by repeat (first | exact leL_refl _ | refine leL_cons (by first | exact leT_refl _ | exact leT_virt | exact leT_junk _ | exact leT_sl | exact leT_sln | exact leT_nil | (refine leT_agg (by repeat (first | exact leL_refl _ | refine leL_cons (by first | exact leT_refl _ | exact leT_sl | exact leT_sln | exact leT_nil) ?_)))) ?_)) ?_
    try simp -implicitDefEqProofs (maxSteps := 4000000) (disch := first | omega | decide | (simp only [go_sem]; omega)) only [go_sem, ↓reduceIte]
    repeat (with_reducible refine And.intro (by first | assumption | omega | (simp; done) | (simp; omega)) ?_)
    refine toEnd hC ?_
    refine endX_seq ?_
    refine runX_seq ?_
    refine runX_seq ?_
    refine runX_regionC fun C hC => ?_
    try simp -implicitDefEqProofs (maxSteps := 4000000) (disch := first | omega | decide | (simp only [go_sem]; omega)) only [go_sem, ↓reduceIte]
    repeat (with_reducible refine And.intro (by first | assumption | omega | (simp; done) | (simp; omega)) ?_)
    rcases iteB_some h with ⟨c2, h⟩ | ⟨c2, h⟩
    · refine guardK_F c2 ?_
      try simp -implicitDefEqProofs (maxSteps := 4000000) (disch := first | omega | decide | (simp only [go_sem]; omega)) only [go_sem, ↓reduceIte]
      repeat (with_reducible refine And.intro (by first | assumption | omega | (simp; done) | (simp; omega)) ?_)
      refine toEnd hC ?_
      refine endX_seq ?_
      refine runX_condT rfl rfl ?_
      refine runX_seq ?_
      refine runX_regionC fun C hC => ?_
      try simp -implicitDefEqProofs (maxSteps := 4000000) (disch := first | omega | decide | (simp only [go_sem]; omega)) only [go_sem, ↓reduceIte]
      repeat (with_reducible refine And.intro (by first | assumption | omega | (simp; done) | (simp; omega)) ?_)
      refine toEnd hC ?_
      refine endX_seq ?_
      refine runX_ret ?_
      refine endX_seqR ?_
      refine endX_q ?_
      obtain rfl := Option.some.inj h
      show RetW _ _ _ _ _
      simp only [RetW]
      (try simp -implicitDefEqProofs (maxSteps := 4000000) (disch := first | omega | decide | (simp only [go_sem]; omega)) only [go_sem, ↓reduceIte])
      (try simp (disch := omega) only [if_pos, Nat.sub_zero])
      first | exact leT_refl _ | (refine ⟨rfl, ?_⟩; first | exact leT_refl _ | exact leT_sl | exact leT_sln | exact leT_nil | (refine leT_tup (by repeat (first | exact leL_refl _ | refine leL_cons (by first | exact leT_refl _ | exact leT_virt | exact leT_junk _ | exact leT_sl | exact leT_sln | exact leT_nil | (refine leT_agg (by repeat (first | exact leL_refl _ | refine leL_cons (by first | exact leT_refl _ | exact leT_sl | exact leT_sln | exact leT_nil) ?_)))) ?_))) | (refine leT_agg (by repeat (first | exact leL_refl _ | refine leL_cons (by first | exact leT_refl _ | exact leT_virt | exact leT_junk _ | exact leT_sl | exact leT_sln | exact leT_nil | (refine leT_agg (by repeat (first | exact leL_refl _ | refine leL_cons (by first | exact leT_refl _ | exact leT_sl | exact leT_sln | exact leT_nil) ?_)))) ?_)))) | (first | exact leT_refl _ | exact leT_sl | exact leT_sln | exact leT_nil | (refine leT_tup (by repeat (first | exact leL_refl _ | refine leL_cons (by first | exact leT_refl _ | exact leT_virt | exact leT_junk _ | exact leT_sl | exact leT_sln | exact leT_nil | (refine leT_agg (by repeat (first | exact leL_refl _ | refine leL_cons (by first | exact leT_refl _ | exact leT_sl | exact leT_sln | exact leT_nil) ?_)))) ?_))) | (refine leT_agg (by repeat (first | exact leL_refl _ | refine leL_cons (by first | exact leT_refl _ | exact leT_virt | exact leT_junk _ | exact leT_sl | exact leT_sln | exact leT_nil | (refine leT_agg (by repeat (first | exact leL_refl _ | refine leL_cons (by first | exact leT_refl _ | exact leT_sl | exact leT_sln | exact leT_nil) ?_)))) ?_)))) | (simp only [List.append_assoc, List.cons_append, List.nil_append]; exact leT_refl _) | (rw [List.take_of_length_le (by simp)]; (try simp only [List.append_assoc, List.cons_append, List.nil_append]); exact leT_refl _)
    · refine guardK_T c2 ?_
      try simp -implicitDefEqProofs (maxSteps := 4000000) (disch := first | omega | decide | (simp only [go_sem]; omega)) only [go_sem, ↓reduceIte]
      repeat (with_reducible refine And.intro (by first | assumption | omega | (simp; done) | (simp; omega)) ?_)
      refine toEnd hC ?_
      refine endX_seq ?_
      rcases iteB_some h with ⟨c3, h⟩ | ⟨c3, h⟩
      · refine runX_condT rfl c3 ?_
        refine runX_seq ?_
        refine runX_regionC fun C hC => ?_
        try simp -implicitDefEqProofs (maxSteps := 4000000) (disch := first | omega | decide | (simp only [go_sem]; omega)) only [go_sem, ↓reduceIte]
        repeat (with_reducible refine And.intro (by first | assumption | omega | (simp; done) | (simp; omega)) ?_)
        refine toEnd hC ?_
        refine endX_seq ?_
        refine runX_ret ?_
        refine endX_seqR ?_
        refine endX_q ?_
        obtain rfl := Option.some.inj h
        show RetW _ _ _ _ _
        simp only [RetW]
        (try simp -implicitDefEqProofs (maxSteps := 4000000) (disch := first | omega | decide | (simp only [go_sem]; omega)) only [go_sem, ↓reduceIte])
        (try simp (disch := omega) only [if_pos, Nat.sub_zero])
        first | exact leT_refl _ | (refine ⟨rfl, ?_⟩; first | exact leT_refl _ | exact leT_sl | exact leT_sln | exact leT_nil | (refine leT_tup (by repeat (first | exact leL_refl _ | refine leL_cons (by first | exact leT_refl _ | exact leT_virt | exact leT_junk _ | exact leT_sl | exact leT_sln | exact leT_nil | (refine leT_agg (by repeat (first | exact leL_refl _ | refine leL_cons (by first | exact leT_refl _ | exact leT_sl | exact leT_sln | exact leT_nil) ?_)))) ?_))) | (refine leT_agg (by repeat (first | exact leL_refl _ | refine leL_cons (by first | exact leT_refl _ | exact leT_virt | exact leT_junk _ | exact leT_sl | exact leT_sln | exact leT_nil | (refine leT_agg (by repeat (first | exact leL_refl _ | refine leL_cons (by first | exact leT_refl _ | exact leT_sl | exact leT_sln | exact leT_nil) ?_)))) ?_)))) | (first | exact leT_refl _ | exact leT_sl | exact leT_sln | exact leT_nil | (refine leT_tup (by repeat (first | exact leL_refl _ | refine leL_cons (by first | exact leT_refl _ | exact leT_virt | exact leT_junk _ | exact leT_sl | exact leT_sln | exact leT_nil | (refine leT_agg (by repeat (first | exact leL_refl _ | refine leL_cons (by first | exact leT_refl _ | exact leT_sl | exact leT_sln | exact leT_nil) ?_)))) ?_))) | (refine leT_agg (by repeat (first | exact leL_refl _ | refine leL_cons (by first | exact leT_refl _ | exact leT_virt | exact leT_junk _ | exact leT_sl | exact leT_sln | exact leT_nil | (refine leT_agg (by repeat (first | exact leL_refl _ | refine leL_cons (by first | exact leT_refl _ | exact leT_sl | exact leT_sln | exact leT_nil) ?_)))) ?_)))) | (simp only [List.append_assoc, List.cons_append, List.nil_append]; exact leT_refl _) | (rw [List.take_of_length_le (by simp)]; (try simp only [List.append_assoc, List.cons_append, List.nil_append]); exact leT_refl _)
      · refine runX_condF rfl c3 ?_
        refine runX_skip ?_
        refine endX_seq ?_
        refine runX_seq ?_
        refine runX_regionC fun C hC => ?_
        try simp -implicitDefEqProofs (maxSteps := 4000000) (disch := first | omega | decide | (simp only [go_sem]; omega)) only [go_sem, ↓reduceIte]
        repeat (with_reducible refine And.intro (by first | assumption | omega | (simp; done) | (simp; omega)) ?_)
        refine toEnd hC ?_
        refine endX_seq ?_
        refine runX_ret ?_
        refine endX_q ?_
        obtain rfl := Option.some.inj h
        show RetW _ _ _ _ _
        simp only [RetW]
        (try simp -implicitDefEqProofs (maxSteps := 4000000) (disch := first | omega | decide | (simp only [go_sem]; omega)) only [go_sem, ↓reduceIte])
        (try simp (disch := omega) only [if_pos, Nat.sub_zero])
        first | exact leT_refl _ | (refine ⟨rfl, ?_⟩; first | exact leT_refl _ | exact leT_sl | exact leT_sln | exact leT_nil | (refine leT_tup (by repeat (first | exact leL_refl _ | refine leL_cons (by first | exact leT_refl _ | exact leT_virt | exact leT_junk _ | exact leT_sl | exact leT_sln | exact leT_nil | (refine leT_agg (by repeat (first | exact leL_refl _ | refine leL_cons (by first | exact leT_refl _ | exact leT_sl | exact leT_sln | exact leT_nil) ?_)))) ?_))) | (refine leT_agg (by repeat (first | exact leL_refl _ | refine leL_cons (by first | exact leT_refl _ | exact leT_virt | exact leT_junk _ | exact leT_sl | exact leT_sln | exact leT_nil | (refine leT_agg (by repeat (first | exact leL_refl _ | refine leL_cons (by first | exact leT_refl _ | exact leT_sl | exact leT_sln | exact leT_nil) ?_)))) ?_)))) | (first | exact leT_refl _ | exact leT_sl | exact leT_sln | exact leT_nil | (refine leT_tup (by repeat (first | exact leL_refl _ | refine leL_cons (by first | exact leT_refl _ | exact leT_virt | exact leT_junk _ | exact leT_sl | exact leT_sln | exact leT_nil | (refine leT_agg (by repeat (first | exact leL_refl _ | refine leL_cons (by first | exact leT_refl _ | exact leT_sl | exact leT_sln | exact leT_nil) ?_)))) ?_))) | (refine leT_agg (by repeat (first | exact leL_refl _ | refine leL_cons (by first | exact leT_refl _ | exact leT_virt | exact leT_junk _ | exact leT_sl | exact leT_sln | exact leT_nil | (refine leT_agg (by repeat (first | exact leL_refl _ | refine leL_cons (by first | exact leT_refl _ | exact leT_sl | exact leT_sln | exact leT_nil) ?_)))) ?_)))) | (simp only [List.append_assoc, List.cons_append, List.nil_append]; exact leT_refl _) | (rw [List.take_of_length_le (by simp)]; (try simp only [List.append_assoc, List.cons_append, List.nil_append]); exact leT_refl _)
end Go.Proofs.YtaiapalhdejngaaX

set_option linter.unusedVariables false
set_option linter.unusedSimpArgs false
namespace Go.Proofs.YtaiapalhdejngaaX
open Go Go.RowKit Go.Proofs
set_option maxRecDepth 100000
attribute [local go_sem ↓] stepsK_build stepsK_build0 stepsK_bs stepsK_bs0 appendS
attribute [local go_sem] String.reduceEq String.reduceNe reduceCtorEq Int.reduceEq Nat.reduceAdd Nat.reduceSub Nat.reduceMul Nat.reduceLT Nat.reduceLeDiff Nat.reduceEqDiff Nat.reduceBEq Int.reduceToNat Int.reduceLT Int.reduceLE Int.reduceGT Int.reduceGE Int.reduceAdd Int.reduceSub Int.reduceMul Int.reduceNeg Int.reduceBEq Int.reduceBNe Int.reducePow Int.reduceDiv Int.reduceMod Int.reduceTDiv Int.reduceTMod Int.reduceNatCast
/-! ### etag.Parts$1 -/
def F53 (n : Nat) (a0 : List UInt8) (a1 : List (Int)) : Option ((Bool) × (List (Int))) := (F37 n a0).bind fun v1 => grd ((a1.length + v1.1.length) ≤ 549755813888) (some (v1.2, (a1 ++ v1.1)))
set_option maxHeartbeats 4000000 in
theorem F53_ok : ∀ (n : Nat) (a0 : List UInt8) (a1 : List (Int)) (r : (Bool) × (List (Int))), F53 n a0 a1 = some r → FnR Try.prog 53 [some (.box 4294967348 (.rsl 1 1 0 a1.length) false), some (.buf 5 1 (List.map byteT a1) 0)] [.imm (.string (bs a0)), .ref 0 0 0 0] (.imm (.bool r.1)) [some (.box 4294967348 (.rsl 1 1 0 r.2.length) false), some (.buf 5 1 (List.map byteT r.2) 0)]
  | n, a0, a1, r, h => by
    unfold F53 at h
    refine FnR.goX mixed [3] Try.func53 (by kernel_rfl) rfl (by simp [rowsOk, refsC, refsCL, adT_refsC, tagM]) (by simp [sameO]) (by simp [refsC, refsCL]) ?_
    simp only [Try.ntmps53, List.length_cons, List.length_nil, List.replicate, List.cons_append, List.nil_append, Nat.reduceAdd, Nat.reduceSub]
    refine runX_seq ?_
    refine runX_regionC fun C hC => ?_
    try simp -implicitDefEqProofs (maxSteps := 4000000) (disch := first | omega | decide | (simp only [go_sem]; omega)) only [go_sem, ↓reduceIte]
    repeat (with_reducible refine And.intro (by first | assumption | omega | (simp; done) | (simp; omega)) ?_)
    refine toEnd hC ?_
    refine endX_seq ?_
    refine runX_seq ?_
    refine runX_regionC fun C hC => ?_
    obtain ⟨v1, h1, h⟩ := bnd_some h
    try simp -implicitDefEqProofs (maxSteps := 4000000) (disch := first | omega | decide | (simp only [go_sem]; omega)) only [go_sem, ↓reduceIte]
    repeat (with_reducible refine And.intro (by first | assumption | omega | (simp; done) | (simp; omega)) ?_)
    refine callG_X (by first | rfl | (simp only [go_sem]; done) | (simp only [closedL, closedT, Bool.and_true]; exact closedL_map _ (fun _ => by first | rfl | (simp only [go_sem]; done)) _)) (F37_ok n a0 _ h1) (by repeat (first | exact leL_refl _ | refine leL_cons (by first | exact leT_refl _ | exact leT_virt | exact leT_junk _ | exact leT_sl | exact leT_sln | exact leT_nil | (refine leT_agg (by repeat (first | exact leL_refl _ | refine leL_cons (by first | exact leT_refl _ | exact leT_sl | exact leT_sln | exact leT_nil) ?_)))) ?_)) ?_
    try simp -implicitDefEqProofs (maxSteps := 4000000) (disch := first | omega | decide | (simp only [go_sem]; omega)) only [go_sem, ↓reduceIte]
    repeat (with_reducible refine And.intro (by first | assumption | omega | (simp; done) | (simp; omega)) ?_)
    refine toEnd hC ?_
    refine endX_seq ?_
    refine runX_seq ?_
    refine runX_regionC fun C hC => ?_
    obtain ⟨g2, h⟩ := grd_some h
    try simp -implicitDefEqProofs (maxSteps := 4000000) (disch := first | omega | decide | (simp only [go_sem]; omega)) only [go_sem, ↓reduceIte]
    repeat (with_reducible refine And.intro (by first | assumption | omega | (simp; done) | (simp; omega)) ?_)
    refine toEnd hC ?_
    refine endX_seq ?_
    refine runX_seq ?_
    refine runX_regionC fun C hC => ?_
    try simp -implicitDefEqProofs (maxSteps := 4000000) (disch := first | omega | decide | (simp only [go_sem]; omega)) only [go_sem, ↓reduceIte]
    repeat (with_reducible refine And.intro (by first | assumption | omega | (simp; done) | (simp; omega)) ?_)
    refine toEnd hC ?_
    refine endX_seq ?_
    refine runX_ret ?_
    refine endX_q ?_
    obtain rfl := Option.some.inj h
    show RetR _ _ _ _ _ _ _ _
    simp only [RetR]
    (try simp -implicitDefEqProofs (maxSteps := 4000000) (disch := first | omega | decide | (simp only [go_sem]; omega)) only [go_sem, ↓reduceIte])
    exact ⟨leOs_refl _, leT_refl _⟩
end Go.Proofs.YtaiapalhdejngaaX

set_option linter.unusedVariables false
set_option linter.unusedSimpArgs false
namespace Go.Proofs.YtaiapalhdejngaaX
open Go Go.RowKit Go.Proofs
set_option maxRecDepth 100000
attribute [local go_sem ↓] stepsK_build stepsK_build0 stepsK_bs stepsK_bs0 appendS
attribute [local go_sem] String.reduceEq String.reduceNe reduceCtorEq Int.reduceEq Nat.reduceAdd Nat.reduceSub Nat.reduceMul Nat.reduceLT Nat.reduceLeDiff Nat.reduceEqDiff Nat.reduceBEq Int.reduceToNat Int.reduceLT Int.reduceLE Int.reduceGT Int.reduceGE Int.reduceAdd Int.reduceSub Int.reduceMul Int.reduceNeg Int.reduceBEq Int.reduceBNe Int.reducePow Int.reduceDiv Int.reduceMod Int.reduceTDiv Int.reduceTMod Int.reduceNatCast
/-! ### md5.Begin -/
def F81 (n : Nat)  : Option ((List (Int)) × (Int)) := some ([(1732584193 : Int), (4023233417 : Int), (2562383102 : Int), (271733878 : Int)], (0 : Int))
set_option maxHeartbeats 4000000 in
theorem F81_ok : ∀ (n : Nat) (r : (List (Int)) × (Int)), F81 n = some r → FnC Try.prog 81 [] (.agg [.imm (.int .u32 (r.1.getD 0 default)), .imm (.int .u32 (r.1.getD 1 default)), .imm (.int .u32 (r.1.getD 2 default)), .imm (.int .u32 (r.1.getD 3 default)), .imm (.int .u64 r.2)])
  | n, r, h => by
    unfold F81 at h
    refine FnC.goX mixed Try.func81 (by kernel_rfl) rfl ?_
    simp only [Try.ntmps81, List.length_cons, List.length_nil, List.replicate, List.cons_append, List.nil_append, Nat.reduceAdd, Nat.reduceSub]
    refine runX_seq ?_
    refine runX_regionC fun C hC => ?_
    try simp -implicitDefEqProofs (maxSteps := 4000000) (disch := first | omega | decide | (simp only [go_sem]; omega)) only [go_sem, ↓reduceIte]
    repeat (with_reducible refine And.intro (by first | assumption | omega | (simp; done) | (simp; omega)) ?_)
    refine toEnd hC ?_
    refine endX_seq ?_
    refine runX_seq ?_
    refine runX_regionC fun C hC => ?_
    simp only [runK_region, runK_draw, liteL, liteL2, dstsL, gL, List.getD_cons_zero, List.getD_cons_succ]
    try simp -implicitDefEqProofs (maxSteps := 4000000) (disch := first | omega | decide | (simp only [go_sem]; omega)) only [go_sem, ↓reduceIte]
    repeat (with_reducible refine And.intro (by first | assumption | omega | (simp; done) | (simp; omega)) ?_)
    refine bldG_of [.imm (.int .u32 (1732584193 : Int)), .imm (.int .u32 (4023233417 : Int)), .imm (.int .u32 (2562383102 : Int)), .imm (.int .u32 (271733878 : Int))] (by kernel_rfl) ?_
    try simp -implicitDefEqProofs (maxSteps := 4000000) (disch := first | omega | decide | (simp only [go_sem]; omega)) only [go_sem, ↓reduceIte]
    repeat (with_reducible refine And.intro (by first | assumption | omega | (simp; done) | (simp; omega)) ?_)
    refine bldG_of [.imm (.int .u32 (1732584193 : Int)), .imm (.int .u32 (4023233417 : Int)), .imm (.int .u32 (2562383102 : Int)), .imm (.int .u32 (271733878 : Int)), .imm (.int .u64 (0 : Int))] (by kernel_rfl) ?_
    try simp -implicitDefEqProofs (maxSteps := 4000000) (disch := first | omega | decide | (simp only [go_sem]; omega)) only [go_sem, ↓reduceIte]
    repeat (with_reducible refine And.intro (by first | assumption | omega | (simp; done) | (simp; omega)) ?_)
    refine toEnd hC ?_
    refine endX_seq ?_
    refine runX_ret ?_
    refine endX_q ?_
    obtain rfl := Option.some.inj h
    show RetW _ _ _ _ _
    simp only [RetW]
    (try simp -implicitDefEqProofs (maxSteps := 4000000) (disch := first | omega | decide | (simp only [go_sem]; omega)) only [go_sem, ↓reduceIte])
    (try simp (disch := omega) only [if_pos, Nat.sub_zero])
    exact leT_refl _
end Go.Proofs.YtaiapalhdejngaaX

set_option linter.unusedVariables false
set_option linter.unusedSimpArgs false
namespace Go.Proofs.YtaiapalhdejngaaX
open Go Go.RowKit Go.Proofs
set_option maxRecDepth 100000
attribute [local go_sem ↓] stepsK_build stepsK_build0 stepsK_bs stepsK_bs0 appendS
attribute [local go_sem] String.reduceEq String.reduceNe reduceCtorEq Int.reduceEq Nat.reduceAdd Nat.reduceSub Nat.reduceMul Nat.reduceLT Nat.reduceLeDiff Nat.reduceEqDiff Nat.reduceBEq Int.reduceToNat Int.reduceLT Int.reduceLE Int.reduceGT Int.reduceGE Int.reduceAdd Int.reduceSub Int.reduceMul Int.reduceNeg Int.reduceBEq Int.reduceBNe Int.reducePow Int.reduceDiv Int.reduceMod Int.reduceTDiv Int.reduceTMod Int.reduceNatCast
/-! ### md5.spread -/
def F105_S1 (a0 : List (Int)) (x2 : Int) (x3 : List (Int)) : St := ⟨[.junk, .junk, .ref 1 0 0 0, .ref 2 0 0 0, .junk, .junk, .agg (List.map byteT (a0.take 64)), .imm (.int .i64 x2), .junk, .junk, .junk, .junk, .junk, .junk, .junk, .junk, .junk, .junk, .junk, .junk, .junk, .junk, .junk, .junk, .junk], [none, some (.box 137 (.agg [.imm (.int .u32 (0 : Int)), .imm (.int .u32 (0 : Int)), .imm (.int .u32 (0 : Int)), .imm (.int .u32 (0 : Int)), .imm (.int .u32 (0 : Int)), .imm (.int .u32 (0 : Int)), .imm (.int .u32 (0 : Int)), .imm (.int .u32 (0 : Int)), .imm (.int .u32 (0 : Int)), .imm (.int .u32 (0 : Int)), .imm (.int .u32 (0 : Int)), .imm (.int .u32 (0 : Int)), .imm (.int .u32 (0 : Int)), .imm (.int .u32 (0 : Int)), .imm (.int .u32 (0 : Int)), .imm (.int .u32 (0 : Int))]) false), some (.box 137 (.agg (List.map (eI .u32) x3)) false)]⟩
def F105_L1 : Nat → (List (Int)) → (Int) → (List (Int)) → Option (List (Int))
  | 0, _, _, _ => none
  | m1 + 1, a0, x2, x3 => iteB (decide (x2 < (64 : Int))) (grd (0 ≤ x2 ∧ x2 < (64 : Int) ∧ x2.toNat < (a0.take 64).length) (grd (0 ≤ (IntKind.wrap .i64 (x2.tdiv (4 : Int))) ∧ (IntKind.wrap .i64 (x2.tdiv (4 : Int))) < (16 : Int)) (grd ((IntKind.wrap .i64 (x2.tdiv (4 : Int))).toNat < x3.length) (grd (0 ≤ (IntKind.wrap .i64 ((8 : Int) * (x2.tmod (4 : Int))))) (grd (0 ≤ (IntKind.wrap .i64 (x2.tdiv (4 : Int))) ∧ (IntKind.wrap .i64 (x2.tdiv (4 : Int))) < (16 : Int)) (grd ((IntKind.wrap .i64 (x2.tdiv (4 : Int))).toNat < x3.length) (F105_L1 m1 a0 (IntKind.wrap .i64 (x2 + (1 : Int))) (List.set x3 ((IntKind.wrap .i64 (x2.tdiv (4 : Int))).toNat) (IntKind.wrap .u32 (bOr .u32 (x3.getD ((IntKind.wrap .i64 (x2.tdiv (4 : Int))).toNat) default) (IntKind.wrap .u32 (bShl .u32 (IntKind.wrap .u32 (((a0.take 64).getD x2.toNat default))) ((IntKind.wrap .i64 ((8 : Int) * (x2.tmod (4 : Int)))).toNat))))))))))))) (grd (16 ≤ x3.length) (grd ((x3.take 16).length = 16) (grd (16 ≤ (x3.take 16).length) (some ((x3.take 16).take 16)))))
def F105 (n : Nat) (a0 : List (Int)) : Option (List (Int)) := grd (64 ≤ a0.length) (F105_L1 n a0 (0 : Int) [(0 : Int), (0 : Int), (0 : Int), (0 : Int), (0 : Int), (0 : Int), (0 : Int), (0 : Int), (0 : Int), (0 : Int), (0 : Int), (0 : Int), (0 : Int), (0 : Int), (0 : Int), (0 : Int)])
set_option maxHeartbeats 4000000 in
theorem F105_ok : ∀ (n : Nat) (a0 : List (Int)) (r : List (Int)), F105 n a0 = some r → FnC Try.prog 105 [.agg (List.map byteT a0)] (.agg (List.map (eI .u32) r))
  | n, a0, r, h => by
    unfold F105 at h
    refine FnC.goX mixed Try.func105 (by kernel_rfl) rfl ?_
    simp only [Try.ntmps105, List.length_cons, List.length_nil, List.replicate, List.cons_append, List.nil_append, Nat.reduceAdd, Nat.reduceSub]
    refine runX_seq ?_
    refine runX_regionC fun C hC => ?_
    try simp -implicitDefEqProofs (maxSteps := 4000000) (disch := first | omega | decide | (simp only [go_sem]; omega)) only [go_sem, ↓reduceIte]
    repeat (with_reducible refine And.intro (by first | assumption | omega | (simp; done) | (simp; omega)) ?_)
    refine toEnd hC ?_
    refine endX_seq ?_
    refine runX_seq ?_
    refine runX_regionC fun C hC => ?_
    try simp -implicitDefEqProofs (maxSteps := 4000000) (disch := first | omega | decide | (simp only [go_sem]; omega)) only [go_sem, ↓reduceIte]
    repeat (with_reducible refine And.intro (by first | assumption | omega | (simp; done) | (simp; omega)) ?_)
    refine toEnd hC ?_
    refine endX_seq ?_
    refine runX_seq ?_
    refine runX_seq ?_
    refine runX_regionC fun C hC => ?_
    obtain ⟨g1, h⟩ := grd_some h
    try simp -implicitDefEqProofs (maxSteps := 4000000) (disch := first | omega | decide | (simp only [go_sem]; omega)) only [go_sem, ↓reduceIte]
    repeat (with_reducible refine And.intro (by first | assumption | omega | (simp; done) | (simp; omega)) ?_)
    refine toEnd hC ?_
    refine endX_seq ?_
    refine runX_block ?_
    refine runX_loop [2, 3, 6, 7] (fun m S => ∃ (x2 : Int) (x3 : List (Int)), S = F105_S1 a0 x2 x3 ∧ m ≤ n ∧ F105_L1 m a0 x2 x3 = some r) n ⟨F105_S1 a0 (0 : Int) [(0 : Int), (0 : Int), (0 : Int), (0 : Int), (0 : Int), (0 : Int), (0 : Int), (0 : Int), (0 : Int), (0 : Int), (0 : Int), (0 : Int), (0 : Int), (0 : Int), (0 : Int), (0 : Int)], ?_, (0 : Int), [(0 : Int), (0 : Int), (0 : Int), (0 : Int), (0 : Int), (0 : Int), (0 : Int), (0 : Int), (0 : Int), (0 : Int), (0 : Int), (0 : Int), (0 : Int), (0 : Int), (0 : Int), (0 : Int)], rfl, Nat.le_refl _, h⟩ ?_
    · simp only [F105_S1]
      (try simp -implicitDefEqProofs (maxSteps := 4000000) (disch := first | omega | decide | (simp only [go_sem]; omega)) only [go_sem, ↓reduceIte])
      first | exact leS_refl _ | (refine leS_le ?_ ?_ <;> first | exact leL_refl _ | exact leOs_refl _ | (simp only [List.append_assoc, List.cons_append, List.nil_append]; exact leOs_refl _) | (repeat (first | exact leL_refl _ | refine leL_cons (by first | exact leT_refl _ | exact leT_virt | exact leT_junk _ | exact leT_sl | exact leT_sln | exact leT_nil | (refine leT_agg (by repeat (first | exact leL_refl _ | refine leL_cons (by first | exact leT_refl _ | exact leT_sl | exact leT_sln | exact leT_nil) ?_)))) ?_)))
    · clear h
      rintro m1 S ⟨x2, x3, rfl, hm1, h⟩
      cases m1 with
      | zero => first | cases (show (none : Option _) = some _ from h) | (rw [F105_L1] at h; cases h)
      | succ m1 =>
        rw [F105_L1] at h
        simp only [F105_S1]
        refine runX_seq ?_
        refine runX_regionC fun C hC => ?_
        try simp -implicitDefEqProofs (maxSteps := 4000000) (disch := first | omega | decide | (simp only [go_sem]; omega)) only [go_sem, ↓reduceIte]
        repeat (with_reducible refine And.intro (by first | assumption | omega | (simp; done) | (simp; omega)) ?_)
        refine toEnd hC ?_
        refine endX_seq ?_
        refine runX_seq ?_
        rcases iteB_some h with ⟨c4, h⟩ | ⟨c4, h⟩
        · refine runX_condT rfl c4 ?_
          refine runX_skip ?_
          refine endX_seq ?_
          refine runX_seq ?_
          refine runX_block ?_
          refine runX_seq ?_
          refine runX_regionC fun C hC => ?_
          obtain ⟨g5, h⟩ := grd_some h
          try simp -implicitDefEqProofs (maxSteps := 4000000) (disch := first | omega | decide | (simp only [go_sem]; omega)) only [go_sem, ↓reduceIte]
          repeat (with_reducible refine And.intro (by first | assumption | omega | (simp; done) | (simp; omega)) ?_)
          refine toEnd hC ?_
          refine endX_seq ?_
          refine runX_drawC mixed (by kernel_rfl) fun C hC => ?_
          obtain ⟨g6, h⟩ := grd_some h
          obtain ⟨g7, h⟩ := grd_some h
          obtain ⟨g8, h⟩ := grd_some h
          obtain ⟨g9, h⟩ := grd_some h
          obtain ⟨g10, h⟩ := grd_some h
          have e11 : patchT (List.map (eI .u32) x3) ((IntKind.wrap .i64 (x2.tdiv (4 : Int))).toNat) ([.imm (.int .u32 (IntKind.wrap .u32 (bOr .u32 (x3.getD ((IntKind.wrap .i64 (x2.tdiv (4 : Int))).toNat) default) (IntKind.wrap .u32 (bShl .u32 (IntKind.wrap .u32 (((a0.take 64).getD x2.toNat default))) ((IntKind.wrap .i64 ((8 : Int) * (x2.tmod (4 : Int)))).toNat))))))] : List T) = List.map (eI .u32) (List.set x3 ((IntKind.wrap .i64 (x2.tdiv (4 : Int))).toNat) (IntKind.wrap .u32 (bOr .u32 (x3.getD ((IntKind.wrap .i64 (x2.tdiv (4 : Int))).toNat) default) (IntKind.wrap .u32 (bShl .u32 (IntKind.wrap .u32 (((a0.take 64).getD x2.toNat default))) ((IntKind.wrap .i64 ((8 : Int) * (x2.tmod (4 : Int)))).toNat)))))) := patch_map (eI .u32) (l := x3) (i := (IntKind.wrap .i64 (x2.tdiv (4 : Int))).toNat) (v := (IntKind.wrap .u32 (bOr .u32 (x3.getD ((IntKind.wrap .i64 (x2.tdiv (4 : Int))).toNat) default) (IntKind.wrap .u32 (bShl .u32 (IntKind.wrap .u32 (((a0.take 64).getD x2.toNat default))) ((IntKind.wrap .i64 ((8 : Int) * (x2.tmod (4 : Int)))).toNat)))))) (by first | omega | (simp only [List.length_cons, List.length_nil]; omega) | (simp only [List.length_append]; omega) | (simp only [List.length_append, List.length_drop, List.length_cons, List.length_nil] at *; omega))
          try simp -implicitDefEqProofs (maxSteps := 4000000) (disch := first | omega | decide | (simp only [go_sem]; omega)) only [go_sem, ↓reduceIte, e11]
          repeat (with_reducible refine And.intro (by first | assumption | omega | (simp; done) | (simp; omega)) ?_)
          refine toEnd hC ?_
          refine endX_blk ?_
          refine endX_seq ?_
          refine runX_regionC fun C hC => ?_
          try simp -implicitDefEqProofs (maxSteps := 4000000) (disch := first | omega | decide | (simp only [go_sem]; omega)) only [go_sem, ↓reduceIte]
          repeat (with_reducible refine And.intro (by first | assumption | omega | (simp; done) | (simp; omega)) ?_)
          refine toEnd hC ?_
          refine endX_q (roundQ_normal ⟨m1, by omega, F105_S1 a0 (IntKind.wrap .i64 (x2 + (1 : Int))) (List.set x3 ((IntKind.wrap .i64 (x2.tdiv (4 : Int))).toNat) (IntKind.wrap .u32 (bOr .u32 (x3.getD ((IntKind.wrap .i64 (x2.tdiv (4 : Int))).toNat) default) (IntKind.wrap .u32 (bShl .u32 (IntKind.wrap .u32 (((a0.take 64).getD x2.toNat default))) ((IntKind.wrap .i64 ((8 : Int) * (x2.tmod (4 : Int)))).toNat)))))), ?_, (IntKind.wrap .i64 (x2 + (1 : Int))), (List.set x3 ((IntKind.wrap .i64 (x2.tdiv (4 : Int))).toNat) (IntKind.wrap .u32 (bOr .u32 (x3.getD ((IntKind.wrap .i64 (x2.tdiv (4 : Int))).toNat) default) (IntKind.wrap .u32 (bShl .u32 (IntKind.wrap .u32 (((a0.take 64).getD x2.toNat default))) ((IntKind.wrap .i64 ((8 : Int) * (x2.tmod (4 : Int)))).toNat)))))), rfl, by omega, h⟩)
          simp only [F105_S1]
          (try simp -implicitDefEqProofs (maxSteps := 4000000) (disch := first | omega | decide | (simp only [go_sem]; omega)) only [go_sem, ↓reduceIte])
          first | exact leS_refl _ | (refine leS_le ?_ ?_ <;> first | exact leL_refl _ | exact leOs_refl _ | (simp only [List.append_assoc, List.cons_append, List.nil_append]; exact leOs_refl _) | (repeat (first | exact leL_refl _ | refine leL_cons (by first | exact leT_refl _ | exact leT_virt | exact leT_junk _ | exact leT_sl | exact leT_sln | exact leT_nil | (refine leT_agg (by repeat (first | exact leL_refl _ | refine leL_cons (by first | exact leT_refl _ | exact leT_sl | exact leT_sln | exact leT_nil) ?_)))) ?_)))
        · refine runX_condF rfl c4 ?_
          refine runX_exit ?_
          refine endX_seqE ?_
          refine endX_q (roundQ_exit ?_)
          refine endX_blkE ?_
          refine endX_seq ?_
          refine runX_seq ?_
          refine runX_regionC fun C hC => ?_
          obtain ⟨g12, h⟩ := grd_some h
          obtain ⟨g13, h⟩ := grd_some h
          have e14 : List.drop ((x3.take 16).length) ([.imm (.int .u32 (0 : Int)), .imm (.int .u32 (0 : Int)), .imm (.int .u32 (0 : Int)), .imm (.int .u32 (0 : Int)), .imm (.int .u32 (0 : Int)), .imm (.int .u32 (0 : Int)), .imm (.int .u32 (0 : Int)), .imm (.int .u32 (0 : Int)), .imm (.int .u32 (0 : Int)), .imm (.int .u32 (0 : Int)), .imm (.int .u32 (0 : Int)), .imm (.int .u32 (0 : Int)), .imm (.int .u32 (0 : Int)), .imm (.int .u32 (0 : Int)), .imm (.int .u32 (0 : Int)), .imm (.int .u32 (0 : Int))] : List T) = [] := drop_all (by first | (simp only [List.length_cons, List.length_nil]; omega) | (simp; omega))
          try simp -implicitDefEqProofs (maxSteps := 4000000) (disch := first | omega | decide | (simp only [go_sem]; omega)) only [go_sem, ↓reduceIte, e14]
          repeat (with_reducible refine And.intro (by first | assumption | omega | (simp; done) | (simp; omega)) ?_)
          refine toEnd hC ?_
          refine endX_seq ?_
          refine runX_ret ?_
          refine endX_q ?_
          obtain ⟨g15, h⟩ := grd_some h
          obtain rfl := Option.some.inj h
          show RetW _ _ _ _ _
          simp only [RetW]
          (try simp -implicitDefEqProofs (maxSteps := 4000000) (disch := first | omega | decide | (simp only [go_sem]; omega)) only [go_sem, ↓reduceIte])
          repeat (with_reducible refine And.intro (by first | assumption | omega | (simp; done) | (simp; omega)) ?_)
          (try simp (disch := omega) only [if_pos, Nat.sub_zero])
          exact leT_refl _
end Go.Proofs.YtaiapalhdejngaaX

set_option linter.unusedVariables false
set_option linter.unusedSimpArgs false
namespace Go.Proofs.YtaiapalhdejngaaX
open Go Go.RowKit Go.Proofs
set_option maxRecDepth 100000
attribute [local go_sem ↓] stepsK_build stepsK_build0 stepsK_bs stepsK_bs0 appendS
attribute [local go_sem] String.reduceEq String.reduceNe reduceCtorEq Int.reduceEq Nat.reduceAdd Nat.reduceSub Nat.reduceMul Nat.reduceLT Nat.reduceLeDiff Nat.reduceEqDiff Nat.reduceBEq Int.reduceToNat Int.reduceLT Int.reduceLE Int.reduceGT Int.reduceGE Int.reduceAdd Int.reduceSub Int.reduceMul Int.reduceNeg Int.reduceBEq Int.reduceBNe Int.reducePow Int.reduceDiv Int.reduceMod Int.reduceTDiv Int.reduceTMod Int.reduceNatCast
/-! ### md5.sines -/
def F106 (n : Nat)  : Option (List (Int)) := some ((3614090360 : Int) :: (3905402710 : Int) :: (606105819 : Int) :: (3250441966 : Int) :: (4118548399 : Int) :: (1200080426 : Int) :: (2821735955 : Int) :: (4249261313 : Int) :: (1770035416 : Int) :: (2336552879 : Int) :: (4294925233 : Int) :: (2304563134 : Int) :: (1804603682 : Int) :: (4254626195 : Int) :: (2792965006 : Int) :: (1236535329 : Int) :: (4129170786 : Int) :: (3225465664 : Int) :: (643717713 : Int) :: (3921069994 : Int) :: (3593408605 : Int) :: (38016083 : Int) :: (3634488961 : Int) :: (3889429448 : Int) :: (568446438 : Int) :: (3275163606 : Int) :: (4107603335 : Int) :: (1163531501 : Int) :: (2850285829 : Int) :: (4243563512 : Int) :: (1735328473 : Int) :: (2368359562 : Int) :: (4294588738 : Int) :: (2272392833 : Int) :: (1839030562 : Int) :: (4259657740 : Int) :: (2763975236 : Int) :: (1272893353 : Int) :: (4139469664 : Int) :: (3200236656 : Int) :: (681279174 : Int) :: (3936430074 : Int) :: (3572445317 : Int) :: (76029189 : Int) :: (3654602809 : Int) :: (3873151461 : Int) :: (530742520 : Int) :: (3299628645 : Int) :: (4096336452 : Int) :: (1126891415 : Int) :: (2878612391 : Int) :: (4237533241 : Int) :: (1700485571 : Int) :: (2399980690 : Int) :: (4293915773 : Int) :: (2240044497 : Int) :: (1873313359 : Int) :: (4264355552 : Int) :: (2734768916 : Int) :: (1309151649 : Int) :: (4149444226 : Int) :: (3174756917 : Int) :: (718787259 : Int) :: (3951481745 : Int) :: ([] : List Int))
set_option maxHeartbeats 4000000 in
theorem F106_ok : ∀ (n : Nat) (r : List (Int)), F106 n = some r → FnC Try.prog 106 [] (.agg (List.map (eI .u32) r))
  | n, r, h => by
    unfold F106 at h
    refine FnC.goX mixed Try.func106 (by kernel_rfl) rfl ?_
    simp only [Try.ntmps106, List.length_cons, List.length_nil, List.replicate, List.cons_append, List.nil_append, Nat.reduceAdd, Nat.reduceSub]
    refine runX_seq ?_
    refine runX_regionC fun C hC => ?_
    try simp -implicitDefEqProofs (maxSteps := 4000000) (disch := first | omega | decide | (simp only [go_sem]; omega)) only [go_sem, ↓reduceIte]
    repeat (with_reducible refine And.intro (by first | assumption | omega | (simp; done) | (simp; omega)) ?_)
    refine toEnd hC ?_
    refine endX_seq ?_
    refine runX_seq ?_
    refine runX_regionC fun C hC => ?_
    simp only [runK_region, runK_draw, liteL, liteL2, dstsL, gL, List.getD_cons_zero, List.getD_cons_succ]
    try simp -implicitDefEqProofs (maxSteps := 4000000) (disch := first | omega | decide | (simp only [go_sem]; omega)) only [go_sem, ↓reduceIte]
    repeat (with_reducible refine And.intro (by first | assumption | omega | (simp; done) | (simp; omega)) ?_)
    refine bldG_of [.imm (.int .u32 (3614090360 : Int)), .imm (.int .u32 (3905402710 : Int)), .imm (.int .u32 (606105819 : Int)), .imm (.int .u32 (3250441966 : Int)), .imm (.int .u32 (4118548399 : Int)), .imm (.int .u32 (1200080426 : Int)), .imm (.int .u32 (2821735955 : Int)), .imm (.int .u32 (4249261313 : Int)), .imm (.int .u32 (1770035416 : Int)), .imm (.int .u32 (2336552879 : Int)), .imm (.int .u32 (4294925233 : Int)), .imm (.int .u32 (2304563134 : Int)), .imm (.int .u32 (1804603682 : Int)), .imm (.int .u32 (4254626195 : Int)), .imm (.int .u32 (2792965006 : Int)), .imm (.int .u32 (1236535329 : Int)), .imm (.int .u32 (4129170786 : Int)), .imm (.int .u32 (3225465664 : Int)), .imm (.int .u32 (643717713 : Int)), .imm (.int .u32 (3921069994 : Int)), .imm (.int .u32 (3593408605 : Int)), .imm (.int .u32 (38016083 : Int)), .imm (.int .u32 (3634488961 : Int)), .imm (.int .u32 (3889429448 : Int)), .imm (.int .u32 (568446438 : Int)), .imm (.int .u32 (3275163606 : Int)), .imm (.int .u32 (4107603335 : Int)), .imm (.int .u32 (1163531501 : Int)), .imm (.int .u32 (2850285829 : Int)), .imm (.int .u32 (4243563512 : Int)), .imm (.int .u32 (1735328473 : Int)), .imm (.int .u32 (2368359562 : Int)), .imm (.int .u32 (4294588738 : Int)), .imm (.int .u32 (2272392833 : Int)), .imm (.int .u32 (1839030562 : Int)), .imm (.int .u32 (4259657740 : Int)), .imm (.int .u32 (2763975236 : Int)), .imm (.int .u32 (1272893353 : Int)), .imm (.int .u32 (4139469664 : Int)), .imm (.int .u32 (3200236656 : Int)), .imm (.int .u32 (681279174 : Int)), .imm (.int .u32 (3936430074 : Int)), .imm (.int .u32 (3572445317 : Int)), .imm (.int .u32 (76029189 : Int)), .imm (.int .u32 (3654602809 : Int)), .imm (.int .u32 (3873151461 : Int)), .imm (.int .u32 (530742520 : Int)), .imm (.int .u32 (3299628645 : Int)), .imm (.int .u32 (4096336452 : Int)), .imm (.int .u32 (1126891415 : Int)), .imm (.int .u32 (2878612391 : Int)), .imm (.int .u32 (4237533241 : Int)), .imm (.int .u32 (1700485571 : Int)), .imm (.int .u32 (2399980690 : Int)), .imm (.int .u32 (4293915773 : Int)), .imm (.int .u32 (2240044497 : Int)), .imm (.int .u32 (1873313359 : Int)), .imm (.int .u32 (4264355552 : Int)), .imm (.int .u32 (2734768916 : Int)), .imm (.int .u32 (1309151649 : Int)), .imm (.int .u32 (4149444226 : Int)), .imm (.int .u32 (3174756917 : Int)), .imm (.int .u32 (718787259 : Int)), .imm (.int .u32 (3951481745 : Int))] (by kernel_rfl) ?_
    try simp -implicitDefEqProofs (maxSteps := 4000000) (disch := first | omega | decide | (simp only [go_sem]; omega)) only [go_sem, ↓reduceIte]
    repeat (with_reducible refine And.intro (by first | assumption | omega | (simp; done) | (simp; omega)) ?_)
    refine toEnd hC ?_
    refine endX_seq ?_
    refine runX_ret ?_
    refine endX_q ?_
    obtain rfl := Option.some.inj h
    show RetW _ _ _ _ _
    simp only [RetW]
    (try simp -implicitDefEqProofs (maxSteps := 4000000) (disch := first | omega | decide | (simp only [go_sem]; omega)) only [go_sem, ↓reduceIte])
    (try simp (disch := omega) only [if_pos, Nat.sub_zero])
    exact leT_refl _
end Go.Proofs.YtaiapalhdejngaaX

set_option linter.unusedVariables false
set_option linter.unusedSimpArgs false
namespace Go.Proofs.YtaiapalhdejngaaX
open Go Go.RowKit Go.Proofs
set_option maxRecDepth 100000
attribute [local go_sem ↓] stepsK_build stepsK_build0 stepsK_bs stepsK_bs0 appendS
attribute [local go_sem] String.reduceEq String.reduceNe reduceCtorEq Int.reduceEq Nat.reduceAdd Nat.reduceSub Nat.reduceMul Nat.reduceLT Nat.reduceLeDiff Nat.reduceEqDiff Nat.reduceBEq Int.reduceToNat Int.reduceLT Int.reduceLE Int.reduceGT Int.reduceGE Int.reduceAdd Int.reduceSub Int.reduceMul Int.reduceNeg Int.reduceBEq Int.reduceBNe Int.reducePow Int.reduceDiv Int.reduceMod Int.reduceTDiv Int.reduceTMod Int.reduceNatCast
/-! ### md5.turns -/
def F107 (n : Nat)  : Option (List (Int)) := some [(7 : Int), (12 : Int), (17 : Int), (22 : Int), (5 : Int), (9 : Int), (14 : Int), (20 : Int), (4 : Int), (11 : Int), (16 : Int), (23 : Int), (6 : Int), (10 : Int), (15 : Int), (21 : Int)]
set_option maxHeartbeats 4000000 in
theorem F107_ok : ∀ (n : Nat) (r : List (Int)), F107 n = some r → FnC Try.prog 107 [] (.agg (List.map (eI .i64) r))
  | n, r, h => by
    unfold F107 at h
    refine FnC.goX mixed Try.func107 (by kernel_rfl) rfl ?_
    simp only [Try.ntmps107, List.length_cons, List.length_nil, List.replicate, List.cons_append, List.nil_append, Nat.reduceAdd, Nat.reduceSub]
    refine runX_seq ?_
    refine runX_regionC fun C hC => ?_
    try simp -implicitDefEqProofs (maxSteps := 4000000) (disch := first | omega | decide | (simp only [go_sem]; omega)) only [go_sem, ↓reduceIte]
    repeat (with_reducible refine And.intro (by first | assumption | omega | (simp; done) | (simp; omega)) ?_)
    refine toEnd hC ?_
    refine endX_seq ?_
    refine runX_seq ?_
    refine runX_regionC fun C hC => ?_
    simp only [runK_region, runK_draw, liteL, liteL2, dstsL, gL, List.getD_cons_zero, List.getD_cons_succ]
    try simp -implicitDefEqProofs (maxSteps := 4000000) (disch := first | omega | decide | (simp only [go_sem]; omega)) only [go_sem, ↓reduceIte]
    repeat (with_reducible refine And.intro (by first | assumption | omega | (simp; done) | (simp; omega)) ?_)
    refine bldG_of [.imm (.int .i64 (7 : Int)), .imm (.int .i64 (12 : Int)), .imm (.int .i64 (17 : Int)), .imm (.int .i64 (22 : Int))] (by kernel_rfl) ?_
    try simp -implicitDefEqProofs (maxSteps := 4000000) (disch := first | omega | decide | (simp only [go_sem]; omega)) only [go_sem, ↓reduceIte]
    repeat (with_reducible refine And.intro (by first | assumption | omega | (simp; done) | (simp; omega)) ?_)
    refine bldG_of [.imm (.int .i64 (5 : Int)), .imm (.int .i64 (9 : Int)), .imm (.int .i64 (14 : Int)), .imm (.int .i64 (20 : Int))] (by kernel_rfl) ?_
    try simp -implicitDefEqProofs (maxSteps := 4000000) (disch := first | omega | decide | (simp only [go_sem]; omega)) only [go_sem, ↓reduceIte]
    repeat (with_reducible refine And.intro (by first | assumption | omega | (simp; done) | (simp; omega)) ?_)
    refine bldG_of [.imm (.int .i64 (4 : Int)), .imm (.int .i64 (11 : Int)), .imm (.int .i64 (16 : Int)), .imm (.int .i64 (23 : Int))] (by kernel_rfl) ?_
    try simp -implicitDefEqProofs (maxSteps := 4000000) (disch := first | omega | decide | (simp only [go_sem]; omega)) only [go_sem, ↓reduceIte]
    repeat (with_reducible refine And.intro (by first | assumption | omega | (simp; done) | (simp; omega)) ?_)
    refine bldG_of [.imm (.int .i64 (6 : Int)), .imm (.int .i64 (10 : Int)), .imm (.int .i64 (15 : Int)), .imm (.int .i64 (21 : Int))] (by kernel_rfl) ?_
    try simp -implicitDefEqProofs (maxSteps := 4000000) (disch := first | omega | decide | (simp only [go_sem]; omega)) only [go_sem, ↓reduceIte]
    repeat (with_reducible refine And.intro (by first | assumption | omega | (simp; done) | (simp; omega)) ?_)
    refine bldG_of [.imm (.int .i64 (7 : Int)), .imm (.int .i64 (12 : Int)), .imm (.int .i64 (17 : Int)), .imm (.int .i64 (22 : Int)), .imm (.int .i64 (5 : Int)), .imm (.int .i64 (9 : Int)), .imm (.int .i64 (14 : Int)), .imm (.int .i64 (20 : Int)), .imm (.int .i64 (4 : Int)), .imm (.int .i64 (11 : Int)), .imm (.int .i64 (16 : Int)), .imm (.int .i64 (23 : Int)), .imm (.int .i64 (6 : Int)), .imm (.int .i64 (10 : Int)), .imm (.int .i64 (15 : Int)), .imm (.int .i64 (21 : Int))] (by kernel_rfl) ?_
    try simp -implicitDefEqProofs (maxSteps := 4000000) (disch := first | omega | decide | (simp only [go_sem]; omega)) only [go_sem, ↓reduceIte]
    repeat (with_reducible refine And.intro (by first | assumption | omega | (simp; done) | (simp; omega)) ?_)
    refine toEnd hC ?_
    refine endX_seq ?_
    refine runX_ret ?_
    refine endX_q ?_
    obtain rfl := Option.some.inj h
    show RetW _ _ _ _ _
    simp only [RetW]
    (try simp -implicitDefEqProofs (maxSteps := 4000000) (disch := first | omega | decide | (simp only [go_sem]; omega)) only [go_sem, ↓reduceIte])
    (try simp (disch := omega) only [if_pos, Nat.sub_zero])
    exact leT_refl _
end Go.Proofs.YtaiapalhdejngaaX

set_option linter.unusedVariables false
set_option linter.unusedSimpArgs false
namespace Go.Proofs.YtaiapalhdejngaaX
open Go Go.RowKit Go.Proofs
set_option maxRecDepth 100000
attribute [local go_sem ↓] stepsK_build stepsK_build0 stepsK_bs stepsK_bs0 appendS
attribute [local go_sem] String.reduceEq String.reduceNe reduceCtorEq Int.reduceEq Nat.reduceAdd Nat.reduceSub Nat.reduceMul Nat.reduceLT Nat.reduceLeDiff Nat.reduceEqDiff Nat.reduceBEq Int.reduceToNat Int.reduceLT Int.reduceLE Int.reduceGT Int.reduceGE Int.reduceAdd Int.reduceSub Int.reduceMul Int.reduceNeg Int.reduceBEq Int.reduceBNe Int.reducePow Int.reduceDiv Int.reduceMod Int.reduceTDiv Int.reduceTMod Int.reduceNatCast
/-! ### md5.mix -/
def F108 (n : Nat) (a0 : Int) (a1 : Int) (a2 : Int) (a3 : Int) : Option ((Int) × (Int)) := iteB ((IntKind.wrap .i64 (a0.tdiv (16 : Int))) == (0 : Int)) (some ((IntKind.wrap .u32 (bOr .u32 (IntKind.wrap .u32 (bAnd .u32 a1 a2)) (IntKind.wrap .u32 (bAnd .u32 (IntKind.wrap .u32 (bNot .u32 a1)) a3)))), a0)) (iteB ((IntKind.wrap .i64 (a0.tdiv (16 : Int))) == (1 : Int)) (some ((IntKind.wrap .u32 (bOr .u32 (IntKind.wrap .u32 (bAnd .u32 a3 a1)) (IntKind.wrap .u32 (bAnd .u32 (IntKind.wrap .u32 (bNot .u32 a3)) a2)))), (IntKind.wrap .i64 ((IntKind.wrap .i64 ((5 : Int) * a0)) + (1 : Int))))) (iteB ((IntKind.wrap .i64 (a0.tdiv (16 : Int))) == (2 : Int)) (some ((IntKind.wrap .u32 (bXor .u32 (IntKind.wrap .u32 (bXor .u32 a1 a2)) a3)), (IntKind.wrap .i64 ((IntKind.wrap .i64 ((3 : Int) * a0)) + (5 : Int))))) (some ((IntKind.wrap .u32 (bXor .u32 a2 (IntKind.wrap .u32 (bOr .u32 a1 (IntKind.wrap .u32 (bNot .u32 a3)))))), (IntKind.wrap .i64 ((7 : Int) * a0))))))
set_option maxHeartbeats 4000000 in
theorem F108_ok : ∀ (n : Nat) (a0 : Int) (a1 : Int) (a2 : Int) (a3 : Int) (r : (Int) × (Int)), F108 n a0 a1 a2 a3 = some r → FnC Try.prog 108 [.imm (.int .i64 a0), .imm (.int .u32 a1), .imm (.int .u32 a2), .imm (.int .u32 a3)] (.tup [.imm (.int .u32 r.1), .imm (.int .i64 r.2)])
  | n, a0, a1, a2, a3, r, h => by
    unfold F108 at h
    refine FnC.goX mixed Try.func108 (by kernel_rfl) rfl ?_
    simp only [Try.ntmps108, List.length_cons, List.length_nil, List.replicate, List.cons_append, List.nil_append, Nat.reduceAdd, Nat.reduceSub]
    refine runX_seq ?_
    refine runX_regionC fun C hC => ?_
    try simp -implicitDefEqProofs (maxSteps := 4000000) (disch := first | omega | decide | (simp only [go_sem]; omega)) only [go_sem, ↓reduceIte]
    repeat (with_reducible refine And.intro (by first | assumption | omega | (simp; done) | (simp; omega)) ?_)
    refine toEnd hC ?_
    refine endX_seq ?_
    refine runX_seq ?_
    refine runX_seq ?_
    refine runX_regionC fun C hC => ?_
    try simp -implicitDefEqProofs (maxSteps := 4000000) (disch := first | omega | decide | (simp only [go_sem]; omega)) only [go_sem, ↓reduceIte]
    repeat (with_reducible refine And.intro (by first | assumption | omega | (simp; done) | (simp; omega)) ?_)
    refine toEnd hC ?_
    refine endX_seq ?_
    refine runX_block ?_
    refine runX_seq ?_
    refine runX_regionC fun C hC => ?_
    try simp -implicitDefEqProofs (maxSteps := 4000000) (disch := first | omega | decide | (simp only [go_sem]; omega)) only [go_sem, ↓reduceIte]
    repeat (with_reducible refine And.intro (by first | assumption | omega | (simp; done) | (simp; omega)) ?_)
    refine toEnd hC ?_
    refine endX_seq ?_
    rcases iteB_some h with ⟨c1, h⟩ | ⟨c1, h⟩
    · refine runX_condT rfl c1 ?_
      refine runX_seq ?_
      refine runX_regionC fun C hC => ?_
      try simp -implicitDefEqProofs (maxSteps := 4000000) (disch := first | omega | decide | (simp only [go_sem]; omega)) only [go_sem, ↓reduceIte]
      repeat (with_reducible refine And.intro (by first | assumption | omega | (simp; done) | (simp; omega)) ?_)
      refine toEnd hC ?_
      refine endX_seq ?_
      refine runX_ret ?_
      refine endX_blkR ?_
      refine endX_seqR ?_
      refine endX_q ?_
      obtain rfl := Option.some.inj h
      show RetW _ _ _ _ _
      simp only [RetW]
      (try simp -implicitDefEqProofs (maxSteps := 4000000) (disch := first | omega | decide | (simp only [go_sem]; omega)) only [go_sem, ↓reduceIte])
      (try simp (disch := omega) only [if_pos, Nat.sub_zero])
      exact leT_refl _
    · refine runX_condF rfl c1 ?_
      refine runX_seq ?_
      refine runX_regionC fun C hC => ?_
      try simp -implicitDefEqProofs (maxSteps := 4000000) (disch := first | omega | decide | (simp only [go_sem]; omega)) only [go_sem, ↓reduceIte]
      repeat (with_reducible refine And.intro (by first | assumption | omega | (simp; done) | (simp; omega)) ?_)
      refine toEnd hC ?_
      refine endX_seq ?_
      rcases iteB_some h with ⟨c2, h⟩ | ⟨c2, h⟩
      · refine runX_condT rfl c2 ?_
        refine runX_seq ?_
        refine runX_regionC fun C hC => ?_
        try simp -implicitDefEqProofs (maxSteps := 4000000) (disch := first | omega | decide | (simp only [go_sem]; omega)) only [go_sem, ↓reduceIte]
        repeat (with_reducible refine And.intro (by first | assumption | omega | (simp; done) | (simp; omega)) ?_)
        refine toEnd hC ?_
        refine endX_seq ?_
        refine runX_ret ?_
        refine endX_blkR ?_
        refine endX_seqR ?_
        refine endX_q ?_
        obtain rfl := Option.some.inj h
        show RetW _ _ _ _ _
        simp only [RetW]
        (try simp -implicitDefEqProofs (maxSteps := 4000000) (disch := first | omega | decide | (simp only [go_sem]; omega)) only [go_sem, ↓reduceIte])
        (try simp (disch := omega) only [if_pos, Nat.sub_zero])
        exact leT_refl _
      · refine runX_condF rfl c2 ?_
        refine runX_seq ?_
        refine runX_regionC fun C hC => ?_
        try simp -implicitDefEqProofs (maxSteps := 4000000) (disch := first | omega | decide | (simp only [go_sem]; omega)) only [go_sem, ↓reduceIte]
        repeat (with_reducible refine And.intro (by first | assumption | omega | (simp; done) | (simp; omega)) ?_)
        refine toEnd hC ?_
        refine endX_seq ?_
        rcases iteB_some h with ⟨c3, h⟩ | ⟨c3, h⟩
        · refine runX_condT rfl c3 ?_
          refine runX_seq ?_
          refine runX_regionC fun C hC => ?_
          try simp -implicitDefEqProofs (maxSteps := 4000000) (disch := first | omega | decide | (simp only [go_sem]; omega)) only [go_sem, ↓reduceIte]
          repeat (with_reducible refine And.intro (by first | assumption | omega | (simp; done) | (simp; omega)) ?_)
          refine toEnd hC ?_
          refine endX_seq ?_
          refine runX_ret ?_
          refine endX_blkR ?_
          refine endX_seqR ?_
          refine endX_q ?_
          obtain rfl := Option.some.inj h
          show RetW _ _ _ _ _
          simp only [RetW]
          (try simp -implicitDefEqProofs (maxSteps := 4000000) (disch := first | omega | decide | (simp only [go_sem]; omega)) only [go_sem, ↓reduceIte])
          (try simp (disch := omega) only [if_pos, Nat.sub_zero])
          exact leT_refl _
        · refine runX_condF rfl c3 ?_
          refine runX_skip ?_
          refine endX_blk ?_
          refine endX_seq ?_
          refine runX_seq ?_
          refine runX_regionC fun C hC => ?_
          try simp -implicitDefEqProofs (maxSteps := 4000000) (disch := first | omega | decide | (simp only [go_sem]; omega)) only [go_sem, ↓reduceIte]
          repeat (with_reducible refine And.intro (by first | assumption | omega | (simp; done) | (simp; omega)) ?_)
          refine toEnd hC ?_
          refine endX_seq ?_
          refine runX_ret ?_
          refine endX_q ?_
          obtain rfl := Option.some.inj h
          show RetW _ _ _ _ _
          simp only [RetW]
          (try simp -implicitDefEqProofs (maxSteps := 4000000) (disch := first | omega | decide | (simp only [go_sem]; omega)) only [go_sem, ↓reduceIte])
          (try simp (disch := omega) only [if_pos, Nat.sub_zero])
          exact leT_refl _
end Go.Proofs.YtaiapalhdejngaaX

set_option linter.unusedVariables false
set_option linter.unusedSimpArgs false
namespace Go.Proofs.YtaiapalhdejngaaX
open Go Go.RowKit Go.Proofs
set_option maxRecDepth 100000
attribute [local go_sem ↓] stepsK_build stepsK_build0 stepsK_bs stepsK_bs0 appendS
attribute [local go_sem] String.reduceEq String.reduceNe reduceCtorEq Int.reduceEq Nat.reduceAdd Nat.reduceSub Nat.reduceMul Nat.reduceLT Nat.reduceLeDiff Nat.reduceEqDiff Nat.reduceBEq Int.reduceToNat Int.reduceLT Int.reduceLE Int.reduceGT Int.reduceGE Int.reduceAdd Int.reduceSub Int.reduceMul Int.reduceNeg Int.reduceBEq Int.reduceBNe Int.reducePow Int.reduceDiv Int.reduceMod Int.reduceTDiv Int.reduceTMod Int.reduceNatCast
/-! ### math/bits.RotateLeft32 -/
def F109 (n : Nat) (a0 : Int) (a1 : Int) : Option (Int) := grd (0 ≤ (IntKind.wrap .u64 (bAnd .u64 (IntKind.wrap .u64 (a1)) (31 : Int)))) (grd (0 ≤ (IntKind.wrap .u64 ((32 : Int) - (IntKind.wrap .u64 (bAnd .u64 (IntKind.wrap .u64 (a1)) (31 : Int)))))) (some (IntKind.wrap .u32 (bOr .u32 (IntKind.wrap .u32 (bShl .u32 a0 ((IntKind.wrap .u64 (bAnd .u64 (IntKind.wrap .u64 (a1)) (31 : Int))).toNat))) (bShr .u32 a0 ((IntKind.wrap .u64 ((32 : Int) - (IntKind.wrap .u64 (bAnd .u64 (IntKind.wrap .u64 (a1)) (31 : Int))))).toNat))))))
set_option maxHeartbeats 4000000 in
theorem F109_ok : ∀ (n : Nat) (a0 : Int) (a1 : Int) (r : Int), F109 n a0 a1 = some r → FnC Try.prog 109 [.imm (.int .u32 a0), .imm (.int .i64 a1)] (.imm (.int .u32 r))
  | n, a0, a1, r, h => by
    unfold F109 at h
    refine FnC.goX mixed Try.func109 (by kernel_rfl) rfl ?_
    simp only [Try.ntmps109, List.length_cons, List.length_nil, List.replicate, List.cons_append, List.nil_append, Nat.reduceAdd, Nat.reduceSub]
    refine runX_seq ?_
    refine runX_regionC fun C hC => ?_
    try simp -implicitDefEqProofs (maxSteps := 4000000) (disch := first | omega | decide | (simp only [go_sem]; omega)) only [go_sem, ↓reduceIte]
    repeat (with_reducible refine And.intro (by first | assumption | omega | (simp; done) | (simp; omega)) ?_)
    refine toEnd hC ?_
    refine endX_seq ?_
    refine runX_seq ?_
    refine runX_regionC fun C hC => ?_
    try simp -implicitDefEqProofs (maxSteps := 4000000) (disch := first | omega | decide | (simp only [go_sem]; omega)) only [go_sem, ↓reduceIte]
    repeat (with_reducible refine And.intro (by first | assumption | omega | (simp; done) | (simp; omega)) ?_)
    refine toEnd hC ?_
    refine endX_seq ?_
    refine runX_seq ?_
    refine runX_regionC fun C hC => ?_
    obtain ⟨g1, h⟩ := grd_some h
    obtain ⟨g2, h⟩ := grd_some h
    try simp -implicitDefEqProofs (maxSteps := 4000000) (disch := first | omega | decide | (simp only [go_sem]; omega)) only [go_sem, ↓reduceIte]
    repeat (with_reducible refine And.intro (by first | assumption | omega | (simp; done) | (simp; omega)) ?_)
    refine toEnd hC ?_
    refine endX_seq ?_
    refine runX_ret ?_
    refine endX_q ?_
    obtain rfl := Option.some.inj h
    show RetW _ _ _ _ _
    simp only [RetW]
    (try simp -implicitDefEqProofs (maxSteps := 4000000) (disch := first | omega | decide | (simp only [go_sem]; omega)) only [go_sem, ↓reduceIte])
    (try simp (disch := omega) only [if_pos, Nat.sub_zero])
    exact leT_refl _
end Go.Proofs.YtaiapalhdejngaaX

set_option linter.unusedVariables false
set_option linter.unusedSimpArgs false
namespace Go.Proofs.YtaiapalhdejngaaX
open Go Go.RowKit Go.Proofs
set_option maxRecDepth 100000
attribute [local go_sem ↓] stepsK_build stepsK_build0 stepsK_bs stepsK_bs0 appendS
attribute [local go_sem] String.reduceEq String.reduceNe reduceCtorEq Int.reduceEq Nat.reduceAdd Nat.reduceSub Nat.reduceMul Nat.reduceLT Nat.reduceLeDiff Nat.reduceEqDiff Nat.reduceBEq Int.reduceToNat Int.reduceLT Int.reduceLE Int.reduceGT Int.reduceGE Int.reduceAdd Int.reduceSub Int.reduceMul Int.reduceNeg Int.reduceBEq Int.reduceBNe Int.reducePow Int.reduceDiv Int.reduceMod Int.reduceTDiv Int.reduceTMod Int.reduceNatCast
/-! ### (md5.State).Block -/
def F82_S1 (a0 : (List (Int)) × (Int)) (v2 : List (Int)) (v3 : List (Int)) (v4 : List (Int)) (x11 : Int) (x12 : Int) (x13 : Int) (x14 : Int) (x15 : Int) : St := ⟨[.junk, .junk, .ref 0 0 0 0, .junk, .ref 2 0 0 0, .ref 3 0 0 0, .ref 4 0 0 0, .ref 5 0 0 0, .ref 6 0 0 0, .junk, .junk, .junk, .junk, .junk, .junk, .junk, .junk, .junk, .junk, .junk, .imm (.int .i64 x11), .junk, .junk, .junk, .junk, .junk, .junk, .junk, .junk, .junk, .junk, .junk, .junk, .junk, .junk, .junk, .junk, .junk, .junk, .junk, .junk, .junk, .junk, .junk, .junk, .junk, .junk, .junk, .junk, .junk, .junk, .junk, .junk, .junk, .junk, .junk, .junk, .junk, .junk, .junk, .junk, .junk, .junk, .junk, .junk, .junk, .junk, .junk, .junk, .junk, .junk, .junk, .junk, .junk, .junk, .junk, .junk, .junk, .junk, .junk, .junk, .junk, .junk, .junk, .junk, .junk], [some (.box 113 (.agg [.imm (.int .u32 (a0.1.getD 0 default)), .imm (.int .u32 (a0.1.getD 1 default)), .imm (.int .u32 (a0.1.getD 2 default)), .imm (.int .u32 (a0.1.getD 3 default)), .imm (.int .u64 a0.2)]) false), none, some (.box 113 (.agg [.imm (.int .u32 (0 : Int)), .imm (.int .u32 (0 : Int)), .imm (.int .u32 (0 : Int)), .imm (.int .u32 (0 : Int)), .imm (.int .u64 (0 : Int))]) false), some (.box 137 (.agg (List.map (eI .u32) v2)) false), some (.box 139 (.agg (List.map (eI .u32) v3)) false), some (.box 142 (.agg (List.map (eI .i64) v4)) false), some (.box 110 (.agg [.imm (.int .u32 x12), .imm (.int .u32 x13), .imm (.int .u32 x14), .imm (.int .u32 x15)]) false)]⟩
def F82_L1 : Nat → ((List (Int)) × (Int)) → (List (Int)) → (List (Int)) → (List (Int)) → (Int) → (Int) → (Int) → (Int) → (Int) → Option ((List (Int)) × (Int))
  | 0, _, _, _, _, _, _, _, _, _ => none
  | m1 + 1, a0, v2, v3, v4, x11, x12, x13, x14, x15 => iteB (decide (x11 < (64 : Int))) ((F108 m1 x11 x13 x14 x15).bind fun v17 => grd (0 ≤ (v17.2.tmod (16 : Int)) ∧ (v17.2.tmod (16 : Int)) < (16 : Int)) (grd ((v17.2.tmod (16 : Int)).toNat < v2.length) (grd (0 ≤ x11 ∧ x11 < (64 : Int)) (grd (x11.toNat < v3.length) (grd (0 ≤ (IntKind.wrap .i64 (x11.tdiv (16 : Int))) ∧ (IntKind.wrap .i64 (x11.tdiv (16 : Int))) < (4 : Int)) (grd (0 ≤ (x11.tmod (4 : Int)) ∧ (x11.tmod (4 : Int)) < (4 : Int)) (grd ((IntKind.wrap .i64 (x11.tdiv (16 : Int))).toNat * 4 + (x11.tmod (4 : Int)).toNat < v4.length) ((F109 m1 (IntKind.wrap .u32 ((IntKind.wrap .u32 ((IntKind.wrap .u32 (x12 + v17.1)) + (v2.getD ((v17.2.tmod (16 : Int)).toNat) default))) + (v3.getD x11.toNat default))) (v4.getD ((IntKind.wrap .i64 (x11.tdiv (16 : Int))).toNat * 4 + (x11.tmod (4 : Int)).toNat) default)).bind fun v25 => F82_L1 m1 a0 v2 v3 v4 (IntKind.wrap .i64 (x11 + (1 : Int))) x15 (IntKind.wrap .u32 (x13 + v25)) x13 x14)))))))) (some ([(IntKind.wrap .u32 ((a0.1.getD 0 default) + x12)), (IntKind.wrap .u32 ((a0.1.getD 1 default) + x13)), (IntKind.wrap .u32 ((a0.1.getD 2 default) + x14)), (IntKind.wrap .u32 ((a0.1.getD 3 default) + x15))], (IntKind.wrap .u64 (a0.2 + (64 : Int)))))
def F82 (n : Nat) (a0 : (List (Int)) × (Int)) (a1 : List (Int)) : Option ((List (Int)) × (Int)) := grd (64 ≤ a1.length) ((F105 n (a1.take 64)).bind fun v2 => (F106 n ).bind fun v3 => (F107 n ).bind fun v4 => grd (v2.length = 16) (grd (v3.length = 64) (grd (v4.length = 16) (F82_L1 n a0 v2 v3 v4 (0 : Int) (a0.1.getD 0 default) (a0.1.getD 1 default) (a0.1.getD 2 default) (a0.1.getD 3 default)))))
set_option maxHeartbeats 4000000 in
theorem F82_ok : ∀ (n : Nat) (a0 : (List (Int)) × (Int)) (a1 : List (Int)) (r : (List (Int)) × (Int)), F82 n a0 a1 = some r → FnC Try.prog 82 [.agg [.imm (.int .u32 (a0.1.getD 0 default)), .imm (.int .u32 (a0.1.getD 1 default)), .imm (.int .u32 (a0.1.getD 2 default)), .imm (.int .u32 (a0.1.getD 3 default)), .imm (.int .u64 a0.2)], .agg (List.map byteT a1)] (.agg [.imm (.int .u32 (r.1.getD 0 default)), .imm (.int .u32 (r.1.getD 1 default)), .imm (.int .u32 (r.1.getD 2 default)), .imm (.int .u32 (r.1.getD 3 default)), .imm (.int .u64 r.2)])
  | n, a0, a1, r, h => by
    unfold F82 at h
    refine FnC.goX mixed Try.func82 (by kernel_rfl) rfl ?_
    simp only [Try.ntmps82, List.length_cons, List.length_nil, List.replicate, List.cons_append, List.nil_append, Nat.reduceAdd, Nat.reduceSub]
    refine runX_seq ?_
    refine runX_regionC fun C hC => ?_
    try simp -implicitDefEqProofs (maxSteps := 4000000) (disch := first | omega | decide | (simp only [go_sem]; omega)) only [go_sem, ↓reduceIte]
    repeat (with_reducible refine And.intro (by first | assumption | omega | (simp; done) | (simp; omega)) ?_)
    refine toEnd hC ?_
    refine endX_seq ?_
    refine runX_seq ?_
    refine runX_regionC fun C hC => ?_
    obtain ⟨g1, h⟩ := grd_some h
    obtain ⟨v2, h2, h⟩ := bnd_some h
    try simp -implicitDefEqProofs (maxSteps := 4000000) (disch := first | omega | decide | (simp only [go_sem]; omega)) only [go_sem, ↓reduceIte]
    repeat (with_reducible refine And.intro (by first | assumption | omega | (simp; done) | (simp; omega)) ?_)
    refine callG_X (by first | rfl | (simp only [go_sem]; done) | (simp only [closedL, closedT, Bool.and_true]; exact closedL_map _ (fun _ => by first | rfl | (simp only [go_sem]; done)) _)) (F105_ok n (a1.take 64) _ h2) (by repeat (first | exact leL_refl _ | refine leL_cons (by first | exact leT_refl _ | exact leT_virt | exact leT_junk _ | exact leT_sl | exact leT_sln | exact leT_nil | (refine leT_agg (by repeat (first | exact leL_refl _ | refine leL_cons (by first | exact leT_refl _ | exact leT_sl | exact leT_sln | exact leT_nil) ?_)))) ?_)) ?_
    obtain ⟨v3, h3, h⟩ := bnd_some h
    try simp -implicitDefEqProofs (maxSteps := 4000000) (disch := first | omega | decide | (simp only [go_sem]; omega)) only [go_sem, ↓reduceIte]
    repeat (with_reducible refine And.intro (by first | assumption | omega | (simp; done) | (simp; omega)) ?_)
    refine callG_X (by first | rfl | (simp only [go_sem]; done) | (simp only [closedL, closedT, Bool.and_true]; exact closedL_map _ (fun _ => by first | rfl | (simp only [go_sem]; done)) _)) (F106_ok n  _ h3) (by repeat (first | exact leL_refl _ | refine leL_cons (by first | exact leT_refl _ | exact leT_virt | exact leT_junk _ | exact leT_sl | exact leT_sln | exact leT_nil | (refine leT_agg (by repeat (first | exact leL_refl _ | refine leL_cons (by first | exact leT_refl _ | exact leT_sl | exact leT_sln | exact leT_nil) ?_)))) ?_)) ?_
    obtain ⟨v4, h4, h⟩ := bnd_some h
    try simp -implicitDefEqProofs (maxSteps := 4000000) (disch := first | omega | decide | (simp only [go_sem]; omega)) only [go_sem, ↓reduceIte]
    repeat (with_reducible refine And.intro (by first | assumption | omega | (simp; done) | (simp; omega)) ?_)
    refine callG_X (by first | rfl | (simp only [go_sem]; done) | (simp only [closedL, closedT, Bool.and_true]; exact closedL_map _ (fun _ => by first | rfl | (simp only [go_sem]; done)) _)) (F107_ok n  _ h4) (by repeat (first | exact leL_refl _ | refine leL_cons (by first | exact leT_refl _ | exact leT_virt | exact leT_junk _ | exact leT_sl | exact leT_sln | exact leT_nil | (refine leT_agg (by repeat (first | exact leL_refl _ | refine leL_cons (by first | exact leT_refl _ | exact leT_sl | exact leT_sln | exact leT_nil) ?_)))) ?_)) ?_
    obtain ⟨g5, h⟩ := grd_some h
    have e6 : List.drop v2.length ([.imm (.int .u32 (0 : Int)), .imm (.int .u32 (0 : Int)), .imm (.int .u32 (0 : Int)), .imm (.int .u32 (0 : Int)), .imm (.int .u32 (0 : Int)), .imm (.int .u32 (0 : Int)), .imm (.int .u32 (0 : Int)), .imm (.int .u32 (0 : Int)), .imm (.int .u32 (0 : Int)), .imm (.int .u32 (0 : Int)), .imm (.int .u32 (0 : Int)), .imm (.int .u32 (0 : Int)), .imm (.int .u32 (0 : Int)), .imm (.int .u32 (0 : Int)), .imm (.int .u32 (0 : Int)), .imm (.int .u32 (0 : Int))] : List T) = [] := drop_all (by first | (simp only [List.length_cons, List.length_nil]; omega) | (simp; omega))
    obtain ⟨g7, h⟩ := grd_some h
    have e8 : List.drop v3.length ((.imm (.int .u32 (0 : Int)) :: .imm (.int .u32 (0 : Int)) :: .imm (.int .u32 (0 : Int)) :: .imm (.int .u32 (0 : Int)) :: .imm (.int .u32 (0 : Int)) :: .imm (.int .u32 (0 : Int)) :: .imm (.int .u32 (0 : Int)) :: .imm (.int .u32 (0 : Int)) :: .imm (.int .u32 (0 : Int)) :: .imm (.int .u32 (0 : Int)) :: .imm (.int .u32 (0 : Int)) :: .imm (.int .u32 (0 : Int)) :: .imm (.int .u32 (0 : Int)) :: .imm (.int .u32 (0 : Int)) :: .imm (.int .u32 (0 : Int)) :: .imm (.int .u32 (0 : Int)) :: .imm (.int .u32 (0 : Int)) :: .imm (.int .u32 (0 : Int)) :: .imm (.int .u32 (0 : Int)) :: .imm (.int .u32 (0 : Int)) :: .imm (.int .u32 (0 : Int)) :: .imm (.int .u32 (0 : Int)) :: .imm (.int .u32 (0 : Int)) :: .imm (.int .u32 (0 : Int)) :: .imm (.int .u32 (0 : Int)) :: .imm (.int .u32 (0 : Int)) :: .imm (.int .u32 (0 : Int)) :: .imm (.int .u32 (0 : Int)) :: .imm (.int .u32 (0 : Int)) :: .imm (.int .u32 (0 : Int)) :: .imm (.int .u32 (0 : Int)) :: .imm (.int .u32 (0 : Int)) :: .imm (.int .u32 (0 : Int)) :: .imm (.int .u32 (0 : Int)) :: .imm (.int .u32 (0 : Int)) :: .imm (.int .u32 (0 : Int)) :: .imm (.int .u32 (0 : Int)) :: .imm (.int .u32 (0 : Int)) :: .imm (.int .u32 (0 : Int)) :: .imm (.int .u32 (0 : Int)) :: .imm (.int .u32 (0 : Int)) :: .imm (.int .u32 (0 : Int)) :: .imm (.int .u32 (0 : Int)) :: .imm (.int .u32 (0 : Int)) :: .imm (.int .u32 (0 : Int)) :: .imm (.int .u32 (0 : Int)) :: .imm (.int .u32 (0 : Int)) :: .imm (.int .u32 (0 : Int)) :: .imm (.int .u32 (0 : Int)) :: .imm (.int .u32 (0 : Int)) :: .imm (.int .u32 (0 : Int)) :: .imm (.int .u32 (0 : Int)) :: .imm (.int .u32 (0 : Int)) :: .imm (.int .u32 (0 : Int)) :: .imm (.int .u32 (0 : Int)) :: .imm (.int .u32 (0 : Int)) :: .imm (.int .u32 (0 : Int)) :: .imm (.int .u32 (0 : Int)) :: .imm (.int .u32 (0 : Int)) :: .imm (.int .u32 (0 : Int)) :: .imm (.int .u32 (0 : Int)) :: .imm (.int .u32 (0 : Int)) :: .imm (.int .u32 (0 : Int)) :: .imm (.int .u32 (0 : Int)) :: ([] : List T)) : List T) = [] := drop_all (by first | (simp only [List.length_cons, List.length_nil]; omega) | (simp; omega))
    obtain ⟨g9, h⟩ := grd_some h
    have e10 : List.drop v4.length ([.imm (.int .i64 (0 : Int)), .imm (.int .i64 (0 : Int)), .imm (.int .i64 (0 : Int)), .imm (.int .i64 (0 : Int)), .imm (.int .i64 (0 : Int)), .imm (.int .i64 (0 : Int)), .imm (.int .i64 (0 : Int)), .imm (.int .i64 (0 : Int)), .imm (.int .i64 (0 : Int)), .imm (.int .i64 (0 : Int)), .imm (.int .i64 (0 : Int)), .imm (.int .i64 (0 : Int)), .imm (.int .i64 (0 : Int)), .imm (.int .i64 (0 : Int)), .imm (.int .i64 (0 : Int)), .imm (.int .i64 (0 : Int))] : List T) = [] := drop_all (by first | (simp only [List.length_cons, List.length_nil]; omega) | (simp; omega))
    try simp -implicitDefEqProofs (maxSteps := 4000000) (disch := first | omega | decide | (simp only [go_sem]; omega)) only [go_sem, ↓reduceIte, e6, e8, e10]
    repeat (with_reducible refine And.intro (by first | assumption | omega | (simp; done) | (simp; omega)) ?_)
    refine toEnd hC ?_
    refine endX_seq ?_
    refine runX_seq ?_
    refine runX_regionC fun C hC => ?_
    try simp -implicitDefEqProofs (maxSteps := 4000000) (disch := first | omega | decide | (simp only [go_sem]; omega)) only [go_sem, ↓reduceIte]
    repeat (with_reducible refine And.intro (by first | assumption | omega | (simp; done) | (simp; omega)) ?_)
    refine toEnd hC ?_
    refine endX_seq ?_
    refine runX_seq ?_
    refine runX_seq ?_
    refine runX_regionC fun C hC => ?_
    try simp -implicitDefEqProofs (maxSteps := 4000000) (disch := first | omega | decide | (simp only [go_sem]; omega)) only [go_sem, ↓reduceIte]
    repeat (with_reducible refine And.intro (by first | assumption | omega | (simp; done) | (simp; omega)) ?_)
    refine toEnd hC ?_
    refine endX_seq ?_
    refine runX_block ?_
    refine runX_loop [2, 4, 5, 6, 7, 8, 20] (fun m S => ∃ (x11 : Int) (x12 : Int) (x13 : Int) (x14 : Int) (x15 : Int), S = F82_S1 a0 v2 v3 v4 x11 x12 x13 x14 x15 ∧ m ≤ n ∧ F82_L1 m a0 v2 v3 v4 x11 x12 x13 x14 x15 = some r) n ⟨F82_S1 a0 v2 v3 v4 (0 : Int) (a0.1.getD 0 default) (a0.1.getD 1 default) (a0.1.getD 2 default) (a0.1.getD 3 default), ?_, (0 : Int), (a0.1.getD 0 default), (a0.1.getD 1 default), (a0.1.getD 2 default), (a0.1.getD 3 default), rfl, Nat.le_refl _, h⟩ ?_
    · simp only [F82_S1]
      (try simp -implicitDefEqProofs (maxSteps := 4000000) (disch := first | omega | decide | (simp only [go_sem]; omega)) only [go_sem, ↓reduceIte])
      first | exact leS_refl _ | (refine leS_le ?_ ?_ <;> first | exact leL_refl _ | exact leOs_refl _ | (simp only [List.append_assoc, List.cons_append, List.nil_append]; exact leOs_refl _) | (repeat (first | exact leL_refl _ | refine leL_cons (by first | exact leT_refl _ | exact leT_virt | exact leT_junk _ | exact leT_sl | exact leT_sln | exact leT_nil | (refine leT_agg (by repeat (first | exact leL_refl _ | refine leL_cons (by first | exact leT_refl _ | exact leT_sl | exact leT_sln | exact leT_nil) ?_)))) ?_)))
    · clear h
      rintro m1 S ⟨x11, x12, x13, x14, x15, rfl, hm1, h⟩
      cases m1 with
      | zero => first | cases (show (none : Option _) = some _ from h) | (rw [F82_L1] at h; cases h)
      | succ m1 =>
        rw [F82_L1] at h
        simp only [F82_S1]
        refine runX_seq ?_
        refine runX_regionC fun C hC => ?_
        try simp -implicitDefEqProofs (maxSteps := 4000000) (disch := first | omega | decide | (simp only [go_sem]; omega)) only [go_sem, ↓reduceIte]
        repeat (with_reducible refine And.intro (by first | assumption | omega | (simp; done) | (simp; omega)) ?_)
        refine toEnd hC ?_
        refine endX_seq ?_
        refine runX_seq ?_
        rcases iteB_some h with ⟨c16, h⟩ | ⟨c16, h⟩
        · refine runX_condT rfl c16 ?_
          refine runX_skip ?_
          refine endX_seq ?_
          refine runX_seq ?_
          refine runX_block ?_
          refine runX_seq ?_
          refine runX_regionC fun C hC => ?_
          try simp -implicitDefEqProofs (maxSteps := 4000000) (disch := first | omega | decide | (simp only [go_sem]; omega)) only [go_sem, ↓reduceIte]
          repeat (with_reducible refine And.intro (by first | assumption | omega | (simp; done) | (simp; omega)) ?_)
          refine toEnd hC ?_
          refine endX_seq ?_
          refine runX_seq ?_
          refine runX_regionC fun C hC => ?_
          obtain ⟨v17, h17, h⟩ := bnd_some h
          try simp -implicitDefEqProofs (maxSteps := 4000000) (disch := first | omega | decide | (simp only [go_sem]; omega)) only [go_sem, ↓reduceIte]
          repeat (with_reducible refine And.intro (by first | assumption | omega | (simp; done) | (simp; omega)) ?_)
          refine callG_X (by first | rfl | (simp only [go_sem]; done) | (simp only [closedL, closedT, Bool.and_true]; exact closedL_map _ (fun _ => by first | rfl | (simp only [go_sem]; done)) _)) (F108_ok m1 x11 x13 x14 x15 _ h17) (by repeat (first | exact leL_refl _ | refine leL_cons (by first | exact leT_refl _ | exact leT_virt | exact leT_junk _ | exact leT_sl | exact leT_sln | exact leT_nil | (refine leT_agg (by repeat (first | exact leL_refl _ | refine leL_cons (by first | exact leT_refl _ | exact leT_sl | exact leT_sln | exact leT_nil) ?_)))) ?_)) ?_
          try simp -implicitDefEqProofs (maxSteps := 4000000) (disch := first | omega | decide | (simp only [go_sem]; omega)) only [go_sem, ↓reduceIte]
          repeat (with_reducible refine And.intro (by first | assumption | omega | (simp; done) | (simp; omega)) ?_)
          refine toEnd hC ?_
          refine endX_seq ?_
          refine runX_seq ?_
          refine runX_drawC mixed (by kernel_rfl) fun C hC => ?_
          obtain ⟨g18, h⟩ := grd_some h
          obtain ⟨g19, h⟩ := grd_some h
          obtain ⟨g20, h⟩ := grd_some h
          obtain ⟨g21, h⟩ := grd_some h
          obtain ⟨g22, h⟩ := grd_some h
          obtain ⟨g23, h⟩ := grd_some h
          obtain ⟨g24, h⟩ := grd_some h
          obtain ⟨v25, h25, h⟩ := bnd_some h
          try simp -implicitDefEqProofs (maxSteps := 4000000) (disch := first | omega | decide | (simp only [go_sem]; omega)) only [go_sem, ↓reduceIte]
          repeat (with_reducible refine And.intro (by first | assumption | omega | (simp; done) | (simp; omega)) ?_)
          refine callD_X (F109_ok m1 (IntKind.wrap .u32 ((IntKind.wrap .u32 ((IntKind.wrap .u32 (x12 + v17.1)) + (v2.getD ((v17.2.tmod (16 : Int)).toNat) default))) + (v3.getD x11.toNat default))) (v4.getD ((IntKind.wrap .i64 (x11.tdiv (16 : Int))).toNat * 4 + (x11.tmod (4 : Int)).toNat) default) _ h25) (by repeat (first | exact leL_refl _ | refine leL_cons (by first | exact leT_refl _ | exact leT_virt | exact leT_junk _ | exact leT_sl | exact leT_sln | exact leT_nil | (refine leT_agg (by repeat (first | exact leL_refl _ | refine leL_cons (by first | exact leT_refl _ | exact leT_sl | exact leT_sln | exact leT_nil) ?_)))) ?_)) ?_
          try simp -implicitDefEqProofs (maxSteps := 4000000) (disch := first | omega | decide | (simp only [go_sem]; omega)) only [go_sem, ↓reduceIte]
          repeat (with_reducible refine And.intro (by first | assumption | omega | (simp; done) | (simp; omega)) ?_)
          refine toEnd hC ?_
          refine endX_seq ?_
          refine runX_regionC fun C hC => ?_
          try simp -implicitDefEqProofs (maxSteps := 4000000) (disch := first | omega | decide | (simp only [go_sem]; omega)) only [go_sem, ↓reduceIte]
          repeat (with_reducible refine And.intro (by first | assumption | omega | (simp; done) | (simp; omega)) ?_)
          refine bldG_of [.imm (.int .u32 x15), .imm (.int .u32 (IntKind.wrap .u32 (x13 + v25))), .imm (.int .u32 x13), .imm (.int .u32 x14)] (by kernel_rfl) ?_
          try simp -implicitDefEqProofs (maxSteps := 4000000) (disch := first | omega | decide | (simp only [go_sem]; omega)) only [go_sem, ↓reduceIte]
          repeat (with_reducible refine And.intro (by first | assumption | omega | (simp; done) | (simp; omega)) ?_)
          refine toEnd hC ?_
          refine endX_blk ?_
          refine endX_seq ?_
          refine runX_regionC fun C hC => ?_
          try simp -implicitDefEqProofs (maxSteps := 4000000) (disch := first | omega | decide | (simp only [go_sem]; omega)) only [go_sem, ↓reduceIte]
          repeat (with_reducible refine And.intro (by first | assumption | omega | (simp; done) | (simp; omega)) ?_)
          refine toEnd hC ?_
          refine endX_q (roundQ_normal ⟨m1, by omega, F82_S1 a0 v2 v3 v4 (IntKind.wrap .i64 (x11 + (1 : Int))) x15 (IntKind.wrap .u32 (x13 + v25)) x13 x14, ?_, (IntKind.wrap .i64 (x11 + (1 : Int))), x15, (IntKind.wrap .u32 (x13 + v25)), x13, x14, rfl, by omega, h⟩)
          simp only [F82_S1]
          (try simp -implicitDefEqProofs (maxSteps := 4000000) (disch := first | omega | decide | (simp only [go_sem]; omega)) only [go_sem, ↓reduceIte])
          first | exact leS_refl _ | (refine leS_le ?_ ?_ <;> first | exact leL_refl _ | exact leOs_refl _ | (simp only [List.append_assoc, List.cons_append, List.nil_append]; exact leOs_refl _) | (repeat (first | exact leL_refl _ | refine leL_cons (by first | exact leT_refl _ | exact leT_virt | exact leT_junk _ | exact leT_sl | exact leT_sln | exact leT_nil | (refine leT_agg (by repeat (first | exact leL_refl _ | refine leL_cons (by first | exact leT_refl _ | exact leT_sl | exact leT_sln | exact leT_nil) ?_)))) ?_)))
        · refine runX_condF rfl c16 ?_
          refine runX_exit ?_
          refine endX_seqE ?_
          refine endX_q (roundQ_exit ?_)
          refine endX_blkE ?_
          refine endX_seq ?_
          refine runX_seq ?_
          refine runX_seq ?_
          refine runX_regionC fun C hC => ?_
          try simp -implicitDefEqProofs (maxSteps := 4000000) (disch := first | omega | decide | (simp only [go_sem]; omega)) only [go_sem, ↓reduceIte]
          repeat (with_reducible refine And.intro (by first | assumption | omega | (simp; done) | (simp; omega)) ?_)
          refine toEnd hC ?_
          refine endX_seq ?_
          refine runX_block ?_
          refine runX_unroll 4 ?_
          refine runX_seq ?_
          refine runX_regionC fun C hC => ?_
          try simp -implicitDefEqProofs (maxSteps := 4000000) (disch := first | omega | decide | (simp only [go_sem]; omega)) only [go_sem, ↓reduceIte]
          repeat (with_reducible refine And.intro (by first | assumption | omega | (simp; done) | (simp; omega)) ?_)
          refine toEnd hC ?_
          refine endX_seq ?_
          refine runX_seq ?_
          refine runX_condT rfl rfl ?_
          refine runX_skip ?_
          refine endX_seq ?_
          refine runX_seq ?_
          refine runX_block ?_
          refine runX_seq ?_
          refine runX_regionC fun C hC => ?_
          try simp -implicitDefEqProofs (maxSteps := 4000000) (disch := first | omega | decide | (simp only [go_sem]; omega)) only [go_sem, ↓reduceIte]
          repeat (with_reducible refine And.intro (by first | assumption | omega | (simp; done) | (simp; omega)) ?_)
          refine toEnd hC ?_
          refine endX_seq ?_
          refine runX_drawC mixed (by kernel_rfl) fun C hC => ?_
          try simp -implicitDefEqProofs (maxSteps := 4000000) (disch := first | omega | decide | (simp only [go_sem]; omega)) only [go_sem, ↓reduceIte]
          repeat (with_reducible refine And.intro (by first | assumption | omega | (simp; done) | (simp; omega)) ?_)
          refine toEnd hC ?_
          refine endX_blk ?_
          refine endX_seq ?_
          refine runX_regionC fun C hC => ?_
          try simp -implicitDefEqProofs (maxSteps := 4000000) (disch := first | omega | decide | (simp only [go_sem]; omega)) only [go_sem, ↓reduceIte]
          repeat (with_reducible refine And.intro (by first | assumption | omega | (simp; done) | (simp; omega)) ?_)
          refine toEnd hC ?_
          refine endX_lp ?_
          refine runX_seq ?_
          refine runX_regionC fun C hC => ?_
          try simp -implicitDefEqProofs (maxSteps := 4000000) (disch := first | omega | decide | (simp only [go_sem]; omega)) only [go_sem, ↓reduceIte]
          repeat (with_reducible refine And.intro (by first | assumption | omega | (simp; done) | (simp; omega)) ?_)
          refine toEnd hC ?_
          refine endX_seq ?_
          refine runX_seq ?_
          refine runX_condT rfl rfl ?_
          refine runX_skip ?_
          refine endX_seq ?_
          refine runX_seq ?_
          refine runX_block ?_
          refine runX_seq ?_
          refine runX_regionC fun C hC => ?_
          try simp -implicitDefEqProofs (maxSteps := 4000000) (disch := first | omega | decide | (simp only [go_sem]; omega)) only [go_sem, ↓reduceIte]
          repeat (with_reducible refine And.intro (by first | assumption | omega | (simp; done) | (simp; omega)) ?_)
          refine toEnd hC ?_
          refine endX_seq ?_
          refine runX_drawC mixed (by kernel_rfl) fun C hC => ?_
          try simp -implicitDefEqProofs (maxSteps := 4000000) (disch := first | omega | decide | (simp only [go_sem]; omega)) only [go_sem, ↓reduceIte]
          repeat (with_reducible refine And.intro (by first | assumption | omega | (simp; done) | (simp; omega)) ?_)
          refine toEnd hC ?_
          refine endX_blk ?_
          refine endX_seq ?_
          refine runX_regionC fun C hC => ?_
          try simp -implicitDefEqProofs (maxSteps := 4000000) (disch := first | omega | decide | (simp only [go_sem]; omega)) only [go_sem, ↓reduceIte]
          repeat (with_reducible refine And.intro (by first | assumption | omega | (simp; done) | (simp; omega)) ?_)
          refine toEnd hC ?_
          refine endX_lp ?_
          refine runX_seq ?_
          refine runX_regionC fun C hC => ?_
          try simp -implicitDefEqProofs (maxSteps := 4000000) (disch := first | omega | decide | (simp only [go_sem]; omega)) only [go_sem, ↓reduceIte]
          repeat (with_reducible refine And.intro (by first | assumption | omega | (simp; done) | (simp; omega)) ?_)
          refine toEnd hC ?_
          refine endX_seq ?_
          refine runX_seq ?_
          refine runX_condT rfl rfl ?_
          refine runX_skip ?_
          refine endX_seq ?_
          refine runX_seq ?_
          refine runX_block ?_
          refine runX_seq ?_
          refine runX_regionC fun C hC => ?_
          try simp -implicitDefEqProofs (maxSteps := 4000000) (disch := first | omega | decide | (simp only [go_sem]; omega)) only [go_sem, ↓reduceIte]
          repeat (with_reducible refine And.intro (by first | assumption | omega | (simp; done) | (simp; omega)) ?_)
          refine toEnd hC ?_
          refine endX_seq ?_
          refine runX_drawC mixed (by kernel_rfl) fun C hC => ?_
          try simp -implicitDefEqProofs (maxSteps := 4000000) (disch := first | omega | decide | (simp only [go_sem]; omega)) only [go_sem, ↓reduceIte]
          repeat (with_reducible refine And.intro (by first | assumption | omega | (simp; done) | (simp; omega)) ?_)
          refine toEnd hC ?_
          refine endX_blk ?_
          refine endX_seq ?_
          refine runX_regionC fun C hC => ?_
          try simp -implicitDefEqProofs (maxSteps := 4000000) (disch := first | omega | decide | (simp only [go_sem]; omega)) only [go_sem, ↓reduceIte]
          repeat (with_reducible refine And.intro (by first | assumption | omega | (simp; done) | (simp; omega)) ?_)
          refine toEnd hC ?_
          refine endX_lp ?_
          refine runX_seq ?_
          refine runX_regionC fun C hC => ?_
          try simp -implicitDefEqProofs (maxSteps := 4000000) (disch := first | omega | decide | (simp only [go_sem]; omega)) only [go_sem, ↓reduceIte]
          repeat (with_reducible refine And.intro (by first | assumption | omega | (simp; done) | (simp; omega)) ?_)
          refine toEnd hC ?_
          refine endX_seq ?_
          refine runX_seq ?_
          refine runX_condT rfl rfl ?_
          refine runX_skip ?_
          refine endX_seq ?_
          refine runX_seq ?_
          refine runX_block ?_
          refine runX_seq ?_
          refine runX_regionC fun C hC => ?_
          try simp -implicitDefEqProofs (maxSteps := 4000000) (disch := first | omega | decide | (simp only [go_sem]; omega)) only [go_sem, ↓reduceIte]
          repeat (with_reducible refine And.intro (by first | assumption | omega | (simp; done) | (simp; omega)) ?_)
          refine toEnd hC ?_
          refine endX_seq ?_
          refine runX_drawC mixed (by kernel_rfl) fun C hC => ?_
          try simp -implicitDefEqProofs (maxSteps := 4000000) (disch := first | omega | decide | (simp only [go_sem]; omega)) only [go_sem, ↓reduceIte]
          repeat (with_reducible refine And.intro (by first | assumption | omega | (simp; done) | (simp; omega)) ?_)
          refine toEnd hC ?_
          refine endX_blk ?_
          refine endX_seq ?_
          refine runX_regionC fun C hC => ?_
          try simp -implicitDefEqProofs (maxSteps := 4000000) (disch := first | omega | decide | (simp only [go_sem]; omega)) only [go_sem, ↓reduceIte]
          repeat (with_reducible refine And.intro (by first | assumption | omega | (simp; done) | (simp; omega)) ?_)
          refine toEnd hC ?_
          refine endX_lp ?_
          refine runX_seq ?_
          refine runX_regionC fun C hC => ?_
          try simp -implicitDefEqProofs (maxSteps := 4000000) (disch := first | omega | decide | (simp only [go_sem]; omega)) only [go_sem, ↓reduceIte]
          repeat (with_reducible refine And.intro (by first | assumption | omega | (simp; done) | (simp; omega)) ?_)
          refine toEnd hC ?_
          refine endX_seq ?_
          refine runX_seq ?_
          refine runX_condF rfl rfl ?_
          refine runX_exit ?_
          refine endX_seqE ?_
          refine endX_lpE ?_
          refine endX_blkE ?_
          refine endX_seq ?_
          refine runX_seq ?_
          refine runX_regionC fun C hC => ?_
          try simp -implicitDefEqProofs (maxSteps := 4000000) (disch := first | omega | decide | (simp only [go_sem]; omega)) only [go_sem, ↓reduceIte]
          repeat (with_reducible refine And.intro (by first | assumption | omega | (simp; done) | (simp; omega)) ?_)
          refine toEnd hC ?_
          refine endX_seq ?_
          refine runX_seq ?_
          refine runX_regionC fun C hC => ?_
          try simp -implicitDefEqProofs (maxSteps := 4000000) (disch := first | omega | decide | (simp only [go_sem]; omega)) only [go_sem, ↓reduceIte]
          repeat (with_reducible refine And.intro (by first | assumption | omega | (simp; done) | (simp; omega)) ?_)
          refine toEnd hC ?_
          refine endX_seq ?_
          refine runX_ret ?_
          refine endX_q ?_
          obtain rfl := Option.some.inj h
          show RetW _ _ _ _ _
          simp only [RetW]
          (try simp -implicitDefEqProofs (maxSteps := 4000000) (disch := first | omega | decide | (simp only [go_sem]; omega)) only [go_sem, ↓reduceIte])
          (try simp (disch := omega) only [if_pos, Nat.sub_zero])
          exact leT_refl _
end Go.Proofs.YtaiapalhdejngaaX
