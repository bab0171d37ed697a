/- Part of the proof of QueryTells: walks and plain words, merged. -/
import Derived.Test.YtdaojihnaajfeaaBQueryTellsb
import Derived.Test.YtdaojihnaajfeaaProg
import Derived.KernelRfl
import Derived.Shelf.SlSortCmp.NoneTotal
import Derived.Shelf.Small.Strs
import Derived.Shelf.Lays
import Derived.Shelf.SlGeneric
import Derived.Laws.StructEq
import Derived.Lib.Builder
import Derived.Laws.Externs
import Derived.Lib.Strings
import Derived.BigRegion
import Derived.Lib.UnsafeStr
set_option linter.unusedVariables false
set_option linter.unusedSimpArgs false

/- Rows with other numbers. Of no program. -/
set_option linter.unusedVariables false
set_option linter.unusedSimpArgs false
namespace Go.Proofs.YtdaojihnaajfeaaX
open Go Go.RowKit
def sw (a b i : Nat) : Nat := bif i == a then b else bif i == b then a else i
theorem sw_sw (a b i : Nat) : sw a b (sw a b i) = i := by
  unfold sw
  simp only [Bool.cond_eq_ite, beq_iff_eq]
  split
  · split <;> simp_all
  · split
    · simp_all
    · first | rfl | (split <;> simp_all)
mutual
def renT (a b : Nat) : T → T
  | .imm v => .imm v
  | .agg l => .agg (renL a b l)
  | .sl sz full l => .sl sz full l
  | .pp x => .pp x
  | .ref o sz i c => .ref (sw a b o) sz i c
  | .rsl o sz off len => .rsl (sw a b o) sz off len
  | .fn f caps => .fn f (renL a b caps)
  | .ifc t x => .ifc t (renT a b x)
  | .tup l => .tup (renL a b l)
  | .junk => .junk
def renL (a b : Nat) : List T → List T
  | [] => []
  | x :: l => renT a b x :: renL a b l
end
theorem renL_length (a b : Nat) : ∀ l : List T, (renL a b l).length = l.length
  | [] => rfl
  | x :: l => by rw [renL, List.length_cons, renL_length a b l, List.length_cons]
theorem cells_ren (a b : Nat) (x : T) : (renT a b x).cells.length = x.cells.length := by
  cases x <;> simp only [renT, T.cells, renL_length] <;> rfl
def Own.ren (a b : Nat) : Own → Own
  | .box t x lk => .box t (renT a b x) lk
  | .buf t sz l lk => .buf t sz l lk
  | .dead => .dead
theorem Own.ren_lock (a b : Nat) (x : Own) : (x.ren a b).lock = x.lock := by
  cases x <;> simp only [Own.ren, Own.lock, cells_ren]
theorem Own.ren_dead {a b : Nat} {x : Own} : x.ren a b = .dead ↔ x = .dead := by
  cases x <;> simp [Own.ren]
def renO (a b : Nat) (o : List (Option Own)) : List (Option Own) := ((o.set a (o.getD b none)).set b (o.getD a none)).map (Option.map (Own.ren a b))
theorem renO_get {a b : Nat} {o : List (Option Own)} (ha : a < o.length) (hb : b < o.length) (i : Nat) : (renO a b o)[sw a b i]? = (o[i]?).map (Option.map (Own.ren a b)) := by
  unfold renO
  rw [List.getElem?_map]
  congr 1
  have g : ∀ k, k < o.length → some (o.getD k none) = o[k]? := fun k hk => by rw [List.getD_eq_getElem?_getD, List.getElem?_eq_getElem hk]; rfl
  unfold sw
  by_cases h1 : i = a
  · subst h1
    simp only [beq_self_eq_true, cond_true]
    rw [List.getElem?_set, if_pos rfl, List.length_set, if_pos hb, g _ ha]
  · by_cases h2 : i = b
    · subst h2
      simp only [beq_self_eq_true, cond_true, show (i == a) = false by simpa using h1, cond_false]
      rw [List.getElem?_set, if_neg h1, List.getElem?_set, if_pos rfl, if_pos ha, g _ hb]
    · simp only [show (i == a) = false by simpa using h1, show (i == b) = false by simpa using h2, cond_false]
      rw [List.getElem?_set, if_neg (fun e => h2 e.symm), List.getElem?_set, if_neg (fun e => h1 e.symm)]
section
variable {w : World} {μ : Nat → Option Nat} {ban : Ban} {o : List (Option Own)} {a b : Nat}
def envO (w : World) (μ : Nat → Option Nat) (o : List (Option Own)) (ban : Ban) : Env := ⟨w, μ, o, ban⟩
def envR (w : World) (μ : Nat → Option Nat) (o : List (Option Own)) (ban : Ban) (a b : Nat) : Env := ⟨w, fun i => μ (sw a b i), renO a b o, ban⟩
theorem ren_back (ha : a < o.length) (hb : b < o.length) {j : Nat} {y : Own} (h : (renO a b o)[j]? = some (some y)) : ∃ x, o[sw a b j]? = some (some x) ∧ y = x.ren a b := by
  have := renO_get ha hb (sw a b j)
  rw [sw_sw, h] at this
  cases h1 : o[sw a b j]? with
  | none => rw [h1] at this; cases this
  | some z =>
    rw [h1] at this
    cases z with
    | none => cases this
    | some x =>
      refine ⟨x, rfl, ?_⟩
      simpa using this
theorem ren_fore (ha : a < o.length) (hb : b < o.length) {i : Nat} {x : Own} (h : o[i]? = some (some x)) : (renO a b o)[sw a b i]? = some (some (x.ren a b)) := by
  rw [renO_get ha hb, h]; rfl
theorem ren_stepC (ha : a < o.length) (hb : b < o.length) : StepC (envO w μ o ban) (envR w μ o ban a b) :=
  ⟨fun k j v ⟨h1, h2, h3⟩ => ⟨h1, fun lk ⟨o', y, k1, k2, k3⟩ => by
    obtain ⟨x, e1, e2⟩ := ren_back ha hb k1
    exact h2 lk ⟨sw a b o', x, e1, k2, by rw [e2, Own.ren_lock] at k3; exact k3⟩, h3⟩, fun k c t fr hb => ⟨c, fr, hb, rfl⟩⟩
mutual
theorem Rep.ren (ha : a < o.length) (hb : b < o.length) : ∀ (x : T) (cl : Bool) (v : Value), Rep (envO w μ o ban) cl x v → Rep (envR w μ o ban a b) cl (renT a b x) v
  | .imm u, cl, v, k => by simpa only [renT, Rep] using k
  | .agg l, cl, v, k => by
    simp only [renT, Rep] at k ⊢
    obtain ⟨cs, h1, h2⟩ := k
    exact ⟨cs, h1, RepL.ren ha hb l cl _ h2⟩
  | .sl sz full l, cl, v, k => by
    simp only [renT, Rep] at k ⊢
    obtain ⟨A, cap, c, h1, h2, h3, h4, h5⟩ := k
    exact ⟨A, cap, c, h1, h2, (fun hf => ⟨(h3 hf).1, fun e => ((h3 hf).2 e).step (ren_stepC ha hb)⟩), RepR.stepC (ren_stepC ha hb) l sz c h4, h5.step (ren_stepC ha hb)⟩
  | .pp x, cl, v, k => by
    simp only [renT, Rep] at k ⊢
    obtain ⟨b', o', u, h1, h2, h3⟩ := k
    exact ⟨b', o', u, h1, Rep.stepC (ren_stepC ha hb) x u h2, h3.step (ren_stepC ha hb)⟩
  | .ref o' sz i c, cl, v, k => by
    simp only [renT, Rep] at k ⊢
    obtain ⟨h1, ⟨y, h2⟩, b', h3, h4⟩ := k
    exact ⟨h1, ⟨_, ren_fore ha hb h2⟩, b', by show μ (sw a b (sw a b o')) = _; rw [sw_sw]; exact h3, h4⟩
  | .rsl o' sz off len, cl, v, k => by
    simp only [renT, Rep] at k ⊢
    obtain ⟨h1, ⟨y, h2⟩, h3⟩ := k
    have hm : (envR w μ o ban a b).μ (sw a b o') = (envO w μ o ban).μ o' := by show μ (sw a b (sw a b o')) = μ o'; rw [sw_sw]
    refine ⟨h1, ⟨_, ren_fore ha hb h2⟩, ?_⟩
    rw [hm]
    exact h3
  | .fn f caps, cl, v, k => by
    simp only [renT, Rep] at k ⊢
    obtain ⟨cs, h1, h2⟩ := k
    exact ⟨cs, h1, RepL.ren ha hb caps cl _ h2⟩
  | .ifc t x, cl, v, k => by
    simp only [renT, Rep] at k ⊢
    obtain ⟨u, h1, h2⟩ := k
    exact ⟨u, h1, Rep.ren ha hb x cl u h2⟩
  | .tup l, cl, v, k => by
    simp only [renT, Rep] at k ⊢
    obtain ⟨cs, h1, h2⟩ := k
    exact ⟨cs, h1, RepL.ren ha hb l cl _ h2⟩
  | .junk, cl, v, k => by simp only [renT, Rep]
theorem RepL.ren (ha : a < o.length) (hb : b < o.length) : ∀ (l : List T) (cl : Bool) (vs : List Value), RepL (envO w μ o ban) cl l vs → RepL (envR w μ o ban a b) cl (renL a b l) vs
  | [], cl, vs, k => by simpa only [renL, RepL] using k
  | x :: l, cl, vs, k => by
    simp only [renL, RepL] at k ⊢
    obtain ⟨v, vs', h1, h2, h3⟩ := k
    exact ⟨v, vs', h1, Rep.ren ha hb x cl v h2, RepL.ren ha hb l cl vs' h3⟩
end
theorem OwnAt.ren (ha : a < o.length) (hb : b < o.length) {i : Nat} : ∀ {x : Own}, OwnAt (envO w μ o ban) i x → OwnAt (envR w μ o ban a b) (sw a b i) (x.ren a b)
  | .box t x lk, ⟨b', fr, u, h1, h2, h3, h4, h5⟩ => ⟨b', fr, u, by show μ (sw a b (sw a b i)) = _; rw [sw_sw]; exact h1, h2, h3, Rep.ren ha hb x false u h4, by rw [cells_ren]; exact h5⟩
  | .buf t sz l lk, ⟨h0, h1⟩ => by
    have hm : (envR w μ o ban a b).μ (sw a b i) = (envO w μ o ban).μ i := by show μ (sw a b (sw a b i)) = μ i; rw [sw_sw]
    refine ⟨h0, ?_⟩
    rw [hm]
    exact h1.imp id fun ⟨b', c, fr, c1, c2, h1, h2, h3, h4, h5⟩ => ⟨b', c, fr, c1, c2, h1, h2, h3, h4, RepR.stepC (ren_stepC ha hb) _ _ _ h5⟩
  | .dead, _ => trivial
end
theorem leS_sw {t : List T} {o : List (Option Own)} (a b : Nat) (ha : a < o.length) (hb : b < o.length) : leS ⟨t, o⟩ ⟨renL a b t, renO a b o⟩ := fun B A w μ hS =>
  ⟨fun i => μ (sw a b i), RepL.ren (w := w) (μ := μ) (ban := B.ban) ha hb t false _ hS.tmps, hS.defers,
   ⟨fun j y hj => by
      obtain ⟨x, e1, rfl⟩ := ren_back ha hb hj
      have := OwnAt.ren (w := w) (μ := μ) (ban := B.ban) ha hb (hS.objs.at_ _ x e1)
      rwa [sw_sw] at this,
    fun j j' y y' k h1 h2 h3 h4 h5 h6 => by
      obtain ⟨x, e1, rfl⟩ := ren_back ha hb h1
      obtain ⟨x', e1', rfl⟩ := ren_back ha hb h2
      have := hS.objs.inj _ _ x x' k e1 e1' (fun e => h3 (Own.ren_dead.2 e)) (fun e => h4 (Own.ren_dead.2 e)) h5 h6
      have := congrArg (sw a b) this
      rwa [sw_sw, sw_sw] at this⟩,
   fun j y k h1 h2 h3 => by
      obtain ⟨x, e1, rfl⟩ := ren_back ha hb h1
      rw [Own.ren_lock]
      exact hS.fresh _ x k e1 (fun e => h2 (Own.ren_dead.2 e)) h3,
   hS.kept⟩
theorem leS_swT {t : List T} {o : List (Option Own)} (a b : Nat) (ha : a < o.length) (hb : b < o.length) : leS ⟨t, o⟩ ⟨renL a b t, trims (renO a b o)⟩ := fun B A w μ hS => by
  obtain ⟨μ', h⟩ := leS_sw a b ha hb B A w μ hS
  exact ⟨μ', h.same fun i x => trims_get _ i x⟩
end Go.Proofs.YtdaojihnaajfeaaX

/- A struct that is built: the run stops there. Of no program. -/
set_option linter.unusedVariables false
set_option linter.unusedSimpArgs false
namespace Go.Proofs.YtdaojihnaajfeaaX
open Go Go.RowKit
def bldG (P : Program) (Q : Exit → St → Prop) (t : TypeId) (parts : List (Nat × T)) (dst : Option Tmp) (rest : List (Op × Option Tmp × Option (Option Tmp × Bool))) (S : St) (k : Kn) : Prop := buildW P t parts fun v => stepsK P Q rest (S.put dst v) k
theorem stepsK_build (P : Program) (Q : Exit → St → Prop) (S : St) (k : Kn) (t : TypeId) (l : List (Nat × Operand)) (dst : Option Tmp) (rest : List (Op × Option Tmp × Option (Option Tmp × Bool))) :
    stepsK P Q ((.build t ⟨l⟩, dst, none) :: rest) S k = bldG P Q t (l.map fun p => (p.1, evalT S p.2)) dst rest S k := by
  rw [stepsK_cons]
  simp only [opW]
  rfl
theorem bldG_of {P : Program} {Q : Exit → St → Prop} {t : TypeId} {parts : List (Nat × T)} {dst : Option Tmp} {rest : List (Op × Option Tmp × Option (Option Tmp × Bool))} {S : St} {k : Kn} (l : List T) (h : buildL P t parts = some l) (hK : stepsK P Q rest (S.put dst (.agg l)) k) : bldG P Q t parts dst rest S k := buildW_of l h hK
def bsG (P : Program) (Q : Exit → St → Prop) (t : TypeId) (n : Nat) (parts : List (Nat × T)) (dst : Option Tmp) (rest : List (Op × Option Tmp × Option (Option Tmp × Bool))) (S : St) (k : Kn) : Prop := buildSliceX P S.objs.length t n parts fun v eff => stepsK P Q rest ((S.after eff).put dst v) k
theorem stepsK_bs (P : Program) (Q : Exit → St → Prop) (S : St) (k : Kn) (t : TypeId) (n : Nat) (l : List (Nat × Operand)) (dst : Option Tmp) (rest : List (Op × Option Tmp × Option (Option Tmp × Bool))) :
    stepsK P Q ((.buildSlice t n ⟨l⟩, dst, none) :: rest) S k = bsG P Q t n (l.map fun p => (p.1, evalT S p.2)) dst rest S k := by
  rw [stepsK_cons]
  simp only [opW]
  rfl
theorem bs_go {P : Program} {Q : Exit → St → Prop} {t : TypeId} {n : Nat} {parts : List (Nat × T)} {dst : Option Tmp} {rest : List (Op × Option Tmp × Option (Option Tmp × Bool))} {S : St} {k : Kn} (h : buildSliceX P S.objs.length t n parts fun v eff => stepsK P Q rest ((S.after eff).put dst v) k) : bsG P Q t n parts dst rest S k := h
theorem closedL_map {α : Type} (e : α → T) (h : ∀ x, closedT (e x) = true) : ∀ l : List α, closedL (List.map e l) = true
  | [] => rfl
  | x :: l => by rw [List.map_cons, closedL, h, closedL_map e h l]; rfl
def leE (l l' : List T) : Prop := ∀ (E : Env) (sz : Nat) (c : List Value), RepR E sz l c → RepR E sz l' c
theorem leE_refl (l : List T) : leE l l := fun _ _ _ h => h
theorem leE_cons {x y : T} {l l' : List T} (h : leT anyE x y) (h' : leE l l') : leE (x :: l) (y :: l') := fun E sz c k => by
  simp only [RepR] at k ⊢
  obtain ⟨u, c', e, h1, h2, h3⟩ := k
  exact ⟨u, c', e, h1, h E true u trivial h2, h' E sz c' h3⟩
theorem leT_slX {sz : Nat} {f : Bool} {l l' : List T} (h : leE l l') (hl : l'.length = l.length) : leT anyE (.sl sz f l) (.sl sz false l') := fun E cl v hp k => by
  simp only [Rep] at k ⊢
  obtain ⟨a, cap, c, h1, h2, h3, h4, h5⟩ := k
  exact ⟨a, cap, c, by rw [hl]; exact h1, by rw [hl]; exact h2, (fun h => by cases h), h E sz c h4, h5⟩
/-! ### A call that locks a row at the call -/
section
variable {P : Program} {Q : Exit → St → Prop} {g : FuncId} {args args' : List T} {dst : Option Tmp} {rest : List (Op × Option Tmp × Option (Option Tmp × Bool))} {S : St} {k : Kn} {r : T}
end
theorem max_right {a b : Nat} (h : a ≤ b) : max a b = b := Nat.max_eq_right h
attribute [go_sem] lockRow max_right
end Go.Proofs.YtdaojihnaajfeaaX

/- Contracts over rows of the caller's, by a run; and their use. Of no program. -/
set_option linter.unusedVariables false
set_option linter.unusedSimpArgs false
namespace Go.Proofs.YtdaojihnaajfeaaX
open Go Go.RowKit
/-! ### At a function's end -/
def lockFr (n : Nat) : Nat → List (Option Own) → List (Option Own)
  | _, [] => []
  | i, x :: l => (if i < n then x else x.map Own.lockAll) :: lockFr n (i + 1) l
theorem lockFr_get (n : Nat) : ∀ (l : List (Option Own)) (i o : Nat), (lockFr n i l)[o]? = (l[o]?).map fun x => if i + o < n then x else x.map Own.lockAll
  | [], i, o => by simp [lockFr]
  | x :: l, i, o => by
    cases o with
    | zero => simp [lockFr]
    | succ o =>
      have := lockFr_get n l (i + 1) o
      rw [show i + 1 + o = i + (o + 1) by omega] at this
      simpa [lockFr] using this
theorem Sat.lockFr {B : Base} {S : St} {a : Act} {w : World} {μ : Nat → Option Nat} (hS : Sat B S a w μ) (n : Nat) : Sat B ⟨S.tmps, Go.Proofs.YtdaojihnaajfeaaX.lockFr n 0 S.objs⟩ a w μ := by
  refine hS.relock fun i => ?_
  rw [lockFr_get, Nat.zero_add]
  cases h : S.objs[i]? with
  | none => exact .none
  | some x =>
    rw [Option.map_some]
    by_cases hi : i < n
    · rw [if_pos hi]; exact RL.refl _
    · rw [if_neg hi]
      cases x with
      | none => exact .free
      | some y =>
        cases y with
        | box t x lk => exact .box fun _ => rfl
        | buf t sz l lk => exact .buf (Nat.le_max_left _ _) (fun h => Nat.max_le.2 ⟨h, Nat.le_refl _⟩)
        | dead => exact .dead
def lookFr (n : Nat) (o : List (Option Own)) (i : Nat) : Option Own := if i < n then none else o.getD i none
theorem lookFr_some {n : Nat} {o : List (Option Own)} {i : Nat} {x : Own} (h : lookFr n o i = some x) : o[i]? = some (some x) := by
  unfold lookFr at h
  split at h
  · cases h
  · rw [List.getD_eq_getElem?_getD] at h
    cases hz : o[i]? with
    | none => rw [hz] at h; cases h
    | some z => rw [hz] at h; exact congrArg some h
def Own.snap (look : Nat → Option Own) : Own → Own
  | .box t x lk => .box t (dsnap look x) lk
  | .buf t sz l lk => .buf t sz l lk
  | .dead => .dead
theorem dsnapL_length (look : Nat → Option Own) (l : List T) : (dsnapL look l).length = l.length := by rw [dsnapL_eq]; simp
theorem cells_dsnap (look : Nat → Option Own) (x : T) : (dsnap look x).cells.length = x.cells.length := by
  cases x with
  | agg l => simp only [dsnap, T.cells, dsnapL_length]
  | rsl o sz off len =>
    rw [dsnap]; unfold Go.Proofs.YtdaojihnaajfeaaX.snap
    dsimp only
    split
    · split <;> rfl
    · rfl
  | _ => rfl
theorem Own.snap_lock (look : Nat → Option Own) (x : Own) : (x.snap look).lock = x.lock := by
  cases x <;> simp only [Own.snap, Own.lock, cells_dsnap]
theorem Own.snap_dead {look : Nat → Option Own} {x : Own} : x.snap look = .dead ↔ x = .dead := by cases x <;> simp [Own.snap]
theorem Sat.snapR {B : Base} {S : St} {a : Act} {w : World} {μ : Nat → Option Nat} (hS : Sat B S a w μ) {look : Nat → Option Own} (hl : ∀ i x, look i = some x → S.objs[i]? = some (some x)) : Sat B ⟨dsnapL look S.tmps, S.objs.map (Option.map (Own.snap look))⟩ a w μ := by
  have hget : ∀ (o : Nat) (y : Own), (S.objs.map (Option.map (Own.snap look)))[o]? = some (some y) → ∃ x, S.objs[o]? = some (some x) ∧ y = x.snap look := by
    intro o y h
    rw [List.getElem?_map] at h
    cases hz : S.objs[o]? with
    | none => rw [hz] at h; cases h
    | some z =>
      rw [hz] at h
      cases z with
      | none => cases h
      | some z =>
        have h : some (some (z.snap look)) = some (some y) := h
        injection h with h; injection h with h
        exact ⟨z, rfl, h.symm⟩
  have hst : Step [] ⟨w, μ, S.objs, B.ban⟩ ⟨w, μ, S.objs.map (Option.map (Own.snap look)), B.ban⟩ := by
    refine ⟨⟨fun b j v ⟨h1, h2, h3⟩ => ⟨h1, fun lk ⟨o, y, k1, k2, k3⟩ => ?_, h3⟩, fun b c t fr hb => ⟨c, fr, hb, rfl⟩⟩, fun o ⟨x, hx⟩ _ => ⟨x.snap look, ?_⟩, fun _ _ _ => rfl⟩
    · obtain ⟨x, e1, rfl⟩ := hget o y k1
      rw [Own.snap_lock] at k3
      exact h2 lk ⟨o, x, e1, k2, k3⟩
    · have hx : S.objs[o]? = some (some x) := hx
      show (S.objs.map _)[o]? = _
      rw [List.getElem?_map, hx]; rfl
  refine ⟨RepL.step hst (dsnapL_rep hS hl _ _ hS.tmps), hS.defers, ⟨fun o y hy => ?_, fun o o' y y' b h1 h2 hd hd' hb hb' => ?_⟩, fun o y b h1 hd hb => ?_, hS.kept⟩
  · obtain ⟨x, hx, rfl⟩ := hget o y hy
    have := hS.objs.at_ o x hx
    cases x with
    | box t x lk =>
      obtain ⟨b, fr, u, h1, h2, h3, h4, h5⟩ := this
      exact ⟨b, fr, u, h1, h2, h3, Rep.step hst (dsnap_rep hS hl _ _ h4), by rw [cells_dsnap]; exact h5⟩
    | buf t sz l lk =>
      obtain ⟨h0, h1⟩ := this
      exact ⟨h0, h1.imp id fun ⟨b, c, fr, c1, c2, h1, h2, h3, h4, h5⟩ => ⟨b, c, fr, c1, c2, h1, h2, h3, h4, RepR.stepC hst.toStepC _ _ _ h5⟩⟩
    | dead => trivial
  · obtain ⟨x, hx, rfl⟩ := hget o y h1
    obtain ⟨x', hx', rfl⟩ := hget o' y' h2
    exact hS.objs.inj o o' x x' b hx hx' (fun e => hd (Own.snap_dead.2 e)) (fun e => hd' (Own.snap_dead.2 e)) hb hb'
  · obtain ⟨x, hx, rfl⟩ := hget o y h1
    rw [Own.snap_lock]
    exact hS.fresh o x b hx (fun e => hd (Own.snap_dead.2 e)) hb
def St.fin (S : St) (n : Nat) (ts : List Nat) : St :=
  (St.keep ⟨dsnapL (lookFr n (lockFr n 0 S.objs)) S.tmps, (lockFr n 0 S.objs).map (Option.map (Own.snap (lookFr n (lockFr n 0 S.objs))))⟩ ts).cut n
theorem Sat.fin {B : Base} {S : St} {a : Act} {w : World} {μ : Nat → Option Nat} (hS : Sat B S a w μ) (n : Nat) (ts : List Nat) : Sat B (S.fin n ts) a w μ :=
  (((hS.lockFr n).snapR (look := lookFr n (Go.Proofs.YtdaojihnaajfeaaX.lockFr n 0 S.objs)) fun i x h => lookFr_some h).keep ts).cut n
def RetR (P : Program) (fn : Func) (res : T) (n : Nat) (ts : List Nat) (objs' : List (Option Own)) : Exit → St → Prop
  | .normal, S | .ret, S => leOs anyE (S.fin n ts).objs objs' ∧ resW P ⟨(S.fin n ts).tmps, objs'⟩ fn.results.toList fun l => leT anyE (retT l) res
  | _, _ => False
theorem FnR.ofW {P : Program} {f : FuncId} {fn : Func} {c : Code} {objs objs' : List (Option Own)} {args : List T} {res : T} (ts : List Nat) (hf : P.funcs[f]? = some fn) (hn : (fn.name == "runtime.NumGoroutine") = false) (hb : fn.body = some c)
    (hrows : rowsOk objs.length 0 objs = true) (hsame : sameO objs objs' = true) (hrefs : (refsCL args).all (fun o => decide (o < objs.length)) = true)
    (h : WP P c ⟨args ++ List.replicate (fn.ntmps - args.length) .junk, objs⟩ (RetR P fn res objs.length ts objs')) : FnR P f objs args res objs' := by
  refine ⟨⟨fn, hf, hn, by rw [hb]; rfl⟩, hrows, hsame, hrefs, fun B μ vs hO hOwn hv => ?_⟩
  have hlen := hv.length
  rw [Array.length_toList] at hlen
  have hS : Sat B ⟨args ++ List.replicate (fn.ntmps - args.length) .junk, objs⟩ { tmps := vs ++ Array.replicate (fn.ntmps - vs.size) undef, defers := [] } B.w μ := by
    refine ⟨?_, rfl, hO, fun o x b h1 h2 h3 => ?_, ⟨rfl, rfl, rfl, Nat.le_refl _, fun _ _ _ => rfl, fun _ _ _ _ _ => rfl, fun k lk _ c t fr h => ⟨c, fr, h, rfl⟩⟩⟩
    · have e : (vs ++ Array.replicate (fn.ntmps - vs.size) undef).toList = vs.toList ++ List.replicate (fn.ntmps - args.length) undef := by simp [hlen]
      show RepL _ _ _ (vs ++ Array.replicate (fn.ntmps - vs.size) undef).toList
      rw [e]
      refine RepL.append hv ?_
      generalize fn.ntmps - args.length = n
      induction n with
      | zero => simp [RepL]
      | succ n ih => simp only [List.replicate_succ, RepL]; exact ⟨_, _, rfl, by simp only [Rep], ih⟩
    · have h1 : objs[o]? = some (some x) := h1
      obtain ⟨l, hl⟩ : ∃ l, x.lock = some l := by cases x <;> first | exact ⟨_, rfl⟩ | exact absurd rfl h2
      exact .inr ⟨0, l, (hOwn.1 b 0).2 ⟨rfl, o, (List.getElem?_eq_some_iff.1 h1).1, h3⟩, hl, Nat.zero_le _⟩
  refine calls_of_wp hf hb (wp_mono (h B _ _ _ hS) fun e a w' ⟨S, μ1, hQ, hS'⟩ => ?_)
  have main : (leOs anyE (S.fin objs.length ts).objs objs' ∧ resW P ⟨(S.fin objs.length ts).tmps, objs'⟩ fn.results.toList fun l => leT anyE (retT l) res) → a.defers = [] ∧ ∃ v, (results fn a.tmps).run P w' = .ok v w' ∧ (∃ u μ', Ending.returned v = .returned u ∧ Objs ⟨w', μ', objs', B.ban⟩ ∧ Rep ⟨w', μ', objs', B.ban⟩ false res u ∧ Kept B w' ∧ (∀ (o : Nat) (x : Own) (b : Nat), objs'[o]? = some (some x) → x ≠ .dead → μ' o = some b → B.w.heap.size ≤ b ∨ B.own b 0)) := by
    rintro ⟨hR1, hR2⟩
    have hF : Sat B ⟨(S.fin objs.length ts).tmps, objs'⟩ a w' μ1 := (hS'.fin objs.length ts).le (p := anyE) (leL_refl _) hR1 trivial
    obtain ⟨l, us, h1, h3, h4⟩ := res_sound hF _ _ hR2
    refine ⟨hF.defers, if hh : us.toArray.size = 1 then us.toArray[0] else .tuple us.toArray, ?_, _, μ1, rfl, hF.objs, ?_, hF.kept, fun o x b k1 k2 k3 => ?_⟩
    · have hm : (fn.results.mapM (fun | .tmp t => pure (a.tmps.getD t undef) | .cell c t => do loadVar t (← asAddr (a.tmps.getD c undef)) : ResultVar → Sem Value)).run P w' = .ok us.toArray w' := by
        rw [Array.mapM_eq_mapM_toList, Sem.run_map]
        have : (fun | .tmp t => pure (a.tmps.getD t undef) | .cell c t => do loadVar t (← asAddr (a.tmps.getD c undef)) : ResultVar → Sem Value) = rdRes a.tmps := by
          funext r; cases r <;> rfl
        rw [this, h3]; rfl
      unfold results
      exact run_bind (f := fun vs : Array Value => (pure (if h : vs.size = 1 then vs[0] else Value.tuple vs) : Sem Value)) hm
    · refine h1 _ _ _ trivial ?_
      have hul := h4.length
      by_cases h1' : us.length = 1
      · obtain ⟨u, rfl⟩ := List.length_eq_one_iff.1 h1'
        obtain ⟨x, rfl⟩ := List.length_eq_one_iff.1 (hul.symm.trans h1')
        simp only [RepL] at h4
        obtain ⟨v, vs', e1, e2, e3⟩ := h4
        subst e3
        cases e1
        simpa [retT] using e2
      · rw [dif_neg (by simpa using h1')]
        have e : retT l = .tup l := by
          cases l with
          | nil => rfl
          | cons x l => cases l with
            | nil => exact absurd hul h1'
            | cons y l => rfl
        rw [e]
        simp only [Rep]
        exact ⟨_, rfl, by simpa using h4⟩
    · rcases hF.fresh o x b k1 k2 k3 with h | ⟨lk, lk', q1, _⟩
      · exact .inl h
      · have := ((hOwn.1 b lk).1 q1).1
        subst this
        exact .inr q1
  cases e with
  | normal => exact main hQ
  | ret => exact main hQ
  | _ => exact hQ.elim
theorem FnR.goX {P : Program} (hm : P.follows .mixedOrders = true) (ts : List Nat) {f : FuncId} {fn : Func} {c : Code} {objs objs' : List (Option Own)} {args : List T} {res : T} (hf : P.funcs[f]? = some fn) (hn : (fn.name == "runtime.NumGoroutine") = false) (hb : fn.body = some c)
    (hrows : rowsOk objs.length 0 objs = true) (hsame : sameO objs objs' = true) (hrefs : (refsCL args).all (fun o => decide (o < objs.length)) = true)
    (h : runX P (RetR P fn res objs.length ts objs') c ⟨args ++ List.replicate (fn.ntmps - args.length) .junk, objs⟩ .q) : FnR P f objs args res objs' := FnR.ofW ts hf hn hb hrows hsame hrefs h
section
variable {P : Program} {Q : Exit → St → Prop} {g : FuncId} {args args' : List T} {dst : Option Tmp} {rest : List (Op × Option Tmp × Option (Option Tmp × Bool))} {S : St} {k : Kn} {r : T} {objs objs' : List (Option Own)}
theorem callR_X (σ : List Nat) (h : FnR P g objs args' r objs') (hnd : σ.Nodup) (hrel : relsO σ (lookS S) σ objs) (ha : leL anyE args (renFL σ args')) (h2 : stepsK P Q rest ((S.after (.many (movesO σ objs) (newsO σ (lookS S) σ objs'))).put dst (renF σ r)) k) : callG P Q g args dst rest S k :=
  .inr (.inl ⟨σ, objs, args', r, objs', h, hnd, hrel, fun E vs hv => ha E false vs trivial hv, h2⟩)
end
/-! ### A pointer of a variable to itself, or none -/
def adT (b : Bool) (o : Nat) : T := match b with | true => .ref o 7777 0 0 | false => .imm (.pointer none)
theorem adT_refs (b : Bool) (o : Nat) : refsT (adT b o) = [] := by cases b <;> rfl
theorem adT_refsC {b : Bool} {o n : Nat} (h : o < n) : (refsC (adT b o)).all (fun q => decide (q < n)) = true := by cases b <;> simp [adT, refsC, h]
theorem adT_ren (f : List Nat) (b : Bool) (o : Nat) : renF f (adT b o) = adT b (f.getD o 0) := by cases b <;> rfl
theorem adT_kill {ks : List Nat} {b : Bool} {o : Nat} (h : ks.contains o = false) : kill ks (adT b o) = adT b o := by
  cases b
  · rfl
  · show (if ks.contains o = true then _ else _) = _
    rw [h]; rfl
theorem adT_snap (look : Nat → Option Own) (b : Bool) (o : Nat) : dsnap look (adT b o) = adT b o := by cases b <;> rfl
attribute [go_sem] adT_refs adT_refsC adT_ren adT_kill adT_snap
attribute [go_sem] lockFr lookFr Own.snap St.fin renF renFL movesO newsO newO setsO relsO relO
end Go.Proofs.YtdaojihnaajfeaaX

/- What the program's types are. -/
set_option linter.unusedVariables false
namespace Go.Proofs.YtdaojihnaajfeaaX
open Go Go.RowKit Go.Proofs
theorem small_of {P : Program} {t : TypeId} (h : ((P.info? t).all fun i => decide (i.bytes ≤ 256)) = true) : ∀ i, P.info? t = some i → i.bytes ≤ 256 := fun i hi => by
  rw [hi] at h; simpa using h
theorem mixed : Try.prog.follows .mixedOrders = true := by kernel_rfl
theorem sz3 : szOf Try.prog 3 = 1 := by kernel_rfl
theorem ok3 : okT Try.prog 3 = true := by kernel_rfl
theorem ok4 : okT Try.prog 4 = true := by kernel_rfl
theorem sz5 : szOf Try.prog 5 = 1 := by kernel_rfl
theorem ok5 : okT Try.prog 5 = true := by kernel_rfl
theorem ze5 : zeroOf Try.prog 5 = .imm (.int .u8 0) := by kernel_rfl
theorem by5 : (∀ i, Try.prog.info? 5 = some i → i.bytes ≤ 256) = True := eq_true (small_of (by kernel_rfl))
theorem sz9 : szOf Try.prog 9 = 1 := by kernel_rfl
theorem cz9 : Try.prog.cellsOf 9 = 1 := by kernel_rfl
theorem ok9 : okT Try.prog 9 = true := by kernel_rfl
theorem ze9 : zeroOf Try.prog 9 = .imm (.string ByteArray.empty) := by kernel_rfl
theorem by9 : (∀ i, Try.prog.info? 9 = some i → i.bytes ≤ 256) = True := eq_true (small_of (by kernel_rfl))
theorem ok24 : okT Try.prog 24 = true := by kernel_rfl
theorem sz39 : szOf Try.prog 39 = 2 := by kernel_rfl
theorem cz39 : Try.prog.cellsOf 39 = 2 := by kernel_rfl
theorem ok39 : okT Try.prog 39 = true := by kernel_rfl
theorem ze39 : zeroOf Try.prog 39 = .agg [.imm (.string ByteArray.empty), .imm (.string ByteArray.empty)] := by kernel_rfl
theorem by39 : (∀ i, Try.prog.info? 39 = some i → i.bytes ≤ 256) = True := eq_true (small_of (by kernel_rfl))
theorem sz41 : szOf Try.prog 41 = 2 := by kernel_rfl
theorem ok41 : okT Try.prog 41 = true := by kernel_rfl
theorem ze41 : zeroOf Try.prog 41 = .agg [.imm (.string ByteArray.empty), .imm (.string ByteArray.empty)] := by kernel_rfl
theorem by41 : (∀ i, Try.prog.info? 41 = some i → i.bytes ≤ 256) = True := eq_true (small_of (by kernel_rfl))
theorem sz48 : szOf Try.prog 48 = 1 := by kernel_rfl
theorem ok48 : okT Try.prog 48 = true := by kernel_rfl
theorem sz49 : szOf Try.prog 49 = 1 := by kernel_rfl
theorem ok49 : okT Try.prog 49 = true := by kernel_rfl
theorem ok51 : okT Try.prog 51 = true := by kernel_rfl
theorem ze51 : zeroOf Try.prog 51 = .agg [.imm (.pointer none), .sl 0 true []] := by kernel_rfl
theorem rs3 : Try.f3.results.toList = [.tmp 6] := by kernel_rfl
theorem rs4 : Try.f4.results.toList = [.tmp 2, .tmp 3] := by kernel_rfl
theorem rs5 : Try.f5.results.toList = [.tmp 4, .tmp 5] := by kernel_rfl
theorem rs6 : Try.f6.results.toList = [.tmp 4, .tmp 5] := by kernel_rfl
theorem rs7 : Try.f7.results.toList = [.tmp 8, .tmp 9] := by kernel_rfl
theorem rs8 : Try.f8.results.toList = [.tmp 8, .tmp 9] := by kernel_rfl
theorem rs9 : Try.f9.results.toList = [.tmp 2] := by kernel_rfl
theorem rs10 : Try.f10.results.toList = [.tmp 2] := by kernel_rfl
theorem rs11 : Try.f11.results.toList = [.tmp 4] := by kernel_rfl
theorem rs12 : Try.f12.results.toList = [.tmp 4] := by kernel_rfl
theorem rs13 : Try.f13.results.toList = [.tmp 4] := by kernel_rfl
theorem rs14 : Try.f14.results.toList = [.tmp 2, .tmp 3] := by kernel_rfl
theorem rs15 : Try.f15.results.toList = [.tmp 2, .tmp 3] := by kernel_rfl
theorem rs16 : Try.f16.results.toList = [.tmp 4] := by kernel_rfl
theorem rs20 : Try.f20.results.toList = [.tmp 4, .tmp 5] := by kernel_rfl
theorem rs22 : Try.f22.results.toList = [.tmp 4] := by kernel_rfl
theorem rs23 : Try.f23.results.toList = [.tmp 4] := by kernel_rfl
theorem rs24 : Try.f24.results.toList = [.tmp 4] := by kernel_rfl
theorem rs25 : Try.f25.results.toList = [.tmp 3] := by kernel_rfl
theorem rs27 : Try.f27.results.toList = [.tmp 2] := by kernel_rfl
theorem rs28 : Try.f28.results.toList = [.tmp 2] := by kernel_rfl
theorem rs29 : Try.f29.results.toList = [.tmp 3] := by kernel_rfl
theorem rs30 : Try.f30.results.toList = [.tmp 2] := by kernel_rfl
theorem rs35 : Try.f35.results.toList = [.tmp 2] := by kernel_rfl
theorem rs36 : Try.f36.results.toList = [.tmp 4] := by kernel_rfl
end Go.Proofs.YtdaojihnaajfeaaX

/- The laws that a run goes by. -/
namespace Go.Proofs.YtdaojihnaajfeaaX
open Go Go.RowKit Go.Proofs
attribute [go_sem ↓] stepsK_call drawK_call opW binXW eqW eqFs eqEs binV intW strW fieldW indexW extractW unW loadW loadP fieldAddrW indexAddrW endsW sliceW copyW arrPW buildSliceW makeW convertW storeW newsW appendW elemsW nilW lenW min2W max2W builtinW ifaceW partW getD_j16 set_j16 rootsP
attribute [go_sem] endK_q runK_region runK_draw stepsK_nil callK callE stepsK_cons drawK_nil drawK_cons rootsK_nil rootsK_cons St.keep keepL St.gc gcW deadK reachL refsT refsL refsO dropL Int.toNat_natCast St.cut List.range'_zero List.range'_succ lookS_at liteL dstsL gL St.is evalT ofVal ofVals St.after St.put St.upd
attribute [go_sem] St.eff quietE eOp effB trims trim setCells fillT fillE patchT isJunk leafT T.cells oneT RetQ resW retT St.lockAll Own.lockAll dsnap dsnapL snap closedT closedL rootsOf rootsO rootsA rootOf St.frzR St.frzB St.frzT St.frzL St.frz kill killL Own.kill aggD List.getD_cons_zero List.getD_cons_succ List.getD_nil List.set_cons_zero List.set_cons_succ List.set_nil List.flatMap_cons List.flatMap_nil List.append_nil List.nil_append List.cons_append List.map_cons List.map_nil List.filterMap_cons List.filterMap_nil List.find?_cons List.find?_nil List.getElem?_cons_zero List.getElem?_cons_succ List.getElem?_nil List.length_cons List.length_nil List.replicate
attribute [go_sem] List.contains_cons List.contains_nil List.take_zero List.drop_zero List.take_succ_cons List.drop_succ_cons List.all_cons List.all_nil List.size_toArray List.getElem?_toArray Array.toList_map List.map_toArray Option.some_beq_some Option.none_beq_some Option.some_beq_none Option.map_some Option.map_none Option.bind_some Option.bind_none Option.some.injEq ne_eq not_false_eq_true not_true_eq_false true_and and_true and_false false_and Bool.false_eq_true Bool.true_eq_false forall_const false_imp_iff true_imp_iff imp_self beq_self_eq_true or_true true_or or_false false_or if_true if_false ite_true ite_false Bool.or_true Bool.true_or Bool.and_true Bool.true_and Bool.false_or Bool.or_false Bool.false_and Bool.and_false Bool.not_true Bool.not_false decide_true decide_false Nat.lt_irrefl Nat.le_refl Nat.zero_add Nat.add_zero Nat.zero_mul Nat.mul_one
attribute [go_sem] Nat.mul_zero Nat.zero_le gt_iff_lt ge_iff_le Int.cast_ofNat_Int Option.isNone_some Option.isNone_none Option.isSome_some Option.isSome_none Nat.zero_max Nat.max_zero Nat.max_self List.take_length List.length_append List.length_map
attribute [go_sem] rs3 rs4 rs5 rs6 rs7 rs8 rs9 rs10 rs11 rs12 rs13 rs14 rs15 rs16 rs20 rs22 rs23 rs24 rs25 rs27 rs28 rs29 rs30 rs35 rs36
attribute [go_sem] Try.underlying0 Try.underlying1 Try.underlying2 Try.underlying3 sz3 ok3 Try.underlying4 ok4 Try.underlying5 sz5 ok5 ze5 by5 Try.underlying6 Try.underlying7 Try.underlying8
attribute [go_sem] Try.underlying9 sz9 cz9 ok9 ze9 by9 Try.underlying10 Try.underlying11 Try.underlying12 Try.underlying13 Try.underlying14 Try.underlying15 Try.underlying16 Try.underlying17
attribute [go_sem] Try.underlying18 Try.underlying19 Try.underlying20 Try.underlying21 Try.underlying22 Try.underlying23 Try.underlying24 ok24 Try.underlying25 Try.underlying26
attribute [go_sem] Try.underlying27 Try.underlying28 Try.underlying29 Try.underlying30 Try.underlying31 Try.underlying32 Try.underlying33 Try.underlying34 Try.underlying35 Try.underlying36 Try.underlying37 Try.underlying38 Try.underlying39 sz39 cz39 ok39 ze39 by39 Try.underlying40 Try.underlying41 sz41 ok41 ze41 by41 Try.underlying42 Try.underlying43 Try.underlying44 Try.underlying45 Try.underlying46 Try.underlying47 Try.underlying48 sz48 ok48 Try.underlying49 sz49 ok49 Try.underlying50
attribute [go_sem] Try.underlying51 ok51 ze51 Try.underlying52 Try.underlying53 Try.underlying54 Try.underlying55 Try.underlying56 Try.underlying57 Try.underlying58 Try.underlying59 Try.underlying60 Try.underlying61 Try.underlying62 Try.underlying63 Try.underlying64 Try.underlying65 Try.underlying66 Try.underlying67 Try.underlying68 Try.underlying69 Try.underlying70
attribute [go_sem] Try.underlying71 Try.underlying72 Try.underlying73 Try.underlying74 Try.underlying75 Try.underlying76 Try.underlying77 Try.underlying78 Try.underlying79 Try.underlying80 Try.underlying81 Try.underlying82 Try.underlying83 Try.underlying84 Try.underlying85 Try.underlying86 Try.underlying87 Try.underlying88 Try.underlying89 Try.underlying90 Try.underlying91
attribute [go_sem] Try.underlying92 Try.underlying93 Try.underlying94 Try.underlying95 Try.underlying96 Try.underlying97 Try.underlying98 Try.underlying99 Try.underlying100 Try.underlying101
attribute [go_sem] Try.underlying102
end Go.Proofs.YtdaojihnaajfeaaX

/- Words for what functions answer. -/
set_option linter.unusedVariables false
namespace Go.Proofs.YtdaojihnaajfeaaX
open Go Go.RowKit Go.Proofs
abbrev i64 (n : Int) : T := .imm (.int .i64 n)
abbrev u8 (n : Int) : T := .imm (.int .u8 n)
abbrev tb (b : Bool) : T := .imm (.bool b)
abbrev ts (s : ByteArray) : T := .imm (.string s)
theorem wf_of {k : IntKind} {n : Int} (h : (Lit.int k n).wf = true) : k.min ≤ n ∧ n ≤ k.max := by
  simpa [Lit.wf] using h
end Go.Proofs.YtdaojihnaajfeaaX

set_option linter.unusedVariables false
set_option linter.unusedSimpArgs false
namespace Go.Proofs.YtdaojihnaajfeaaX
open Go Go.RowKit Go.Proofs
set_option maxRecDepth 100000
def eT38 (x : (List UInt8) × (List UInt8)) : T := .agg [.imm (.string (bs x.1)), .imm (.string (bs x.2))]
theorem eT38_def (x : (List UInt8) × (List UInt8)) : eT38 x = .agg [.imm (.string (bs x.1)), .imm (.string (bs x.2))] := rfl
attribute [go_sem] eT38_def
theorem app_T38 (l : List ((List UInt8) × (List UInt8))) (y0 : List UInt8) (y1 : List UInt8) (r : List T) : List.map eT38 l ++ (T.agg [.imm (.string (bs y0)), .imm (.string (bs y1))] :: r) = List.map eT38 (l ++ [(y0, y1)]) ++ r := by simp [eT38]
attribute [go_sem] app_T38
end Go.Proofs.YtdaojihnaajfeaaX

set_option linter.unusedVariables false
set_option linter.unusedSimpArgs false
namespace Go.Proofs.YtdaojihnaajfeaaX
open Go Go.RowKit Go.Proofs
set_option maxRecDepth 100000
attribute [local go_sem ↓] stepsK_build stepsK_bs appendS
attribute [local go_sem] String.reduceEq String.reduceNe reduceCtorEq Int.reduceEq Nat.reduceAdd Nat.reduceSub Nat.reduceMul Nat.reduceLT Nat.reduceLeDiff Nat.reduceEqDiff Nat.reduceBEq Int.reduceToNat Int.reduceLT Int.reduceLE Int.reduceGT Int.reduceGE Int.reduceAdd Int.reduceSub Int.reduceMul Int.reduceNeg Int.reduceBEq Int.reduceBNe Int.reducePow Int.reduceDiv Int.reduceMod Int.reduceTDiv Int.reduceTMod Int.reduceNatCast
/-! ### shadowboxlaw29.own -/
def F4_S1 (a0 : List ((List UInt8) × (List UInt8))) (x1 : Int) (x2 : Int) (x3 : List ((List UInt8) × (List UInt8))) : St := ⟨[.sl 2 false (List.map eT38 a0), .junk, .junk, .junk, .rsl 0 2 0 x3.length, .imm (.int .i64 x1), .imm (.int .i64 x2), .junk, .junk, .junk, .junk, .junk, .junk, .junk, .junk, .junk, .junk, .junk, .junk, .junk, .junk, .junk, .junk, .junk, .junk, .junk, .junk, .junk, .junk, .junk, .junk, .junk, .junk, .junk, .junk, .junk, .junk, .junk, .junk, .junk, .junk], [some (.buf 41 2 (List.map eT38 x3) 0)]⟩
def F4_L1 : Nat → (List ((List UInt8) × (List UInt8))) → (Int) → (Int) → (List ((List UInt8) × (List UInt8))) → Option ((List ((List UInt8) × (List UInt8))) × (Bool))
 | 0, _, _, _, _ => none
 | m1 + 1, a0, x1, x2, x3 => iteB (decide (x2 < (a0.length : Int))) (grd (0 ≤ x2 ∧ x2 < (a0.length : Int)) (grd (0 ≤ x2 ∧ x2 < (a0.length : Int)) (iteB (decide ((900 : Int) < (IntKind.wrap .i64 ((IntKind.wrap .i64 ((IntKind.wrap .i64 (x1 + (10 : Int))) + (if (900 : Int) < (((a0.getD x2.toNat default).1).length : Int) then (900 : Int) else (((a0.getD x2.toNat default).1).length : Int)))) + (if (900 : Int) < (((a0.getD x2.toNat default).2).length : Int) then (900 : Int) else (((a0.getD x2.toNat default).2).length : Int)))))) (some ([], false)) (grd (0 ≤ x2 ∧ x2 < (a0.length : Int)) (grd ((x3.length + 1) ≤ 549755813888) (F4_L1 m1 a0 (IntKind.wrap .i64 ((IntKind.wrap .i64 ((IntKind.wrap .i64 (x1 + (10 : Int))) + (if (900 : Int) < (((a0.getD x2.toNat default).1).length : Int) then (900 : Int) else (((a0.getD x2.toNat default).1).length : Int)))) + (if (900 : Int) < (((a0.getD x2.toNat default).2).length : Int) then (900 : Int) else (((a0.getD x2.toNat default).2).length : Int)))) (IntKind.wrap .i64 (x2 + (1 : Int))) (x3 ++ [((a0.getD x2.toNat default).1, (a0.getD x2.toNat default).2)]))))))) (some (x3, true))
def F4 (n : Nat) (a0 : List ((List UInt8) × (List UInt8))) : Option ((List ((List UInt8) × (List UInt8))) × (Bool)) := F4_L1 n a0 (0 : Int) (0 : Int) []
set_option maxHeartbeats 4000000 in
theorem F4_ok : ∀ (n : Nat) (a0 : List ((List UInt8) × (List UInt8))) (r : (List ((List UInt8) × (List UInt8))) × (Bool)), F4 n a0 = some r → FnC Try.prog 4 [.sl 2 false (List.map eT38 a0)] (.tup [.sl 2 false (List.map eT38 r.1), .imm (.bool r.2)])
 | n, a0, r, h => by
  unfold F4 at h
  refine FnC.goX mixed Try.func4 (by kernel_rfl) rfl ?_
  simp only [Try.ntmps4, List.length_cons, List.length_nil, List.replicate, List.cons_append, List.nil_append, Nat.reduceAdd, Nat.reduceSub]
  refine runX_seq ?_
  refine runX_regionC fun C hC => ?_
  try simp -implicitDefEqProofs (maxSteps := 4000000) (disch := first | omega | decide | (simp only [go_sem]; omega)) only [go_sem, ↓reduceIte]
  repeat (with_reducible refine And.intro (by first | assumption | omega | (simp; done) | (simp; omega)) ?_)
  refine toEnd hC ?_
  refine endX_seq ?_
  refine runX_seq ?_
  refine runX_regionC fun C hC => ?_
  try simp -implicitDefEqProofs (maxSteps := 4000000) (disch := first | omega | decide | (simp only [go_sem]; omega)) only [go_sem, ↓reduceIte]
  repeat (with_reducible refine And.intro (by first | assumption | omega | (simp; done) | (simp; omega)) ?_)
  refine toEnd hC ?_
  refine endX_seq ?_
  refine runX_seq ?_
  refine runX_regionC fun C hC => ?_
  try simp -implicitDefEqProofs (maxSteps := 4000000) (disch := first | omega | decide | (simp only [go_sem]; omega)) only [go_sem, ↓reduceIte]
  repeat (with_reducible refine And.intro (by first | assumption | omega | (simp; done) | (simp; omega)) ?_)
  refine toEnd hC ?_
  refine endX_seq ?_
  refine runX_seq ?_
  refine runX_seq ?_
  refine runX_regionC fun C hC => ?_
  try simp -implicitDefEqProofs (maxSteps := 4000000) (disch := first | omega | decide | (simp only [go_sem]; omega)) only [go_sem, ↓reduceIte]
  repeat (with_reducible refine And.intro (by first | assumption | omega | (simp; done) | (simp; omega)) ?_)
  refine toEnd hC ?_
  refine endX_seq ?_
  refine runX_block ?_
  refine runX_loop [0, 4, 5, 6] (fun m S => ∃ (x1 : Int) (x2 : Int) (x3 : List ((List UInt8) × (List UInt8))), S = F4_S1 a0 x1 x2 x3 ∧ m ≤ n ∧ F4_L1 m a0 x1 x2 x3 = some r) n ⟨F4_S1 a0 (0 : Int) (0 : Int) [], ?_, (0 : Int), (0 : Int), [], rfl, Nat.le_refl _, h⟩ ?_
  ·(try simp -implicitDefEqProofs (maxSteps := 4000000) (disch := first | omega | decide | (simp only [go_sem]; omega)) only [go_sem, ↓reduceIte])
   simp only [F4_S1]
   refine leS_trans (leS_pad _ _ 1) ?_
   simp only [List.replicate, List.cons_append, List.nil_append]
   refine leS_virt 0 41 2 rfl ?_ ?_ rfl
   ·repeat (first | exact leL_refl _ | refine leL_cons (by first | exact leT_refl _ | exact leT_virt | exact leT_junk _ | exact leT_sl | exact leT_sln | exact leT_nil | (refine leT_agg (by repeat (first | exact leL_refl _ | refine leL_cons (by first | exact leT_refl _ | exact leT_sl | exact leT_sln | exact leT_nil) ?_)))) ?_)
   ·repeat (first | exact leOs_refl _ | refine leOs.cons (by first | exact leO.same _ | (refine leO.box (leT_agg (by repeat (first | exact leL_refl _ | refine leL_cons (by first | exact leT_refl _ | exact leT_virt | exact leT_junk _ | exact leT_sl | exact leT_sln | exact leT_nil | (refine leT_agg (by repeat (first | exact leL_refl _ | refine leL_cons (by first | exact leT_refl _ | exact leT_sl | exact leT_sln | exact leT_nil) ?_)))) ?_))) rfl) | (refine leO.box (by first | exact leT_virt | exact leT_sl | exact leT_sln) rfl)) ?_)
  ·clear h
   rintro m1 S ⟨x1, x2, x3, rfl, hm1, h⟩
   cases m1 with
   | zero => first | cases (show (none : Option _) = some _ from h) | (rw [F4_L1] at h; cases h)
   | succ m1 =>
    rw [F4_L1] at h
    simp only [F4_S1]
    refine runX_seq ?_
    refine runX_seq ?_
    refine runX_regionC fun C hC => ?_
    try simp -implicitDefEqProofs (maxSteps := 4000000) (disch := first | omega | decide | (simp only [go_sem]; omega)) only [go_sem, ↓reduceIte]
    repeat (with_reducible refine And.intro (by first | assumption | omega | (simp; done) | (simp; omega)) ?_)
    refine toEnd hC ?_
    refine endX_seq ?_
    rcases iteB_some h with ⟨c4, h⟩ | ⟨c4, h⟩
    ·refine runX_condT rfl c4 ?_
     refine runX_skip ?_
     refine endX_seq ?_
     refine runX_seq ?_
     refine runX_block ?_
     refine runX_seq ?_
     refine runX_drawC mixed (by kernel_rfl) fun C hC => ?_
     obtain ⟨g5, h⟩ := grd_some h
     obtain ⟨g6, h⟩ := grd_some h
     try simp -implicitDefEqProofs (maxSteps := 4000000) (disch := first | omega | decide | (simp only [go_sem]; omega)) only [go_sem, ↓reduceIte]
     repeat (with_reducible refine And.intro (by first | assumption | omega | (simp; done) | (simp; omega)) ?_)
     refine toEnd hC ?_
     refine endX_seq ?_
     refine runX_seq ?_
     refine runX_seq ?_
     refine runX_regionC fun C hC => ?_
     try simp -implicitDefEqProofs (maxSteps := 4000000) (disch := first | omega | decide | (simp only [go_sem]; omega)) only [go_sem, ↓reduceIte]
     repeat (with_reducible refine And.intro (by first | assumption | omega | (simp; done) | (simp; omega)) ?_)
     refine toEnd hC ?_
     refine endX_seq ?_
     rcases iteB_some h with ⟨c7, h⟩ | ⟨c7, h⟩
     ·refine runX_condT rfl c7 ?_
      refine runX_seq ?_
      refine runX_regionC fun C hC => ?_
      try simp -implicitDefEqProofs (maxSteps := 4000000) (disch := first | omega | decide | (simp only [go_sem]; omega)) only [go_sem, ↓reduceIte]
      repeat (with_reducible refine And.intro (by first | assumption | omega | (simp; done) | (simp; omega)) ?_)
      refine toEnd hC ?_
      refine endX_seq ?_
      refine runX_ret ?_
      refine endX_seqR ?_
      refine endX_blkR ?_
      refine endX_seqR ?_
      refine endX_q (roundQ_ret ?_)
      refine endX_blkR ?_
      refine endX_seqR ?_
      refine endX_q ?_
      obtain rfl := Option.some.inj h
      show RetW _ _ _ _ _
      simp only [RetW]
      (try simp -implicitDefEqProofs (maxSteps := 4000000) (disch := first | omega | decide | (simp only [go_sem]; omega)) only [go_sem, ↓reduceIte])
      (try simp (disch := omega) only [if_pos, Nat.sub_zero])
      first | exact leT_refl _ | (refine ⟨rfl, ?_⟩; first | exact leT_refl _ | exact leT_sl | exact leT_sln | exact leT_nil | (refine leT_tup (by repeat (first | exact leL_refl _ | refine leL_cons (by first | exact leT_refl _ | exact leT_virt | exact leT_junk _ | exact leT_sl | exact leT_sln | exact leT_nil | (refine leT_agg (by repeat (first | exact leL_refl _ | refine leL_cons (by first | exact leT_refl _ | exact leT_sl | exact leT_sln | exact leT_nil) ?_)))) ?_))) | (refine leT_agg (by repeat (first | exact leL_refl _ | refine leL_cons (by first | exact leT_refl _ | exact leT_virt | exact leT_junk _ | exact leT_sl | exact leT_sln | exact leT_nil | (refine leT_agg (by repeat (first | exact leL_refl _ | refine leL_cons (by first | exact leT_refl _ | exact leT_sl | exact leT_sln | exact leT_nil) ?_)))) ?_)))) | (first | exact leT_refl _ | exact leT_sl | exact leT_sln | exact leT_nil | (refine leT_tup (by repeat (first | exact leL_refl _ | refine leL_cons (by first | exact leT_refl _ | exact leT_virt | exact leT_junk _ | exact leT_sl | exact leT_sln | exact leT_nil | (refine leT_agg (by repeat (first | exact leL_refl _ | refine leL_cons (by first | exact leT_refl _ | exact leT_sl | exact leT_sln | exact leT_nil) ?_)))) ?_))) | (refine leT_agg (by repeat (first | exact leL_refl _ | refine leL_cons (by first | exact leT_refl _ | exact leT_virt | exact leT_junk _ | exact leT_sl | exact leT_sln | exact leT_nil | (refine leT_agg (by repeat (first | exact leL_refl _ | refine leL_cons (by first | exact leT_refl _ | exact leT_sl | exact leT_sln | exact leT_nil) ?_)))) ?_)))) | (simp only [List.append_assoc, List.cons_append, List.nil_append]; exact leT_refl _) | (rw [List.take_of_length_le (by first | (simp; done) | (simp; omega))]; (try simp only [List.append_assoc, List.cons_append, List.nil_append]); exact leT_refl _) | ((try simp (disch := first | omega | (simp; done) | (simp; omega)) only [if_pos, Nat.sub_zero, List.take_of_length_le]); (try simp only [List.append_assoc, List.cons_append, List.nil_append]); first | exact leT_refl _ | exact ⟨rfl, leT_refl _⟩)
     ·refine runX_condF rfl c7 ?_
      refine runX_skip ?_
      refine endX_seq ?_
      refine runX_regionC fun C hC => ?_
      obtain ⟨g8, h⟩ := grd_some h
      try simp -implicitDefEqProofs (maxSteps := 4000000) (disch := first | omega | decide | (simp only [go_sem]; omega)) only [go_sem, ↓reduceIte]
      repeat (with_reducible refine And.intro (by first | assumption | omega | (simp; done) | (simp; omega)) ?_)
      refine bs_go <| buildX_val ?_
      obtain ⟨g9, h⟩ := grd_some h
      try simp -implicitDefEqProofs (maxSteps := 4000000) (disch := first | omega | decide | (simp only [go_sem]; omega)) only [go_sem, ↓reduceIte]
      repeat (with_reducible refine And.intro (by first | assumption | omega | (simp; done) | (simp; omega)) ?_)
      refine toEnd hC ?_
      refine endX_blk ?_
      refine endX_seq ?_
      refine runX_regionC fun C hC => ?_
      try simp -implicitDefEqProofs (maxSteps := 4000000) (disch := first | omega | decide | (simp only [go_sem]; omega)) only [go_sem, ↓reduceIte]
      repeat (with_reducible refine And.intro (by first | assumption | omega | (simp; done) | (simp; omega)) ?_)
      refine toEnd hC ?_
      refine endX_q (roundQ_normal ⟨m1, by omega, F4_S1 a0 (IntKind.wrap .i64 ((IntKind.wrap .i64 ((IntKind.wrap .i64 (x1 + (10 : Int))) + (if (900 : Int) < (((a0.getD x2.toNat default).1).length : Int) then (900 : Int) else (((a0.getD x2.toNat default).1).length : Int)))) + (if (900 : Int) < (((a0.getD x2.toNat default).2).length : Int) then (900 : Int) else (((a0.getD x2.toNat default).2).length : Int)))) (IntKind.wrap .i64 (x2 + (1 : Int))) (x3 ++ [((a0.getD x2.toNat default).1, (a0.getD x2.toNat default).2)]), ?_, (IntKind.wrap .i64 ((IntKind.wrap .i64 ((IntKind.wrap .i64 (x1 + (10 : Int))) + (if (900 : Int) < (((a0.getD x2.toNat default).1).length : Int) then (900 : Int) else (((a0.getD x2.toNat default).1).length : Int)))) + (if (900 : Int) < (((a0.getD x2.toNat default).2).length : Int) then (900 : Int) else (((a0.getD x2.toNat default).2).length : Int)))), (IntKind.wrap .i64 (x2 + (1 : Int))), (x3 ++ [((a0.getD x2.toNat default).1, (a0.getD x2.toNat default).2)]), rfl, by omega, h⟩)
      simp only [F4_S1]
      (try simp -implicitDefEqProofs (maxSteps := 4000000) (disch := first | omega | decide | (simp only [go_sem]; omega)) only [go_sem, ↓reduceIte])
      first | exact leS_refl _ | (refine leS_le ?_ ?_ <;> first | exact leL_refl _ | exact leOs_refl _ | (simp only [List.append_assoc, List.cons_append, List.nil_append]; exact leOs_refl _) | (refine leOs.cons (by first | exact leO.same _ | (refine leO.box (leT_agg (by repeat (first | exact leL_refl _ | refine leL_cons (by first | exact leT_refl _ | exact leT_virt | exact leT_junk _ | exact leT_sl | exact leT_sln | exact leT_nil | (refine leT_agg (by repeat (first | exact leL_refl _ | refine leL_cons (by first | exact leT_refl _ | exact leT_sl | exact leT_sln | exact leT_nil) ?_)))) ?_))) rfl) | (refine leO.box (by first | exact leT_virt | exact leT_sl | exact leT_sln) rfl)) ?_; repeat (first | exact leOs_refl _ | refine leOs.cons (by first | exact leO.same _ | (refine leO.box (leT_agg (by repeat (first | exact leL_refl _ | refine leL_cons (by first | exact leT_refl _ | exact leT_virt | exact leT_junk _ | exact leT_sl | exact leT_sln | exact leT_nil | (refine leT_agg (by repeat (first | exact leL_refl _ | refine leL_cons (by first | exact leT_refl _ | exact leT_sl | exact leT_sln | exact leT_nil) ?_)))) ?_))) rfl) | (refine leO.box (by first | exact leT_virt | exact leT_sl | exact leT_sln) rfl)) ?_)) | (repeat (first | exact leL_refl _ | refine leL_cons (by first | exact leT_refl _ | exact leT_virt | exact leT_junk _ | exact leT_sl | exact leT_sln | exact leT_nil | (refine leT_agg (by repeat (first | exact leL_refl _ | refine leL_cons (by first | exact leT_refl _ | exact leT_sl | exact leT_sln | exact leT_nil) ?_)))) ?_)))
    ·refine runX_condF rfl c4 ?_
     refine runX_exit ?_
     refine endX_seqE ?_
     refine endX_q (roundQ_exit ?_)
     refine endX_blkE ?_
     refine endX_seq ?_
     refine runX_seq ?_
     refine runX_regionC fun C hC => ?_
     try simp -implicitDefEqProofs (maxSteps := 4000000) (disch := first | omega | decide | (simp only [go_sem]; omega)) only [go_sem, ↓reduceIte]
     repeat (with_reducible refine And.intro (by first | assumption | omega | (simp; done) | (simp; omega)) ?_)
     refine toEnd hC ?_
     refine endX_seq ?_
     refine runX_ret ?_
     refine endX_q ?_
     obtain rfl := Option.some.inj h
     show RetW _ _ _ _ _
     simp only [RetW]
     (try simp -implicitDefEqProofs (maxSteps := 4000000) (disch := first | omega | decide | (simp only [go_sem]; omega)) only [go_sem, ↓reduceIte])
     (try simp (disch := omega) only [if_pos, Nat.sub_zero])
     first | exact leT_refl _ | (refine ⟨rfl, ?_⟩; first | exact leT_refl _ | exact leT_sl | exact leT_sln | exact leT_nil | (refine leT_tup (by repeat (first | exact leL_refl _ | refine leL_cons (by first | exact leT_refl _ | exact leT_virt | exact leT_junk _ | exact leT_sl | exact leT_sln | exact leT_nil | (refine leT_agg (by repeat (first | exact leL_refl _ | refine leL_cons (by first | exact leT_refl _ | exact leT_sl | exact leT_sln | exact leT_nil) ?_)))) ?_))) | (refine leT_agg (by repeat (first | exact leL_refl _ | refine leL_cons (by first | exact leT_refl _ | exact leT_virt | exact leT_junk _ | exact leT_sl | exact leT_sln | exact leT_nil | (refine leT_agg (by repeat (first | exact leL_refl _ | refine leL_cons (by first | exact leT_refl _ | exact leT_sl | exact leT_sln | exact leT_nil) ?_)))) ?_)))) | (first | exact leT_refl _ | exact leT_sl | exact leT_sln | exact leT_nil | (refine leT_tup (by repeat (first | exact leL_refl _ | refine leL_cons (by first | exact leT_refl _ | exact leT_virt | exact leT_junk _ | exact leT_sl | exact leT_sln | exact leT_nil | (refine leT_agg (by repeat (first | exact leL_refl _ | refine leL_cons (by first | exact leT_refl _ | exact leT_sl | exact leT_sln | exact leT_nil) ?_)))) ?_))) | (refine leT_agg (by repeat (first | exact leL_refl _ | refine leL_cons (by first | exact leT_refl _ | exact leT_virt | exact leT_junk _ | exact leT_sl | exact leT_sln | exact leT_nil | (refine leT_agg (by repeat (first | exact leL_refl _ | refine leL_cons (by first | exact leT_refl _ | exact leT_sl | exact leT_sln | exact leT_nil) ?_)))) ?_)))) | (simp only [List.append_assoc, List.cons_append, List.nil_append]; exact leT_refl _) | (rw [List.take_of_length_le (by first | (simp; done) | (simp; omega))]; (try simp only [List.append_assoc, List.cons_append, List.nil_append]); exact leT_refl _) | ((try simp (disch := first | omega | (simp; done) | (simp; omega)) only [if_pos, Nat.sub_zero, List.take_of_length_le]); (try simp only [List.append_assoc, List.cons_append, List.nil_append]); first | exact leT_refl _ | exact ⟨rfl, leT_refl _⟩)
end Go.Proofs.YtdaojihnaajfeaaX

set_option linter.unusedVariables false
set_option linter.unusedSimpArgs false
namespace Go.Proofs.YtdaojihnaajfeaaX
open Go Go.RowKit Go.Proofs
set_option maxRecDepth 100000
attribute [local go_sem ↓] stepsK_build stepsK_bs appendS
attribute [local go_sem] String.reduceEq String.reduceNe reduceCtorEq Int.reduceEq Nat.reduceAdd Nat.reduceSub Nat.reduceMul Nat.reduceLT Nat.reduceLeDiff Nat.reduceEqDiff Nat.reduceBEq Int.reduceToNat Int.reduceLT Int.reduceLE Int.reduceGT Int.reduceGE Int.reduceAdd Int.reduceSub Int.reduceMul Int.reduceNeg Int.reduceBEq Int.reduceBNe Int.reducePow Int.reduceDiv Int.reduceMod Int.reduceTDiv Int.reduceTMod Int.reduceNatCast
/-! ### query.find$1 -/
def F25 (n : Nat) (a0 : (List UInt8) × (List UInt8)) (a1 : List UInt8) : Option ((Bool) × (List UInt8)) := some ((a0.1 == a1), a1)
set_option maxHeartbeats 4000000 in
theorem F25_ok : ∀ (n : Nat) (a0 : (List UInt8) × (List UInt8)) (a1 : List UInt8) (r : (Bool) × (List UInt8)), F25 n a0 a1 = some r → FnR Try.prog 25 [some (.box 4294967305 (.imm (.string (bs a1))) false)] [.agg [.imm (.string (bs a0.1)), .imm (.string (bs a0.2))], .ref 0 0 0 0] (.imm (.bool r.1)) [some (.box 4294967305 (.imm (.string (bs r.2))) false)]
 | n, a0, a1, r, h => by
  unfold F25 at h
  refine FnR.goX mixed [3] Try.func25 (by kernel_rfl) rfl (by simp [rowsOk, refsC, refsCL, adT_refsC, tagM]) (by simp [sameO]) (by simp [refsC, refsCL]) ?_
  simp only [Try.ntmps25, List.length_cons, List.length_nil, List.replicate, List.cons_append, List.nil_append, Nat.reduceAdd, Nat.reduceSub]
  refine runX_seq ?_
  refine runX_regionC fun C hC => ?_
  try simp -implicitDefEqProofs (maxSteps := 4000000) (disch := first | omega | decide | (simp only [go_sem]; omega)) only [go_sem, ↓reduceIte]
  repeat (with_reducible refine And.intro (by first | assumption | omega | (simp; done) | (simp; omega)) ?_)
  refine toEnd hC ?_
  refine endX_seq ?_
  refine runX_seq ?_
  refine runX_regionC fun C hC => ?_
  try simp -implicitDefEqProofs (maxSteps := 4000000) (disch := first | omega | decide | (simp only [go_sem]; omega)) only [go_sem, ↓reduceIte]
  repeat (with_reducible refine And.intro (by first | assumption | omega | (simp; done) | (simp; omega)) ?_)
  refine toEnd hC ?_
  refine endX_seq ?_
  refine runX_ret ?_
  refine endX_q ?_
  obtain rfl := Option.some.inj h
  show RetR _ _ _ _ _ _ _ _
  simp only [RetR]
  (try simp -implicitDefEqProofs (maxSteps := 4000000) (disch := first | omega | decide | (simp only [go_sem]; omega)) only [go_sem, ↓reduceIte])
  exact ⟨leOs_refl _, leT_refl _⟩
end Go.Proofs.YtdaojihnaajfeaaX

set_option linter.unusedVariables false
set_option linter.unusedSimpArgs false
namespace Go.Proofs.YtdaojihnaajfeaaX
open Go Go.RowKit Go.Proofs
set_option maxRecDepth 100000
attribute [local go_sem ↓] stepsK_build stepsK_bs appendS
attribute [local go_sem] String.reduceEq String.reduceNe reduceCtorEq Int.reduceEq Nat.reduceAdd Nat.reduceSub Nat.reduceMul Nat.reduceLT Nat.reduceLeDiff Nat.reduceEqDiff Nat.reduceBEq Int.reduceToNat Int.reduceLT Int.reduceLE Int.reduceGT Int.reduceGE Int.reduceAdd Int.reduceSub Int.reduceMul Int.reduceNeg Int.reduceBEq Int.reduceBNe Int.reducePow Int.reduceDiv Int.reduceMod Int.reduceTDiv Int.reduceTMod Int.reduceNatCast
/-! ### slices.IndexFunc[[]query.Pair,query.Pair]@query.find$1 -/
def F26000024_S1 (a0 : List ((List UInt8) × (List UInt8))) (x1 : Int) (x2 : List UInt8) : St := ⟨[.sl 2 false (List.map eT38 a0), .fn 25 [.ref 0 0 0 0], .junk, .junk, .junk, .junk, .junk, .imm (.int .i64 (a0.length : Int)), .imm (.int .i64 x1), .junk, .junk, .junk, .junk, .junk, .junk, .junk, .junk, .junk, .junk], [some (.box 4294967305 (.imm (.string (bs x2))) false)]⟩
def F26000024_L1 : Nat → (List ((List UInt8) × (List UInt8))) → (Int) → (List UInt8) → Option ((Int) × (List UInt8))
 | 0, _, _, _ => none
 | m1 + 1, a0, x1, x2 => iteB (decide (x1 < (a0.length : Int))) (grd (0 ≤ x1 ∧ x1 < (a0.length : Int)) ((F25 m1 ((a0.getD x1.toNat default).1, (a0.getD x1.toNat default).2) x2).bind fun v5 => iteB v5.1 (some (x1, v5.2)) (F26000024_L1 m1 a0 (IntKind.wrap .i64 (x1 + (1 : Int))) v5.2))) (some ((-1 : Int), x2))
def F26000024 (n : Nat) (a0 : List ((List UInt8) × (List UInt8))) (a1_0 : List UInt8) : Option ((Int) × (List UInt8)) := F26000024_L1 n a0 (0 : Int) a1_0
set_option maxHeartbeats 4000000 in
theorem F26000024_ok : ∀ (n : Nat) (a0 : List ((List UInt8) × (List UInt8))) (a1_0 : List UInt8) (r : (Int) × (List UInt8)), F26000024 n a0 a1_0 = some r → FnR Try.prog 24 [some (.box 4294967305 (.imm (.string (bs a1_0))) false)] [.sl 2 false (List.map eT38 a0), .fn 25 [.ref 0 0 0 0]] (.imm (.int .i64 r.1)) [some (.box 4294967305 (.imm (.string (bs r.2))) false)]
 | n, a0, a1_0, r, h => by
  unfold F26000024 at h
  refine FnR.goX mixed [4] Try.func24 (by kernel_rfl) rfl (by simp [rowsOk, refsC, refsCL, adT_refsC, tagM]) (by simp [sameO]) (by simp [refsC, refsCL]) ?_
  simp only [Try.ntmps24, List.length_cons, List.length_nil, List.replicate, List.cons_append, List.nil_append, Nat.reduceAdd, Nat.reduceSub]
  refine runX_seq ?_
  refine runX_regionC fun C hC => ?_
  try simp -implicitDefEqProofs (maxSteps := 4000000) (disch := first | omega | decide | (simp only [go_sem]; omega)) only [go_sem, ↓reduceIte]
  repeat (with_reducible refine And.intro (by first | assumption | omega | (simp; done) | (simp; omega)) ?_)
  refine toEnd hC ?_
  refine endX_seq ?_
  refine runX_seq ?_
  refine runX_seq ?_
  refine runX_regionC fun C hC => ?_
  try simp -implicitDefEqProofs (maxSteps := 4000000) (disch := first | omega | decide | (simp only [go_sem]; omega)) only [go_sem, ↓reduceIte]
  repeat (with_reducible refine And.intro (by first | assumption | omega | (simp; done) | (simp; omega)) ?_)
  refine toEnd hC ?_
  refine endX_seq ?_
  refine runX_block ?_
  refine runX_loop [0, 1, 7, 8] (fun m S => ∃ (x1 : Int) (x2 : List UInt8), S = F26000024_S1 a0 x1 x2 ∧ m ≤ n ∧ F26000024_L1 m a0 x1 x2 = some r) n ⟨F26000024_S1 a0 (0 : Int) a1_0, ?_, (0 : Int), a1_0, rfl, Nat.le_refl _, h⟩ ?_
  ·simp only [F26000024_S1]
   (try simp -implicitDefEqProofs (maxSteps := 4000000) (disch := first | omega | decide | (simp only [go_sem]; omega)) only [go_sem, ↓reduceIte])
   first | exact leS_refl _ | (refine leS_le ?_ ?_ <;> first | exact leL_refl _ | exact leOs_refl _ | (simp only [List.append_assoc, List.cons_append, List.nil_append]; exact leOs_refl _) | (refine leOs.cons (by first | exact leO.same _ | (refine leO.box (leT_agg (by repeat (first | exact leL_refl _ | refine leL_cons (by first | exact leT_refl _ | exact leT_virt | exact leT_junk _ | exact leT_sl | exact leT_sln | exact leT_nil | (refine leT_agg (by repeat (first | exact leL_refl _ | refine leL_cons (by first | exact leT_refl _ | exact leT_sl | exact leT_sln | exact leT_nil) ?_)))) ?_))) rfl) | (refine leO.box (by first | exact leT_virt | exact leT_sl | exact leT_sln) rfl)) ?_; repeat (first | exact leOs_refl _ | refine leOs.cons (by first | exact leO.same _ | (refine leO.box (leT_agg (by repeat (first | exact leL_refl _ | refine leL_cons (by first | exact leT_refl _ | exact leT_virt | exact leT_junk _ | exact leT_sl | exact leT_sln | exact leT_nil | (refine leT_agg (by repeat (first | exact leL_refl _ | refine leL_cons (by first | exact leT_refl _ | exact leT_sl | exact leT_sln | exact leT_nil) ?_)))) ?_))) rfl) | (refine leO.box (by first | exact leT_virt | exact leT_sl | exact leT_sln) rfl)) ?_)) | (repeat (first | exact leL_refl _ | refine leL_cons (by first | exact leT_refl _ | exact leT_virt | exact leT_junk _ | exact leT_sl | exact leT_sln | exact leT_nil | (refine leT_agg (by repeat (first | exact leL_refl _ | refine leL_cons (by first | exact leT_refl _ | exact leT_sl | exact leT_sln | exact leT_nil) ?_)))) ?_)))
  ·clear h
   rintro m1 S ⟨x1, x2, rfl, hm1, h⟩
   cases m1 with
   | zero => first | cases (show (none : Option _) = some _ from h) | (rw [F26000024_L1] at h; cases h)
   | succ m1 =>
    rw [F26000024_L1] at h
    simp only [F26000024_S1]
    refine runX_seq ?_
    refine runX_regionC fun C hC => ?_
    try simp -implicitDefEqProofs (maxSteps := 4000000) (disch := first | omega | decide | (simp only [go_sem]; omega)) only [go_sem, ↓reduceIte]
    repeat (with_reducible refine And.intro (by first | assumption | omega | (simp; done) | (simp; omega)) ?_)
    refine toEnd hC ?_
    refine endX_seq ?_
    refine runX_seq ?_
    rcases iteB_some h with ⟨c3, h⟩ | ⟨c3, h⟩
    ·refine runX_condT rfl c3 ?_
     refine runX_skip ?_
     refine endX_seq ?_
     refine runX_seq ?_
     refine runX_block ?_
     refine runX_seq ?_
     refine runX_regionC fun C hC => ?_
     try simp -implicitDefEqProofs (maxSteps := 4000000) (disch := first | omega | decide | (simp only [go_sem]; omega)) only [go_sem, ↓reduceIte]
     repeat (with_reducible refine And.intro (by first | assumption | omega | (simp; done) | (simp; omega)) ?_)
     refine toEnd hC ?_
     refine endX_seq ?_
     refine runX_seq ?_
     refine runX_regionC fun C hC => ?_
     obtain ⟨g4, h⟩ := grd_some h
     obtain ⟨v5, h5, h⟩ := bnd_some h
     try simp -implicitDefEqProofs (maxSteps := 4000000) (disch := first | omega | decide | (simp only [go_sem]; omega)) only [go_sem, ↓reduceIte]
     repeat (with_reducible refine And.intro (by first | assumption | omega | (simp; done) | (simp; omega)) ?_)
     refine callR_X [0] (F25_ok m1 ((a0.getD x1.toNat default).1, (a0.getD x1.toNat default).2) x2 _ h5) (by decide) (by (try simp -implicitDefEqProofs (maxSteps := 4000000) (disch := first | omega | decide | (simp only [go_sem]; omega)) only [go_sem, ↓reduceIte]); repeat (first | exact trivial | refine And.intro ?_ ?_ | exact fun _ => trivial | exact fun _ _ => trivial | exact fun _ _ h => h | rfl | decide)) (by (try simp -implicitDefEqProofs (maxSteps := 4000000) (disch := first | omega | decide | (simp only [go_sem]; omega)) only [go_sem, ↓reduceIte]); repeat (first | exact leL_refl _ | refine leL_cons (by first | exact leT_refl _ | exact leT_virt | exact leT_junk _ | exact leT_sl | exact leT_sln | exact leT_nil | (refine leT_agg (by repeat (first | exact leL_refl _ | refine leL_cons (by first | exact leT_refl _ | exact leT_sl | exact leT_sln | exact leT_nil) ?_)))) ?_)) ?_
     try simp -implicitDefEqProofs (maxSteps := 4000000) (disch := first | omega | decide | (simp only [go_sem]; omega)) only [go_sem, ↓reduceIte]
     repeat (with_reducible refine And.intro (by first | assumption | omega | (simp; done) | (simp; omega)) ?_)
     refine toEnd hC ?_
     refine endX_seq ?_
     rcases iteB_some h with ⟨c6, h⟩ | ⟨c6, h⟩
     ·refine runX_condT rfl c6 ?_
      refine runX_seq ?_
      refine runX_regionC fun C hC => ?_
      try simp -implicitDefEqProofs (maxSteps := 4000000) (disch := first | omega | decide | (simp only [go_sem]; omega)) only [go_sem, ↓reduceIte]
      repeat (with_reducible refine And.intro (by first | assumption | omega | (simp; done) | (simp; omega)) ?_)
      refine toEnd hC ?_
      refine endX_seq ?_
      refine runX_ret ?_
      refine endX_blkR ?_
      refine endX_seqR ?_
      refine endX_q (roundQ_ret ?_)
      refine endX_blkR ?_
      refine endX_seqR ?_
      refine endX_q ?_
      obtain rfl := Option.some.inj h
      show RetR _ _ _ _ _ _ _ _
      simp only [RetR]
      (try simp -implicitDefEqProofs (maxSteps := 4000000) (disch := first | omega | decide | (simp only [go_sem]; omega)) only [go_sem, ↓reduceIte])
      exact ⟨leOs_refl _, leT_refl _⟩
     ·refine runX_condF rfl c6 ?_
      refine runX_skip ?_
      refine endX_blk ?_
      refine endX_seq ?_
      refine runX_regionC fun C hC => ?_
      try simp -implicitDefEqProofs (maxSteps := 4000000) (disch := first | omega | decide | (simp only [go_sem]; omega)) only [go_sem, ↓reduceIte]
      repeat (with_reducible refine And.intro (by first | assumption | omega | (simp; done) | (simp; omega)) ?_)
      refine toEnd hC ?_
      refine endX_q (roundQ_normal ⟨m1, by omega, F26000024_S1 a0 (IntKind.wrap .i64 (x1 + (1 : Int))) v5.2, ?_, (IntKind.wrap .i64 (x1 + (1 : Int))), v5.2, rfl, by omega, h⟩)
      simp only [F26000024_S1]
      (try simp -implicitDefEqProofs (maxSteps := 4000000) (disch := first | omega | decide | (simp only [go_sem]; omega)) only [go_sem, ↓reduceIte])
      first | exact leS_refl _ | (refine leS_le ?_ ?_ <;> first | exact leL_refl _ | exact leOs_refl _ | (simp only [List.append_assoc, List.cons_append, List.nil_append]; exact leOs_refl _) | (refine leOs.cons (by first | exact leO.same _ | (refine leO.box (leT_agg (by repeat (first | exact leL_refl _ | refine leL_cons (by first | exact leT_refl _ | exact leT_virt | exact leT_junk _ | exact leT_sl | exact leT_sln | exact leT_nil | (refine leT_agg (by repeat (first | exact leL_refl _ | refine leL_cons (by first | exact leT_refl _ | exact leT_sl | exact leT_sln | exact leT_nil) ?_)))) ?_))) rfl) | (refine leO.box (by first | exact leT_virt | exact leT_sl | exact leT_sln) rfl)) ?_; repeat (first | exact leOs_refl _ | refine leOs.cons (by first | exact leO.same _ | (refine leO.box (leT_agg (by repeat (first | exact leL_refl _ | refine leL_cons (by first | exact leT_refl _ | exact leT_virt | exact leT_junk _ | exact leT_sl | exact leT_sln | exact leT_nil | (refine leT_agg (by repeat (first | exact leL_refl _ | refine leL_cons (by first | exact leT_refl _ | exact leT_sl | exact leT_sln | exact leT_nil) ?_)))) ?_))) rfl) | (refine leO.box (by first | exact leT_virt | exact leT_sl | exact leT_sln) rfl)) ?_)) | (repeat (first | exact leL_refl _ | refine leL_cons (by first | exact leT_refl _ | exact leT_virt | exact leT_junk _ | exact leT_sl | exact leT_sln | exact leT_nil | (refine leT_agg (by repeat (first | exact leL_refl _ | refine leL_cons (by first | exact leT_refl _ | exact leT_sl | exact leT_sln | exact leT_nil) ?_)))) ?_)))
    ·refine runX_condF rfl c3 ?_
     refine runX_exit ?_
     refine endX_seqE ?_
     refine endX_q (roundQ_exit ?_)
     refine endX_blkE ?_
     refine endX_seq ?_
     refine runX_seq ?_
     refine runX_regionC fun C hC => ?_
     try simp -implicitDefEqProofs (maxSteps := 4000000) (disch := first | omega | decide | (simp only [go_sem]; omega)) only [go_sem, ↓reduceIte]
     repeat (with_reducible refine And.intro (by first | assumption | omega | (simp; done) | (simp; omega)) ?_)
     refine toEnd hC ?_
     refine endX_seq ?_
     refine runX_ret ?_
     refine endX_q ?_
     obtain rfl := Option.some.inj h
     show RetR _ _ _ _ _ _ _ _
     simp only [RetR]
     (try simp -implicitDefEqProofs (maxSteps := 4000000) (disch := first | omega | decide | (simp only [go_sem]; omega)) only [go_sem, ↓reduceIte])
     exact ⟨leOs_refl _, leT_refl _⟩
end Go.Proofs.YtdaojihnaajfeaaX

set_option linter.unusedVariables false
set_option linter.unusedSimpArgs false
namespace Go.Proofs.YtdaojihnaajfeaaX
open Go Go.RowKit Go.Proofs
set_option maxRecDepth 100000
attribute [local go_sem ↓] stepsK_build stepsK_bs appendS
attribute [local go_sem] String.reduceEq String.reduceNe reduceCtorEq Int.reduceEq Nat.reduceAdd Nat.reduceSub Nat.reduceMul Nat.reduceLT Nat.reduceLeDiff Nat.reduceEqDiff Nat.reduceBEq Int.reduceToNat Int.reduceLT Int.reduceLE Int.reduceGT Int.reduceGE Int.reduceAdd Int.reduceSub Int.reduceMul Int.reduceNeg Int.reduceBEq Int.reduceBNe Int.reducePow Int.reduceDiv Int.reduceMod Int.reduceTDiv Int.reduceTMod Int.reduceNatCast
/-! ### query.find -/
def F13 (n : Nat) (a0 : List ((List UInt8) × (List UInt8))) (a1 : List UInt8) : Option (Int) := (F26000024 n a0 a1).bind fun v1 => some v1.1
set_option maxHeartbeats 4000000 in
theorem F13_ok : ∀ (n : Nat) (a0 : List ((List UInt8) × (List UInt8))) (a1 : List UInt8) (r : Int), F13 n a0 a1 = some r → FnC Try.prog 13 [.sl 2 false (List.map eT38 a0), .imm (.string (bs a1))] (.imm (.int .i64 r))
 | n, a0, a1, r, h => by
  unfold F13 at h
  refine FnC.goX mixed Try.func13 (by kernel_rfl) rfl ?_
  simp only [Try.ntmps13, List.length_cons, List.length_nil, List.replicate, List.cons_append, List.nil_append, Nat.reduceAdd, Nat.reduceSub]
  refine runX_seq ?_
  refine runX_regionC fun C hC => ?_
  try simp -implicitDefEqProofs (maxSteps := 4000000) (disch := first | omega | decide | (simp only [go_sem]; omega)) only [go_sem, ↓reduceIte]
  repeat (with_reducible refine And.intro (by first | assumption | omega | (simp; done) | (simp; omega)) ?_)
  refine toEnd hC ?_
  refine endX_seq ?_
  refine runX_seq ?_
  refine runX_regionC fun C hC => ?_
  obtain ⟨v1, h1, h⟩ := bnd_some h
  try simp -implicitDefEqProofs (maxSteps := 4000000) (disch := first | omega | decide | (simp only [go_sem]; omega)) only [go_sem, ↓reduceIte]
  repeat (with_reducible refine And.intro (by first | assumption | omega | (simp; done) | (simp; omega)) ?_)
  refine callR_X [0] (F26000024_ok n a0 a1 _ h1) (by decide) (by (try simp -implicitDefEqProofs (maxSteps := 4000000) (disch := first | omega | decide | (simp only [go_sem]; omega)) only [go_sem, ↓reduceIte]); repeat (first | exact trivial | refine And.intro ?_ ?_ | exact fun _ => trivial | exact fun _ _ => trivial | exact fun _ _ h => h | rfl | decide)) (by (try simp -implicitDefEqProofs (maxSteps := 4000000) (disch := first | omega | decide | (simp only [go_sem]; omega)) only [go_sem, ↓reduceIte]); repeat (first | exact leL_refl _ | refine leL_cons (by first | exact leT_refl _ | exact leT_virt | exact leT_junk _ | exact leT_sl | exact leT_sln | exact leT_nil | (refine leT_agg (by repeat (first | exact leL_refl _ | refine leL_cons (by first | exact leT_refl _ | exact leT_sl | exact leT_sln | exact leT_nil) ?_)))) ?_)) ?_
  try simp -implicitDefEqProofs (maxSteps := 4000000) (disch := first | omega | decide | (simp only [go_sem]; omega)) only [go_sem, ↓reduceIte]
  repeat (with_reducible refine And.intro (by first | assumption | omega | (simp; done) | (simp; omega)) ?_)
  refine toEnd hC ?_
  refine endX_seq ?_
  refine runX_ret ?_
  refine endX_q ?_
  obtain rfl := Option.some.inj h
  show RetW _ _ _ _ _
  simp only [RetW]
  (try simp -implicitDefEqProofs (maxSteps := 4000000) (disch := first | omega | decide | (simp only [go_sem]; omega)) only [go_sem, ↓reduceIte])
  (try simp (disch := omega) only [if_pos, Nat.sub_zero])
  exact leT_refl _
end Go.Proofs.YtdaojihnaajfeaaX

set_option linter.unusedVariables false
set_option linter.unusedSimpArgs false
namespace Go.Proofs.YtdaojihnaajfeaaX
open Go Go.RowKit Go.Proofs
set_option maxRecDepth 100000
attribute [local go_sem ↓] stepsK_build stepsK_bs appendS
attribute [local go_sem] String.reduceEq String.reduceNe reduceCtorEq Int.reduceEq Nat.reduceAdd Nat.reduceSub Nat.reduceMul Nat.reduceLT Nat.reduceLeDiff Nat.reduceEqDiff Nat.reduceBEq Int.reduceToNat Int.reduceLT Int.reduceLE Int.reduceGT Int.reduceGE Int.reduceAdd Int.reduceSub Int.reduceMul Int.reduceNeg Int.reduceBEq Int.reduceBNe Int.reducePow Int.reduceDiv Int.reduceMod Int.reduceTDiv Int.reduceTMod Int.reduceNatCast
/-! ### query.Get -/
def F5 (n : Nat) (a0 : List ((List UInt8) × (List UInt8))) (a1 : List UInt8) : Option ((List UInt8) × (Bool)) := (F13 n a0 a1).bind fun v1 => iteB (decide (v1 < (0 : Int))) (some ([], false)) (grd (0 ≤ v1 ∧ v1 < (a0.length : Int)) (some ((a0.getD v1.toNat default).2, true)))
set_option maxHeartbeats 4000000 in
theorem F5_ok : ∀ (n : Nat) (a0 : List ((List UInt8) × (List UInt8))) (a1 : List UInt8) (r : (List UInt8) × (Bool)), F5 n a0 a1 = some r → FnC Try.prog 5 [.sl 2 false (List.map eT38 a0), .imm (.string (bs a1))] (.tup [.imm (.string (bs r.1)), .imm (.bool r.2)])
 | n, a0, a1, r, h => by
  unfold F5 at h
  refine FnC.goX mixed Try.func5 (by kernel_rfl) rfl ?_
  simp only [Try.ntmps5, List.length_cons, List.length_nil, List.replicate, List.cons_append, List.nil_append, Nat.reduceAdd, Nat.reduceSub]
  refine runX_seq ?_
  refine runX_regionC fun C hC => ?_
  try simp -implicitDefEqProofs (maxSteps := 4000000) (disch := first | omega | decide | (simp only [go_sem]; omega)) only [go_sem, ↓reduceIte]
  repeat (with_reducible refine And.intro (by first | assumption | omega | (simp; done) | (simp; omega)) ?_)
  refine toEnd hC ?_
  refine endX_seq ?_
  refine runX_seq ?_
  refine runX_regionC fun C hC => ?_
  obtain ⟨v1, h1, h⟩ := bnd_some h
  try simp -implicitDefEqProofs (maxSteps := 4000000) (disch := first | omega | decide | (simp only [go_sem]; omega)) only [go_sem, ↓reduceIte]
  repeat (with_reducible refine And.intro (by first | assumption | omega | (simp; done) | (simp; omega)) ?_)
  refine callG_X (by first | rfl | (simp only [go_sem]; done) | (simp only [closedL, closedT, Bool.and_true]; exact closedL_map _ (fun _ => by first | rfl | (simp only [go_sem]; done)) _)) (F13_ok n a0 a1 _ h1) (by repeat (first | exact leL_refl _ | refine leL_cons (by first | exact leT_refl _ | exact leT_virt | exact leT_junk _ | exact leT_sl | exact leT_sln | exact leT_nil | (refine leT_agg (by repeat (first | exact leL_refl _ | refine leL_cons (by first | exact leT_refl _ | exact leT_sl | exact leT_sln | exact leT_nil) ?_)))) ?_)) ?_
  try simp -implicitDefEqProofs (maxSteps := 4000000) (disch := first | omega | decide | (simp only [go_sem]; omega)) only [go_sem, ↓reduceIte]
  repeat (with_reducible refine And.intro (by first | assumption | omega | (simp; done) | (simp; omega)) ?_)
  refine toEnd hC ?_
  refine endX_seq ?_
  refine runX_seq ?_
  refine runX_seq ?_
  refine runX_regionC fun C hC => ?_
  try simp -implicitDefEqProofs (maxSteps := 4000000) (disch := first | omega | decide | (simp only [go_sem]; omega)) only [go_sem, ↓reduceIte]
  repeat (with_reducible refine And.intro (by first | assumption | omega | (simp; done) | (simp; omega)) ?_)
  refine toEnd hC ?_
  refine endX_seq ?_
  rcases iteB_some h with ⟨c2, h⟩ | ⟨c2, h⟩
  ·refine runX_condT rfl c2 ?_
   refine runX_seq ?_
   refine runX_regionC fun C hC => ?_
   try simp -implicitDefEqProofs (maxSteps := 4000000) (disch := first | omega | decide | (simp only [go_sem]; omega)) only [go_sem, ↓reduceIte]
   repeat (with_reducible refine And.intro (by first | assumption | omega | (simp; done) | (simp; omega)) ?_)
   refine toEnd hC ?_
   refine endX_seq ?_
   refine runX_ret ?_
   refine endX_seqR ?_
   refine endX_q ?_
   obtain rfl := Option.some.inj h
   show RetW _ _ _ _ _
   simp only [RetW]
   (try simp -implicitDefEqProofs (maxSteps := 4000000) (disch := first | omega | decide | (simp only [go_sem]; omega)) only [go_sem, ↓reduceIte])
   (try simp (disch := omega) only [if_pos, Nat.sub_zero])
   exact leT_refl _
  ·refine runX_condF rfl c2 ?_
   refine runX_skip ?_
   refine endX_seq ?_
   refine runX_seq ?_
   refine runX_regionC fun C hC => ?_
   obtain ⟨g3, h⟩ := grd_some h
   try simp -implicitDefEqProofs (maxSteps := 4000000) (disch := first | omega | decide | (simp only [go_sem]; omega)) only [go_sem, ↓reduceIte]
   repeat (with_reducible refine And.intro (by first | assumption | omega | (simp; done) | (simp; omega)) ?_)
   refine toEnd hC ?_
   refine endX_seq ?_
   refine runX_ret ?_
   refine endX_q ?_
   obtain rfl := Option.some.inj h
   show RetW _ _ _ _ _
   simp only [RetW]
   (try simp -implicitDefEqProofs (maxSteps := 4000000) (disch := first | omega | decide | (simp only [go_sem]; omega)) only [go_sem, ↓reduceIte])
   (try simp (disch := omega) only [if_pos, Nat.sub_zero])
   exact leT_refl _
end Go.Proofs.YtdaojihnaajfeaaX

set_option linter.unusedVariables false
set_option linter.unusedSimpArgs false
namespace Go.Proofs.YtdaojihnaajfeaaX
open Go Go.RowKit Go.Proofs
set_option maxRecDepth 100000
attribute [local go_sem ↓] stepsK_build stepsK_bs appendS
attribute [local go_sem] String.reduceEq String.reduceNe reduceCtorEq Int.reduceEq Nat.reduceAdd Nat.reduceSub Nat.reduceMul Nat.reduceLT Nat.reduceLeDiff Nat.reduceEqDiff Nat.reduceBEq Int.reduceToNat Int.reduceLT Int.reduceLE Int.reduceGT Int.reduceGE Int.reduceAdd Int.reduceSub Int.reduceMul Int.reduceNeg Int.reduceBEq Int.reduceBNe Int.reducePow Int.reduceDiv Int.reduceMod Int.reduceTDiv Int.reduceTMod Int.reduceNatCast
/-! ### shadowboxref29.Get -/
def F6_S1 (a0 : List ((List UInt8) × (List UInt8))) (a1 : List UInt8) (x1 : Int) : St := ⟨[.sl 2 false (List.map eT38 a0), .imm (.string (bs a1)), .junk, .junk, .junk, .junk, .imm (.int .i64 x1), .junk, .junk, .junk, .junk, .junk, .junk, .junk, .junk, .junk, .junk, .junk, .junk, .junk, .junk, .junk, .junk, .junk, .junk], []⟩
def F6_L1 : Nat → (List ((List UInt8) × (List UInt8))) → (List UInt8) → (Int) → Option ((List UInt8) × (Bool))
 | 0, _, _, _ => none
 | m1 + 1, a0, a1, x1 => iteB (decide (x1 < (a0.length : Int))) (grd (0 ≤ x1 ∧ x1 < (a0.length : Int)) (iteB (((a0.getD x1.toNat default).1) == a1) (grd (0 ≤ x1 ∧ x1 < (a0.length : Int)) (some ((a0.getD x1.toNat default).2, true))) (F6_L1 m1 a0 a1 (IntKind.wrap .i64 (x1 + (1 : Int)))))) (some ([], false))
def F6 (n : Nat) (a0 : List ((List UInt8) × (List UInt8))) (a1 : List UInt8) : Option ((List UInt8) × (Bool)) := F6_L1 n a0 a1 (0 : Int)
set_option maxHeartbeats 4000000 in
theorem F6_ok : ∀ (n : Nat) (a0 : List ((List UInt8) × (List UInt8))) (a1 : List UInt8) (r : (List UInt8) × (Bool)), F6 n a0 a1 = some r → FnC Try.prog 6 [.sl 2 false (List.map eT38 a0), .imm (.string (bs a1))] (.tup [.imm (.string (bs r.1)), .imm (.bool r.2)])
 | n, a0, a1, r, h => by
  unfold F6 at h
  refine FnC.goX mixed Try.func6 (by kernel_rfl) rfl ?_
  simp only [Try.ntmps6, List.length_cons, List.length_nil, List.replicate, List.cons_append, List.nil_append, Nat.reduceAdd, Nat.reduceSub]
  refine runX_seq ?_
  refine runX_regionC fun C hC => ?_
  try simp -implicitDefEqProofs (maxSteps := 4000000) (disch := first | omega | decide | (simp only [go_sem]; omega)) only [go_sem, ↓reduceIte]
  repeat (with_reducible refine And.intro (by first | assumption | omega | (simp; done) | (simp; omega)) ?_)
  refine toEnd hC ?_
  refine endX_seq ?_
  refine runX_seq ?_
  refine runX_seq ?_
  refine runX_regionC fun C hC => ?_
  try simp -implicitDefEqProofs (maxSteps := 4000000) (disch := first | omega | decide | (simp only [go_sem]; omega)) only [go_sem, ↓reduceIte]
  repeat (with_reducible refine And.intro (by first | assumption | omega | (simp; done) | (simp; omega)) ?_)
  refine toEnd hC ?_
  refine endX_seq ?_
  refine runX_block ?_
  refine runX_loop [0, 1, 6] (fun m S => ∃ (x1 : Int), S = F6_S1 a0 a1 x1 ∧ m ≤ n ∧ F6_L1 m a0 a1 x1 = some r) n ⟨F6_S1 a0 a1 (0 : Int), ?_, (0 : Int), rfl, Nat.le_refl _, h⟩ ?_
  ·simp only [F6_S1]
   (try simp -implicitDefEqProofs (maxSteps := 4000000) (disch := first | omega | decide | (simp only [go_sem]; omega)) only [go_sem, ↓reduceIte])
   first | exact leS_refl _ | (refine leS_le ?_ ?_ <;> first | exact leL_refl _ | exact leOs_refl _ | (simp only [List.append_assoc, List.cons_append, List.nil_append]; exact leOs_refl _) | (refine leOs.cons (by first | exact leO.same _ | (refine leO.box (leT_agg (by repeat (first | exact leL_refl _ | refine leL_cons (by first | exact leT_refl _ | exact leT_virt | exact leT_junk _ | exact leT_sl | exact leT_sln | exact leT_nil | (refine leT_agg (by repeat (first | exact leL_refl _ | refine leL_cons (by first | exact leT_refl _ | exact leT_sl | exact leT_sln | exact leT_nil) ?_)))) ?_))) rfl) | (refine leO.box (by first | exact leT_virt | exact leT_sl | exact leT_sln) rfl)) ?_; repeat (first | exact leOs_refl _ | refine leOs.cons (by first | exact leO.same _ | (refine leO.box (leT_agg (by repeat (first | exact leL_refl _ | refine leL_cons (by first | exact leT_refl _ | exact leT_virt | exact leT_junk _ | exact leT_sl | exact leT_sln | exact leT_nil | (refine leT_agg (by repeat (first | exact leL_refl _ | refine leL_cons (by first | exact leT_refl _ | exact leT_sl | exact leT_sln | exact leT_nil) ?_)))) ?_))) rfl) | (refine leO.box (by first | exact leT_virt | exact leT_sl | exact leT_sln) rfl)) ?_)) | (repeat (first | exact leL_refl _ | refine leL_cons (by first | exact leT_refl _ | exact leT_virt | exact leT_junk _ | exact leT_sl | exact leT_sln | exact leT_nil | (refine leT_agg (by repeat (first | exact leL_refl _ | refine leL_cons (by first | exact leT_refl _ | exact leT_sl | exact leT_sln | exact leT_nil) ?_)))) ?_)))
  ·clear h
   rintro m1 S ⟨x1, rfl, hm1, h⟩
   cases m1 with
   | zero => first | cases (show (none : Option _) = some _ from h) | (rw [F6_L1] at h; cases h)
   | succ m1 =>
    rw [F6_L1] at h
    simp only [F6_S1]
    refine runX_seq ?_
    refine runX_seq ?_
    refine runX_regionC fun C hC => ?_
    try simp -implicitDefEqProofs (maxSteps := 4000000) (disch := first | omega | decide | (simp only [go_sem]; omega)) only [go_sem, ↓reduceIte]
    repeat (with_reducible refine And.intro (by first | assumption | omega | (simp; done) | (simp; omega)) ?_)
    refine toEnd hC ?_
    refine endX_seq ?_
    rcases iteB_some h with ⟨c2, h⟩ | ⟨c2, h⟩
    ·refine runX_condT rfl c2 ?_
     refine runX_skip ?_
     refine endX_seq ?_
     refine runX_seq ?_
     refine runX_block ?_
     refine runX_seq ?_
     refine runX_regionC fun C hC => ?_
     obtain ⟨g3, h⟩ := grd_some h
     try simp -implicitDefEqProofs (maxSteps := 4000000) (disch := first | omega | decide | (simp only [go_sem]; omega)) only [go_sem, ↓reduceIte]
     repeat (with_reducible refine And.intro (by first | assumption | omega | (simp; done) | (simp; omega)) ?_)
     refine toEnd hC ?_
     refine endX_seq ?_
     rcases iteB_some h with ⟨c4, h⟩ | ⟨c4, h⟩
     ·refine runX_condT rfl c4 ?_
      refine runX_seq ?_
      refine runX_regionC fun C hC => ?_
      obtain ⟨g5, h⟩ := grd_some h
      try simp -implicitDefEqProofs (maxSteps := 4000000) (disch := first | omega | decide | (simp only [go_sem]; omega)) only [go_sem, ↓reduceIte]
      repeat (with_reducible refine And.intro (by first | assumption | omega | (simp; done) | (simp; omega)) ?_)
      refine toEnd hC ?_
      refine endX_seq ?_
      refine runX_ret ?_
      refine endX_blkR ?_
      refine endX_seqR ?_
      refine endX_q (roundQ_ret ?_)
      refine endX_blkR ?_
      refine endX_seqR ?_
      refine endX_q ?_
      obtain rfl := Option.some.inj h
      show RetW _ _ _ _ _
      simp only [RetW]
      (try simp -implicitDefEqProofs (maxSteps := 4000000) (disch := first | omega | decide | (simp only [go_sem]; omega)) only [go_sem, ↓reduceIte])
      (try simp (disch := omega) only [if_pos, Nat.sub_zero])
      exact leT_refl _
     ·refine runX_condF rfl c4 ?_
      refine runX_skip ?_
      refine endX_blk ?_
      refine endX_seq ?_
      refine runX_regionC fun C hC => ?_
      try simp -implicitDefEqProofs (maxSteps := 4000000) (disch := first | omega | decide | (simp only [go_sem]; omega)) only [go_sem, ↓reduceIte]
      repeat (with_reducible refine And.intro (by first | assumption | omega | (simp; done) | (simp; omega)) ?_)
      refine toEnd hC ?_
      refine endX_q (roundQ_normal ⟨m1, by omega, F6_S1 a0 a1 (IntKind.wrap .i64 (x1 + (1 : Int))), ?_, (IntKind.wrap .i64 (x1 + (1 : Int))), rfl, by omega, h⟩)
      simp only [F6_S1]
      (try simp -implicitDefEqProofs (maxSteps := 4000000) (disch := first | omega | decide | (simp only [go_sem]; omega)) only [go_sem, ↓reduceIte])
      first | exact leS_refl _ | (refine leS_le ?_ ?_ <;> first | exact leL_refl _ | exact leOs_refl _ | (simp only [List.append_assoc, List.cons_append, List.nil_append]; exact leOs_refl _) | (refine leOs.cons (by first | exact leO.same _ | (refine leO.box (leT_agg (by repeat (first | exact leL_refl _ | refine leL_cons (by first | exact leT_refl _ | exact leT_virt | exact leT_junk _ | exact leT_sl | exact leT_sln | exact leT_nil | (refine leT_agg (by repeat (first | exact leL_refl _ | refine leL_cons (by first | exact leT_refl _ | exact leT_sl | exact leT_sln | exact leT_nil) ?_)))) ?_))) rfl) | (refine leO.box (by first | exact leT_virt | exact leT_sl | exact leT_sln) rfl)) ?_; repeat (first | exact leOs_refl _ | refine leOs.cons (by first | exact leO.same _ | (refine leO.box (leT_agg (by repeat (first | exact leL_refl _ | refine leL_cons (by first | exact leT_refl _ | exact leT_virt | exact leT_junk _ | exact leT_sl | exact leT_sln | exact leT_nil | (refine leT_agg (by repeat (first | exact leL_refl _ | refine leL_cons (by first | exact leT_refl _ | exact leT_sl | exact leT_sln | exact leT_nil) ?_)))) ?_))) rfl) | (refine leO.box (by first | exact leT_virt | exact leT_sl | exact leT_sln) rfl)) ?_)) | (repeat (first | exact leL_refl _ | refine leL_cons (by first | exact leT_refl _ | exact leT_virt | exact leT_junk _ | exact leT_sl | exact leT_sln | exact leT_nil | (refine leT_agg (by repeat (first | exact leL_refl _ | refine leL_cons (by first | exact leT_refl _ | exact leT_sl | exact leT_sln | exact leT_nil) ?_)))) ?_)))
    ·refine runX_condF rfl c2 ?_
     refine runX_exit ?_
     refine endX_seqE ?_
     refine endX_q (roundQ_exit ?_)
     refine endX_blkE ?_
     refine endX_seq ?_
     refine runX_seq ?_
     refine runX_regionC fun C hC => ?_
     try simp -implicitDefEqProofs (maxSteps := 4000000) (disch := first | omega | decide | (simp only [go_sem]; omega)) only [go_sem, ↓reduceIte]
     repeat (with_reducible refine And.intro (by first | assumption | omega | (simp; done) | (simp; omega)) ?_)
     refine toEnd hC ?_
     refine endX_seq ?_
     refine runX_ret ?_
     refine endX_q ?_
     obtain rfl := Option.some.inj h
     show RetW _ _ _ _ _
     simp only [RetW]
     (try simp -implicitDefEqProofs (maxSteps := 4000000) (disch := first | omega | decide | (simp only [go_sem]; omega)) only [go_sem, ↓reduceIte])
     (try simp (disch := omega) only [if_pos, Nat.sub_zero])
     exact leT_refl _
end Go.Proofs.YtdaojihnaajfeaaX

set_option linter.unusedVariables false
set_option linter.unusedSimpArgs false
namespace Go.Proofs.YtdaojihnaajfeaaX
open Go Go.RowKit Go.Proofs
set_option maxRecDepth 100000
/-! ### hex.Kind: by hand (an inner function that sees the byte through a place of the caller's own) -/
def kindOf (c : Int) : Int := if 48 ≤ c ∧ c ≤ 57 then 1 else if 97 ≤ c ∧ c ≤ 102 then 2 else if 103 ≤ c ∧ c ≤ 122 then 3 else if 65 ≤ c ∧ c ≤ 90 then 4 else 0
def F26 (n : Nat) (a0 : Int) : Option Int := some (kindOf a0)
set_option maxHeartbeats 2000000 in
theorem kind_inside (a b c : Int) (p : Addr) (w : World) (hc : w.cell? p = some (.int .u8 c)) :
  Calls Try.prog 37 #[.int .u8 a, .int .u8 b, .pointer (some p)] w fun e w' => e = .returned (.bool (decide (a ≤ c ∧ c ≤ b))) ∧ w' = w := by
 by_cases h1 : a ≤ c
 ·have h1b : decide (a ≤ c) = true := decide_eq_true h1
  go_enter Try.func37, Try.ntmps37
  go_wp2
  go_ret
  exact ⟨by simp [h1], rfl⟩
 ·have h1b : decide (a ≤ c) = false := decide_eq_false h1
  go_enter Try.func37, Try.ntmps37
  go_wp2
  go_ret
  exact ⟨by simp [h1], rfl⟩
set_option maxHeartbeats 4000000 in
theorem kind_calls (a0 : Int) (w : World) :
  Calls Try.prog 26 #[.int .u8 a0] w fun e w' => e = .returned (.int .i64 (kindOf a0)) ∧ Below w.heap.size w w' := by
 have hmf : ∀ (fn : Fn) (first cap : Array Value) (w : World), (Instr.makeFunc fn first cap).run Try.prog w = .ok (.func fn first cap) w := fun _ _ _ _ => rfl
 go_enter Try.func26, Try.ntmps26
 go_wp2_with (go_at_call 37; refine (kind_inside _ _ a0 _ _ (by simp)).mono ?_; rintro e w' ⟨rfl, rfl⟩)
 all_goals (go_ret; exact ⟨by unfold kindOf; (repeat (first | rw [if_pos (by omega)] | rw [if_neg (by omega)])); rfl, (Below.refl _ _).alloc (Nat.le_refl _) _⟩)
theorem F26_ok (n : Nat) (a0 : Int) (r : Int) (h : F26 n a0 = some r) : FnC Try.prog 26 [.imm (.int .u8 a0)] (.imm (.int .i64 r)) := by
 obtain rfl := Option.some.inj h
 refine ⟨⟨Try.f26, Try.func26, by kernel_rfl, rfl⟩, fun w ban vs hban hgi hv => ?_⟩
 have e : vs = #[.int .u8 a0] := by
  obtain ⟨l⟩ := vs
  simp only [RepL, Rep] at hv
  obtain ⟨u, us, h1, h2, h3⟩ := hv
  simp_all [Lit.value]
 rw [e]
 refine (kind_calls a0 w).mono ?_
 rintro e w' ⟨rfl, hb⟩
 exact ⟨_, rfl, hb, by simp only [Rep]; exact ⟨trivial, rfl⟩⟩
end Go.Proofs.YtdaojihnaajfeaaX

set_option linter.unusedVariables false
set_option linter.unusedSimpArgs false
namespace Go.Proofs.YtdaojihnaajfeaaX
open Go Go.RowKit Go.Proofs
set_option maxRecDepth 100000
attribute [local go_sem ↓] stepsK_build stepsK_bs appendS
attribute [local go_sem] String.reduceEq String.reduceNe reduceCtorEq Int.reduceEq Nat.reduceAdd Nat.reduceSub Nat.reduceMul Nat.reduceLT Nat.reduceLeDiff Nat.reduceEqDiff Nat.reduceBEq Int.reduceToNat Int.reduceLT Int.reduceLE Int.reduceGT Int.reduceGE Int.reduceAdd Int.reduceSub Int.reduceMul Int.reduceNeg Int.reduceBEq Int.reduceBNe Int.reducePow Int.reduceDiv Int.reduceMod Int.reduceTDiv Int.reduceTMod Int.reduceNatCast
/-! ### hex.ReadDecimal -/
def F14_S1 (a0 : List UInt8) (x3 : Int) (x4 : Int) : St := ⟨[.imm (.string (bs a0)), .junk, .junk, .junk, .imm (.int .i64 x3), .junk, .junk, .junk, .junk, .junk, .junk, .junk, .junk, .junk, .imm (.int .i64 (a0.length : Int)), .imm (.int .i64 x4), .junk, .junk, .junk, .junk, .junk, .junk, .junk, .junk, .junk, .junk, .junk, .junk, .junk, .junk, .junk, .junk, .junk], []⟩
def F14_L1 : Nat → (List UInt8) → (Int) → (Int) → Option ((Int) × (Bool))
 | 0, _, _, _ => none
 | m1 + 1, a0, x3, x4 => iteB (decide (x4 < (a0.length : Int))) (grd (0 ≤ x4 ∧ x4 < (a0.length : Int)) ((F26 m1 ((a0.getD x4.toNat 0).toNat : Int)).bind fun v7 => iteB (v7 != (1 : Int)) (some ((0 : Int), false)) (grd (0 ≤ x4 ∧ x4 < (a0.length : Int)) (F14_L1 m1 a0 (IntKind.wrap .i64 ((IntKind.wrap .i64 (x3 * (10 : Int))) + (IntKind.wrap .i64 ((IntKind.wrap .u8 (((a0.getD x4.toNat 0).toNat : Int) - (48 : Int))))))) (IntKind.wrap .i64 (x4 + (1 : Int))))))) (some (x3, true))
def F14 (n : Nat) (a0 : List UInt8) : Option ((Int) × (Bool)) := iteB (a0 == []) (some ((0 : Int), false)) (iteB (decide ((18 : Int) < (a0.length : Int))) (some ((0 : Int), false)) (F14_L1 n a0 (0 : Int) (0 : Int)))
set_option maxHeartbeats 4000000 in
theorem F14_ok : ∀ (n : Nat) (a0 : List UInt8) (r : (Int) × (Bool)), F14 n a0 = some r → FnC Try.prog 14 [.imm (.string (bs a0))] (.tup [.imm (.int .i64 r.1), .imm (.bool r.2)])
 | n, a0, r, h => by
  unfold F14 at h
  refine FnC.goX mixed Try.func14 (by kernel_rfl) rfl ?_
  simp only [Try.ntmps14, List.length_cons, List.length_nil, List.replicate, List.cons_append, List.nil_append, Nat.reduceAdd, Nat.reduceSub]
  refine runX_seq ?_
  refine runX_regionC fun C hC => ?_
  try simp -implicitDefEqProofs (maxSteps := 4000000) (disch := first | omega | decide | (simp only [go_sem]; omega)) only [go_sem, ↓reduceIte]
  repeat (with_reducible refine And.intro (by first | assumption | omega | (simp; done) | (simp; omega)) ?_)
  refine toEnd hC ?_
  refine endX_seq ?_
  refine runX_seq ?_
  refine runX_seq ?_
  refine runX_regionC fun C hC => ?_
  try simp -implicitDefEqProofs (maxSteps := 4000000) (disch := first | omega | decide | (simp only [go_sem]; omega)) only [go_sem, ↓reduceIte]
  repeat (with_reducible refine And.intro (by first | assumption | omega | (simp; done) | (simp; omega)) ?_)
  rcases iteB_some h with ⟨c1, h⟩ | ⟨c1, h⟩
  ·refine guardK_F c1 ?_
   try simp -implicitDefEqProofs (maxSteps := 4000000) (disch := first | omega | decide | (simp only [go_sem]; omega)) only [go_sem, ↓reduceIte]
   repeat (with_reducible refine And.intro (by first | assumption | omega | (simp; done) | (simp; omega)) ?_)
   refine toEnd hC ?_
   refine endX_seq ?_
   refine runX_condT rfl rfl ?_
   refine runX_seq ?_
   refine runX_regionC fun C hC => ?_
   try simp -implicitDefEqProofs (maxSteps := 4000000) (disch := first | omega | decide | (simp only [go_sem]; omega)) only [go_sem, ↓reduceIte]
   repeat (with_reducible refine And.intro (by first | assumption | omega | (simp; done) | (simp; omega)) ?_)
   refine toEnd hC ?_
   refine endX_seq ?_
   refine runX_ret ?_
   refine endX_seqR ?_
   refine endX_q ?_
   obtain rfl := Option.some.inj h
   show RetW _ _ _ _ _
   simp only [RetW]
   (try simp -implicitDefEqProofs (maxSteps := 4000000) (disch := first | omega | decide | (simp only [go_sem]; omega)) only [go_sem, ↓reduceIte])
   (try simp (disch := omega) only [if_pos, Nat.sub_zero])
   exact leT_refl _
  ·refine guardK_T c1 ?_
   try simp -implicitDefEqProofs (maxSteps := 4000000) (disch := first | omega | decide | (simp only [go_sem]; omega)) only [go_sem, ↓reduceIte]
   repeat (with_reducible refine And.intro (by first | assumption | omega | (simp; done) | (simp; omega)) ?_)
   refine toEnd hC ?_
   refine endX_seq ?_
   rcases iteB_some h with ⟨c2, h⟩ | ⟨c2, h⟩
   ·refine runX_condT rfl c2 ?_
    refine runX_seq ?_
    refine runX_regionC fun C hC => ?_
    try simp -implicitDefEqProofs (maxSteps := 4000000) (disch := first | omega | decide | (simp only [go_sem]; omega)) only [go_sem, ↓reduceIte]
    repeat (with_reducible refine And.intro (by first | assumption | omega | (simp; done) | (simp; omega)) ?_)
    refine toEnd hC ?_
    refine endX_seq ?_
    refine runX_ret ?_
    refine endX_seqR ?_
    refine endX_q ?_
    obtain rfl := Option.some.inj h
    show RetW _ _ _ _ _
    simp only [RetW]
    (try simp -implicitDefEqProofs (maxSteps := 4000000) (disch := first | omega | decide | (simp only [go_sem]; omega)) only [go_sem, ↓reduceIte])
    (try simp (disch := omega) only [if_pos, Nat.sub_zero])
    exact leT_refl _
   ·refine runX_condF rfl c2 ?_
    refine runX_skip ?_
    refine endX_seq ?_
    refine runX_seq ?_
    refine runX_regionC fun C hC => ?_
    try simp -implicitDefEqProofs (maxSteps := 4000000) (disch := first | omega | decide | (simp only [go_sem]; omega)) only [go_sem, ↓reduceIte]
    repeat (with_reducible refine And.intro (by first | assumption | omega | (simp; done) | (simp; omega)) ?_)
    refine toEnd hC ?_
    refine endX_seq ?_
    refine runX_seq ?_
    refine runX_seq ?_
    refine runX_regionC fun C hC => ?_
    try simp -implicitDefEqProofs (maxSteps := 4000000) (disch := first | omega | decide | (simp only [go_sem]; omega)) only [go_sem, ↓reduceIte]
    repeat (with_reducible refine And.intro (by first | assumption | omega | (simp; done) | (simp; omega)) ?_)
    refine toEnd hC ?_
    refine endX_seq ?_
    refine runX_block ?_
    refine runX_loop [0, 4, 14, 15] (fun m S => ∃ (x3 : Int) (x4 : Int), S = F14_S1 a0 x3 x4 ∧ m ≤ n ∧ F14_L1 m a0 x3 x4 = some r) n ⟨F14_S1 a0 (0 : Int) (0 : Int), ?_, (0 : Int), (0 : Int), rfl, Nat.le_refl _, h⟩ ?_
    ·simp only [F14_S1]
     (try simp -implicitDefEqProofs (maxSteps := 4000000) (disch := first | omega | decide | (simp only [go_sem]; omega)) only [go_sem, ↓reduceIte])
     first | exact leS_refl _ | (refine leS_le ?_ ?_ <;> first | exact leL_refl _ | exact leOs_refl _ | (simp only [List.append_assoc, List.cons_append, List.nil_append]; exact leOs_refl _) | (refine leOs.cons (by first | exact leO.same _ | (refine leO.box (leT_agg (by repeat (first | exact leL_refl _ | refine leL_cons (by first | exact leT_refl _ | exact leT_virt | exact leT_junk _ | exact leT_sl | exact leT_sln | exact leT_nil | (refine leT_agg (by repeat (first | exact leL_refl _ | refine leL_cons (by first | exact leT_refl _ | exact leT_sl | exact leT_sln | exact leT_nil) ?_)))) ?_))) rfl) | (refine leO.box (by first | exact leT_virt | exact leT_sl | exact leT_sln) rfl)) ?_; repeat (first | exact leOs_refl _ | refine leOs.cons (by first | exact leO.same _ | (refine leO.box (leT_agg (by repeat (first | exact leL_refl _ | refine leL_cons (by first | exact leT_refl _ | exact leT_virt | exact leT_junk _ | exact leT_sl | exact leT_sln | exact leT_nil | (refine leT_agg (by repeat (first | exact leL_refl _ | refine leL_cons (by first | exact leT_refl _ | exact leT_sl | exact leT_sln | exact leT_nil) ?_)))) ?_))) rfl) | (refine leO.box (by first | exact leT_virt | exact leT_sl | exact leT_sln) rfl)) ?_)) | (repeat (first | exact leL_refl _ | refine leL_cons (by first | exact leT_refl _ | exact leT_virt | exact leT_junk _ | exact leT_sl | exact leT_sln | exact leT_nil | (refine leT_agg (by repeat (first | exact leL_refl _ | refine leL_cons (by first | exact leT_refl _ | exact leT_sl | exact leT_sln | exact leT_nil) ?_)))) ?_)))
    ·clear h
     rintro m1 S ⟨x3, x4, rfl, hm1, h⟩
     cases m1 with
     | zero => first | cases (show (none : Option _) = some _ from h) | (rw [F14_L1] at h; cases h)
     | succ m1 =>
      rw [F14_L1] at h
      simp only [F14_S1]
      refine runX_seq ?_
      refine runX_regionC fun C hC => ?_
      try simp -implicitDefEqProofs (maxSteps := 4000000) (disch := first | omega | decide | (simp only [go_sem]; omega)) only [go_sem, ↓reduceIte]
      repeat (with_reducible refine And.intro (by first | assumption | omega | (simp; done) | (simp; omega)) ?_)
      refine toEnd hC ?_
      refine endX_seq ?_
      refine runX_seq ?_
      rcases iteB_some h with ⟨c5, h⟩ | ⟨c5, h⟩
      ·refine runX_condT rfl c5 ?_
       refine runX_skip ?_
       refine endX_seq ?_
       refine runX_seq ?_
       refine runX_block ?_
       refine runX_seq ?_
       refine runX_regionC fun C hC => ?_
       try simp -implicitDefEqProofs (maxSteps := 4000000) (disch := first | omega | decide | (simp only [go_sem]; omega)) only [go_sem, ↓reduceIte]
       repeat (with_reducible refine And.intro (by first | assumption | omega | (simp; done) | (simp; omega)) ?_)
       refine toEnd hC ?_
       refine endX_seq ?_
       refine runX_seq ?_
       refine runX_seq ?_
       refine runX_regionC fun C hC => ?_
       obtain ⟨g6, h⟩ := grd_some h
       obtain ⟨v7, h7, h⟩ := bnd_some h
       try simp -implicitDefEqProofs (maxSteps := 4000000) (disch := first | omega | decide | (simp only [go_sem]; omega)) only [go_sem, ↓reduceIte]
       repeat (with_reducible refine And.intro (by first | assumption | omega | (simp; done) | (simp; omega)) ?_)
       refine callG_X (by first | rfl | (simp only [go_sem]; done) | (simp only [closedL, closedT, Bool.and_true]; exact closedL_map _ (fun _ => by first | rfl | (simp only [go_sem]; done)) _)) (F26_ok m1 ((a0.getD x4.toNat 0).toNat : Int) _ h7) (by repeat (first | exact leL_refl _ | refine leL_cons (by first | exact leT_refl _ | exact leT_virt | exact leT_junk _ | exact leT_sl | exact leT_sln | exact leT_nil | (refine leT_agg (by repeat (first | exact leL_refl _ | refine leL_cons (by first | exact leT_refl _ | exact leT_sl | exact leT_sln | exact leT_nil) ?_)))) ?_)) ?_
       try simp -implicitDefEqProofs (maxSteps := 4000000) (disch := first | omega | decide | (simp only [go_sem]; omega)) only [go_sem, ↓reduceIte]
       repeat (with_reducible refine And.intro (by first | assumption | omega | (simp; done) | (simp; omega)) ?_)
       refine toEnd hC ?_
       refine endX_seq ?_
       rcases iteB_some h with ⟨c8, h⟩ | ⟨c8, h⟩
       ·refine runX_condT rfl c8 ?_
        refine runX_seq ?_
        refine runX_regionC fun C hC => ?_
        try simp -implicitDefEqProofs (maxSteps := 4000000) (disch := first | omega | decide | (simp only [go_sem]; omega)) only [go_sem, ↓reduceIte]
        repeat (with_reducible refine And.intro (by first | assumption | omega | (simp; done) | (simp; omega)) ?_)
        refine toEnd hC ?_
        refine endX_seq ?_
        refine runX_ret ?_
        refine endX_seqR ?_
        refine endX_blkR ?_
        refine endX_seqR ?_
        refine endX_q (roundQ_ret ?_)
        refine endX_blkR ?_
        refine endX_seqR ?_
        refine endX_q ?_
        obtain rfl := Option.some.inj h
        show RetW _ _ _ _ _
        simp only [RetW]
        (try simp -implicitDefEqProofs (maxSteps := 4000000) (disch := first | omega | decide | (simp only [go_sem]; omega)) only [go_sem, ↓reduceIte])
        (try simp (disch := omega) only [if_pos, Nat.sub_zero])
        exact leT_refl _
       ·refine runX_condF rfl c8 ?_
        refine runX_skip ?_
        refine endX_seq ?_
        refine runX_regionC fun C hC => ?_
        obtain ⟨g9, h⟩ := grd_some h
        try simp -implicitDefEqProofs (maxSteps := 4000000) (disch := first | omega | decide | (simp only [go_sem]; omega)) only [go_sem, ↓reduceIte]
        repeat (with_reducible refine And.intro (by first | assumption | omega | (simp; done) | (simp; omega)) ?_)
        refine toEnd hC ?_
        refine endX_blk ?_
        refine endX_seq ?_
        refine runX_regionC fun C hC => ?_
        try simp -implicitDefEqProofs (maxSteps := 4000000) (disch := first | omega | decide | (simp only [go_sem]; omega)) only [go_sem, ↓reduceIte]
        repeat (with_reducible refine And.intro (by first | assumption | omega | (simp; done) | (simp; omega)) ?_)
        refine toEnd hC ?_
        refine endX_q (roundQ_normal ⟨m1, by omega, F14_S1 a0 (IntKind.wrap .i64 ((IntKind.wrap .i64 (x3 * (10 : Int))) + (IntKind.wrap .i64 ((IntKind.wrap .u8 (((a0.getD x4.toNat 0).toNat : Int) - (48 : Int))))))) (IntKind.wrap .i64 (x4 + (1 : Int))), ?_, (IntKind.wrap .i64 ((IntKind.wrap .i64 (x3 * (10 : Int))) + (IntKind.wrap .i64 ((IntKind.wrap .u8 (((a0.getD x4.toNat 0).toNat : Int) - (48 : Int))))))), (IntKind.wrap .i64 (x4 + (1 : Int))), rfl, by omega, h⟩)
        simp only [F14_S1]
        (try simp -implicitDefEqProofs (maxSteps := 4000000) (disch := first | omega | decide | (simp only [go_sem]; omega)) only [go_sem, ↓reduceIte])
        first | exact leS_refl _ | (refine leS_le ?_ ?_ <;> first | exact leL_refl _ | exact leOs_refl _ | (simp only [List.append_assoc, List.cons_append, List.nil_append]; exact leOs_refl _) | (refine leOs.cons (by first | exact leO.same _ | (refine leO.box (leT_agg (by repeat (first | exact leL_refl _ | refine leL_cons (by first | exact leT_refl _ | exact leT_virt | exact leT_junk _ | exact leT_sl | exact leT_sln | exact leT_nil | (refine leT_agg (by repeat (first | exact leL_refl _ | refine leL_cons (by first | exact leT_refl _ | exact leT_sl | exact leT_sln | exact leT_nil) ?_)))) ?_))) rfl) | (refine leO.box (by first | exact leT_virt | exact leT_sl | exact leT_sln) rfl)) ?_; repeat (first | exact leOs_refl _ | refine leOs.cons (by first | exact leO.same _ | (refine leO.box (leT_agg (by repeat (first | exact leL_refl _ | refine leL_cons (by first | exact leT_refl _ | exact leT_virt | exact leT_junk _ | exact leT_sl | exact leT_sln | exact leT_nil | (refine leT_agg (by repeat (first | exact leL_refl _ | refine leL_cons (by first | exact leT_refl _ | exact leT_sl | exact leT_sln | exact leT_nil) ?_)))) ?_))) rfl) | (refine leO.box (by first | exact leT_virt | exact leT_sl | exact leT_sln) rfl)) ?_)) | (repeat (first | exact leL_refl _ | refine leL_cons (by first | exact leT_refl _ | exact leT_virt | exact leT_junk _ | exact leT_sl | exact leT_sln | exact leT_nil | (refine leT_agg (by repeat (first | exact leL_refl _ | refine leL_cons (by first | exact leT_refl _ | exact leT_sl | exact leT_sln | exact leT_nil) ?_)))) ?_)))
      ·refine runX_condF rfl c5 ?_
       refine runX_exit ?_
       refine endX_seqE ?_
       refine endX_q (roundQ_exit ?_)
       refine endX_blkE ?_
       refine endX_seq ?_
       refine runX_seq ?_
       refine runX_regionC fun C hC => ?_
       try simp -implicitDefEqProofs (maxSteps := 4000000) (disch := first | omega | decide | (simp only [go_sem]; omega)) only [go_sem, ↓reduceIte]
       repeat (with_reducible refine And.intro (by first | assumption | omega | (simp; done) | (simp; omega)) ?_)
       refine toEnd hC ?_
       refine endX_seq ?_
       refine runX_ret ?_
       refine endX_q ?_
       obtain rfl := Option.some.inj h
       show RetW _ _ _ _ _
       simp only [RetW]
       (try simp -implicitDefEqProofs (maxSteps := 4000000) (disch := first | omega | decide | (simp only [go_sem]; omega)) only [go_sem, ↓reduceIte])
       (try simp (disch := omega) only [if_pos, Nat.sub_zero])
       exact leT_refl _
end Go.Proofs.YtdaojihnaajfeaaX

set_option linter.unusedVariables false
set_option linter.unusedSimpArgs false
namespace Go.Proofs.YtdaojihnaajfeaaX
open Go Go.RowKit Go.Proofs
set_option maxRecDepth 100000
attribute [local go_sem ↓] stepsK_build stepsK_bs appendS
attribute [local go_sem] String.reduceEq String.reduceNe reduceCtorEq Int.reduceEq Nat.reduceAdd Nat.reduceSub Nat.reduceMul Nat.reduceLT Nat.reduceLeDiff Nat.reduceEqDiff Nat.reduceBEq Int.reduceToNat Int.reduceLT Int.reduceLE Int.reduceGT Int.reduceGE Int.reduceAdd Int.reduceSub Int.reduceMul Int.reduceNeg Int.reduceBEq Int.reduceBNe Int.reducePow Int.reduceDiv Int.reduceMod Int.reduceTDiv Int.reduceTMod Int.reduceNatCast
/-! ### query.Number -/
def F7 (n : Nat) (a0 : List ((List UInt8) × (List UInt8))) (a1 : List UInt8) (a2 : Int) (a3 : Int) : Option ((Int) × (Bool)) := (F5 n a0 a1).bind fun v1 => iteB (!v1.2) (some (a2, true)) ((F14 n v1.1).bind fun v3 => iteB (!v3.2) (some ((0 : Int), false)) (iteB (decide (a3 < v3.1)) (some ((0 : Int), false)) (some (v3.1, true))))
set_option maxHeartbeats 4000000 in
theorem F7_ok : ∀ (n : Nat) (a0 : List ((List UInt8) × (List UInt8))) (a1 : List UInt8) (a2 : Int) (a3 : Int) (r : (Int) × (Bool)), F7 n a0 a1 a2 a3 = some r → FnC Try.prog 7 [.sl 2 false (List.map eT38 a0), .imm (.string (bs a1)), .imm (.int .i64 a2), .imm (.int .i64 a3)] (.tup [.imm (.int .i64 r.1), .imm (.bool r.2)])
 | n, a0, a1, a2, a3, r, h => by
  unfold F7 at h
  refine FnC.goX mixed Try.func7 (by kernel_rfl) rfl ?_
  simp only [Try.ntmps7, List.length_cons, List.length_nil, List.replicate, List.cons_append, List.nil_append, Nat.reduceAdd, Nat.reduceSub]
  refine runX_seq ?_
  refine runX_regionC fun C hC => ?_
  try simp -implicitDefEqProofs (maxSteps := 4000000) (disch := first | omega | decide | (simp only [go_sem]; omega)) only [go_sem, ↓reduceIte]
  repeat (with_reducible refine And.intro (by first | assumption | omega | (simp; done) | (simp; omega)) ?_)
  refine toEnd hC ?_
  refine endX_seq ?_
  refine runX_seq ?_
  refine runX_regionC fun C hC => ?_
  obtain ⟨v1, h1, h⟩ := bnd_some h
  try simp -implicitDefEqProofs (maxSteps := 4000000) (disch := first | omega | decide | (simp only [go_sem]; omega)) only [go_sem, ↓reduceIte]
  repeat (with_reducible refine And.intro (by first | assumption | omega | (simp; done) | (simp; omega)) ?_)
  refine callG_X (by first | rfl | (simp only [go_sem]; done) | (simp only [closedL, closedT, Bool.and_true]; exact closedL_map _ (fun _ => by first | rfl | (simp only [go_sem]; done)) _)) (F5_ok n a0 a1 _ h1) (by repeat (first | exact leL_refl _ | refine leL_cons (by first | exact leT_refl _ | exact leT_virt | exact leT_junk _ | exact leT_sl | exact leT_sln | exact leT_nil | (refine leT_agg (by repeat (first | exact leL_refl _ | refine leL_cons (by first | exact leT_refl _ | exact leT_sl | exact leT_sln | exact leT_nil) ?_)))) ?_)) ?_
  try simp -implicitDefEqProofs (maxSteps := 4000000) (disch := first | omega | decide | (simp only [go_sem]; omega)) only [go_sem, ↓reduceIte]
  repeat (with_reducible refine And.intro (by first | assumption | omega | (simp; done) | (simp; omega)) ?_)
  refine toEnd hC ?_
  refine endX_seq ?_
  refine runX_seq ?_
  refine runX_seq ?_
  refine runX_regionC fun C hC => ?_
  try simp -implicitDefEqProofs (maxSteps := 4000000) (disch := first | omega | decide | (simp only [go_sem]; omega)) only [go_sem, ↓reduceIte]
  repeat (with_reducible refine And.intro (by first | assumption | omega | (simp; done) | (simp; omega)) ?_)
  refine toEnd hC ?_
  refine endX_seq ?_
  rcases iteB_some h with ⟨c2, h⟩ | ⟨c2, h⟩
  ·refine runX_condT rfl c2 ?_
   refine runX_seq ?_
   refine runX_regionC fun C hC => ?_
   try simp -implicitDefEqProofs (maxSteps := 4000000) (disch := first | omega | decide | (simp only [go_sem]; omega)) only [go_sem, ↓reduceIte]
   repeat (with_reducible refine And.intro (by first | assumption | omega | (simp; done) | (simp; omega)) ?_)
   refine toEnd hC ?_
   refine endX_seq ?_
   refine runX_ret ?_
   refine endX_seqR ?_
   refine endX_q ?_
   obtain rfl := Option.some.inj h
   show RetW _ _ _ _ _
   simp only [RetW]
   (try simp -implicitDefEqProofs (maxSteps := 4000000) (disch := first | omega | decide | (simp only [go_sem]; omega)) only [go_sem, ↓reduceIte])
   (try simp (disch := omega) only [if_pos, Nat.sub_zero])
   exact leT_refl _
  ·refine runX_condF rfl c2 ?_
   refine runX_skip ?_
   refine endX_seq ?_
   refine runX_seq ?_
   refine runX_regionC fun C hC => ?_
   obtain ⟨v3, h3, h⟩ := bnd_some h
   try simp -implicitDefEqProofs (maxSteps := 4000000) (disch := first | omega | decide | (simp only [go_sem]; omega)) only [go_sem, ↓reduceIte]
   repeat (with_reducible refine And.intro (by first | assumption | omega | (simp; done) | (simp; omega)) ?_)
   refine callG_X (by first | rfl | (simp only [go_sem]; done) | (simp only [closedL, closedT, Bool.and_true]; exact closedL_map _ (fun _ => by first | rfl | (simp only [go_sem]; done)) _)) (F14_ok n v1.1 _ h3) (by repeat (first | exact leL_refl _ | refine leL_cons (by first | exact leT_refl _ | exact leT_virt | exact leT_junk _ | exact leT_sl | exact leT_sln | exact leT_nil | (refine leT_agg (by repeat (first | exact leL_refl _ | refine leL_cons (by first | exact leT_refl _ | exact leT_sl | exact leT_sln | exact leT_nil) ?_)))) ?_)) ?_
   try simp -implicitDefEqProofs (maxSteps := 4000000) (disch := first | omega | decide | (simp only [go_sem]; omega)) only [go_sem, ↓reduceIte]
   repeat (with_reducible refine And.intro (by first | assumption | omega | (simp; done) | (simp; omega)) ?_)
   refine toEnd hC ?_
   refine endX_seq ?_
   refine runX_seq ?_
   refine runX_seq ?_
   refine runX_regionC fun C hC => ?_
   try simp -implicitDefEqProofs (maxSteps := 4000000) (disch := first | omega | decide | (simp only [go_sem]; omega)) only [go_sem, ↓reduceIte]
   repeat (with_reducible refine And.intro (by first | assumption | omega | (simp; done) | (simp; omega)) ?_)
   rcases iteB_some h with ⟨c4, h⟩ | ⟨c4, h⟩
   ·refine guardK_F c4 ?_
    try simp -implicitDefEqProofs (maxSteps := 4000000) (disch := first | omega | decide | (simp only [go_sem]; omega)) only [go_sem, ↓reduceIte]
    repeat (with_reducible refine And.intro (by first | assumption | omega | (simp; done) | (simp; omega)) ?_)
    refine toEnd hC ?_
    refine endX_seq ?_
    refine runX_condT rfl rfl ?_
    refine runX_seq ?_
    refine runX_regionC fun C hC => ?_
    try simp -implicitDefEqProofs (maxSteps := 4000000) (disch := first | omega | decide | (simp only [go_sem]; omega)) only [go_sem, ↓reduceIte]
    repeat (with_reducible refine And.intro (by first | assumption | omega | (simp; done) | (simp; omega)) ?_)
    refine toEnd hC ?_
    refine endX_seq ?_
    refine runX_ret ?_
    refine endX_seqR ?_
    refine endX_q ?_
    obtain rfl := Option.some.inj h
    show RetW _ _ _ _ _
    simp only [RetW]
    (try simp -implicitDefEqProofs (maxSteps := 4000000) (disch := first | omega | decide | (simp only [go_sem]; omega)) only [go_sem, ↓reduceIte])
    (try simp (disch := omega) only [if_pos, Nat.sub_zero])
    exact leT_refl _
   ·refine guardK_T c4 ?_
    try simp -implicitDefEqProofs (maxSteps := 4000000) (disch := first | omega | decide | (simp only [go_sem]; omega)) only [go_sem, ↓reduceIte]
    repeat (with_reducible refine And.intro (by first | assumption | omega | (simp; done) | (simp; omega)) ?_)
    refine toEnd hC ?_
    refine endX_seq ?_
    rcases iteB_some h with ⟨c5, h⟩ | ⟨c5, h⟩
    ·refine runX_condT rfl c5 ?_
     refine runX_seq ?_
     refine runX_regionC fun C hC => ?_
     try simp -implicitDefEqProofs (maxSteps := 4000000) (disch := first | omega | decide | (simp only [go_sem]; omega)) only [go_sem, ↓reduceIte]
     repeat (with_reducible refine And.intro (by first | assumption | omega | (simp; done) | (simp; omega)) ?_)
     refine toEnd hC ?_
     refine endX_seq ?_
     refine runX_ret ?_
     refine endX_seqR ?_
     refine endX_q ?_
     obtain rfl := Option.some.inj h
     show RetW _ _ _ _ _
     simp only [RetW]
     (try simp -implicitDefEqProofs (maxSteps := 4000000) (disch := first | omega | decide | (simp only [go_sem]; omega)) only [go_sem, ↓reduceIte])
     (try simp (disch := omega) only [if_pos, Nat.sub_zero])
     exact leT_refl _
    ·refine runX_condF rfl c5 ?_
     refine runX_skip ?_
     refine endX_seq ?_
     refine runX_seq ?_
     refine runX_regionC fun C hC => ?_
     try simp -implicitDefEqProofs (maxSteps := 4000000) (disch := first | omega | decide | (simp only [go_sem]; omega)) only [go_sem, ↓reduceIte]
     repeat (with_reducible refine And.intro (by first | assumption | omega | (simp; done) | (simp; omega)) ?_)
     refine toEnd hC ?_
     refine endX_seq ?_
     refine runX_ret ?_
     refine endX_q ?_
     obtain rfl := Option.some.inj h
     show RetW _ _ _ _ _
     simp only [RetW]
     (try simp -implicitDefEqProofs (maxSteps := 4000000) (disch := first | omega | decide | (simp only [go_sem]; omega)) only [go_sem, ↓reduceIte])
     (try simp (disch := omega) only [if_pos, Nat.sub_zero])
     exact leT_refl _
end Go.Proofs.YtdaojihnaajfeaaX

set_option linter.unusedVariables false
set_option linter.unusedSimpArgs false
namespace Go.Proofs.YtdaojihnaajfeaaX
open Go Go.RowKit Go.Proofs
set_option maxRecDepth 100000
attribute [local go_sem ↓] stepsK_build stepsK_bs appendS
attribute [local go_sem] String.reduceEq String.reduceNe reduceCtorEq Int.reduceEq Nat.reduceAdd Nat.reduceSub Nat.reduceMul Nat.reduceLT Nat.reduceLeDiff Nat.reduceEqDiff Nat.reduceBEq Int.reduceToNat Int.reduceLT Int.reduceLE Int.reduceGT Int.reduceGE Int.reduceAdd Int.reduceSub Int.reduceMul Int.reduceNeg Int.reduceBEq Int.reduceBNe Int.reducePow Int.reduceDiv Int.reduceMod Int.reduceTDiv Int.reduceTMod Int.reduceNatCast
/-! ### shadowboxref04.Kind -/
def F27 (n : Nat) (a0 : Int) : Option (Int) := iteB (decide ((48 : Int) ≤ a0)) (iteB (decide (a0 ≤ (57 : Int))) (some (1 : Int)) (iteB (decide ((97 : Int) ≤ a0)) (iteB (decide (a0 ≤ (102 : Int))) (some (2 : Int)) (iteB (decide ((103 : Int) ≤ a0)) (iteB (decide (a0 ≤ (122 : Int))) (some (3 : Int)) (iteB (decide ((65 : Int) ≤ a0)) (iteB (decide (a0 ≤ (90 : Int))) (some (4 : Int)) (some (0 : Int))) (some (0 : Int)))) (iteB (decide ((65 : Int) ≤ a0)) (iteB (decide (a0 ≤ (90 : Int))) (some (4 : Int)) (some (0 : Int))) (some (0 : Int))))) (iteB (decide ((103 : Int) ≤ a0)) (iteB (decide (a0 ≤ (122 : Int))) (some (3 : Int)) (iteB (decide ((65 : Int) ≤ a0)) (iteB (decide (a0 ≤ (90 : Int))) (some (4 : Int)) (some (0 : Int))) (some (0 : Int)))) (iteB (decide ((65 : Int) ≤ a0)) (iteB (decide (a0 ≤ (90 : Int))) (some (4 : Int)) (some (0 : Int))) (some (0 : Int)))))) (iteB (decide ((97 : Int) ≤ a0)) (iteB (decide (a0 ≤ (102 : Int))) (some (2 : Int)) (iteB (decide ((103 : Int) ≤ a0)) (iteB (decide (a0 ≤ (122 : Int))) (some (3 : Int)) (iteB (decide ((65 : Int) ≤ a0)) (iteB (decide (a0 ≤ (90 : Int))) (some (4 : Int)) (some (0 : Int))) (some (0 : Int)))) (iteB (decide ((65 : Int) ≤ a0)) (iteB (decide (a0 ≤ (90 : Int))) (some (4 : Int)) (some (0 : Int))) (some (0 : Int))))) (iteB (decide ((103 : Int) ≤ a0)) (iteB (decide (a0 ≤ (122 : Int))) (some (3 : Int)) (iteB (decide ((65 : Int) ≤ a0)) (iteB (decide (a0 ≤ (90 : Int))) (some (4 : Int)) (some (0 : Int))) (some (0 : Int)))) (iteB (decide ((65 : Int) ≤ a0)) (iteB (decide (a0 ≤ (90 : Int))) (some (4 : Int)) (some (0 : Int))) (some (0 : Int)))))
set_option maxHeartbeats 4000000 in
theorem F27_ok : ∀ (n : Nat) (a0 : Int) (r : Int), F27 n a0 = some r → FnC Try.prog 27 [.imm (.int .u8 a0)] (.imm (.int .i64 r))
 | n, a0, r, h => by
  unfold F27 at h
  refine FnC.goX mixed Try.func27 (by kernel_rfl) rfl ?_
  simp only [Try.ntmps27, List.length_cons, List.length_nil, List.replicate, List.cons_append, List.nil_append, Nat.reduceAdd, Nat.reduceSub]
  refine runX_seq ?_
  refine runX_regionC fun C hC => ?_
  try simp -implicitDefEqProofs (maxSteps := 4000000) (disch := first | omega | decide | (simp only [go_sem]; omega)) only [go_sem, ↓reduceIte]
  repeat (with_reducible refine And.intro (by first | assumption | omega | (simp; done) | (simp; omega)) ?_)
  refine toEnd hC ?_
  refine endX_seq ?_
  refine runX_seq ?_
  refine runX_seq ?_
  refine runX_regionC fun C hC => ?_
  try simp -implicitDefEqProofs (maxSteps := 4000000) (disch := first | omega | decide | (simp only [go_sem]; omega)) only [go_sem, ↓reduceIte]
  repeat (with_reducible refine And.intro (by first | assumption | omega | (simp; done) | (simp; omega)) ?_)
  rcases iteB_some h with ⟨c1, h⟩ | ⟨c1, h⟩
  ·refine guardK_T c1 ?_
   try simp -implicitDefEqProofs (maxSteps := 4000000) (disch := first | omega | decide | (simp only [go_sem]; omega)) only [go_sem, ↓reduceIte]
   repeat (with_reducible refine And.intro (by first | assumption | omega | (simp; done) | (simp; omega)) ?_)
   refine toEnd hC ?_
   refine endX_seq ?_
   rcases iteB_some h with ⟨c2, h⟩ | ⟨c2, h⟩
   ·refine runX_condT rfl c2 ?_
    refine runX_seq ?_
    refine runX_regionC fun C hC => ?_
    try simp -implicitDefEqProofs (maxSteps := 4000000) (disch := first | omega | decide | (simp only [go_sem]; omega)) only [go_sem, ↓reduceIte]
    repeat (with_reducible refine And.intro (by first | assumption | omega | (simp; done) | (simp; omega)) ?_)
    refine toEnd hC ?_
    refine endX_seq ?_
    refine runX_ret ?_
    refine endX_seqR ?_
    refine endX_q ?_
    obtain rfl := Option.some.inj h
    show RetW _ _ _ _ _
    simp only [RetW]
    (try simp -implicitDefEqProofs (maxSteps := 4000000) (disch := first | omega | decide | (simp only [go_sem]; omega)) only [go_sem, ↓reduceIte])
    (try simp (disch := omega) only [if_pos, Nat.sub_zero])
    exact leT_refl _
   ·refine runX_condF rfl c2 ?_
    refine runX_skip ?_
    refine endX_seq ?_
    refine runX_seq ?_
    refine runX_seq ?_
    refine runX_regionC fun C hC => ?_
    try simp -implicitDefEqProofs (maxSteps := 4000000) (disch := first | omega | decide | (simp only [go_sem]; omega)) only [go_sem, ↓reduceIte]
    repeat (with_reducible refine And.intro (by first | assumption | omega | (simp; done) | (simp; omega)) ?_)
    rcases iteB_some h with ⟨c3, h⟩ | ⟨c3, h⟩
    ·refine guardK_T c3 ?_
     try simp -implicitDefEqProofs (maxSteps := 4000000) (disch := first | omega | decide | (simp only [go_sem]; omega)) only [go_sem, ↓reduceIte]
     repeat (with_reducible refine And.intro (by first | assumption | omega | (simp; done) | (simp; omega)) ?_)
     refine toEnd hC ?_
     refine endX_seq ?_
     rcases iteB_some h with ⟨c4, h⟩ | ⟨c4, h⟩
     ·refine runX_condT rfl c4 ?_
      refine runX_seq ?_
      refine runX_regionC fun C hC => ?_
      try simp -implicitDefEqProofs (maxSteps := 4000000) (disch := first | omega | decide | (simp only [go_sem]; omega)) only [go_sem, ↓reduceIte]
      repeat (with_reducible refine And.intro (by first | assumption | omega | (simp; done) | (simp; omega)) ?_)
      refine toEnd hC ?_
      refine endX_seq ?_
      refine runX_ret ?_
      refine endX_seqR ?_
      refine endX_q ?_
      obtain rfl := Option.some.inj h
      show RetW _ _ _ _ _
      simp only [RetW]
      (try simp -implicitDefEqProofs (maxSteps := 4000000) (disch := first | omega | decide | (simp only [go_sem]; omega)) only [go_sem, ↓reduceIte])
      (try simp (disch := omega) only [if_pos, Nat.sub_zero])
      exact leT_refl _
     ·refine runX_condF rfl c4 ?_
      refine runX_skip ?_
      refine endX_seq ?_
      refine runX_seq ?_
      refine runX_seq ?_
      refine runX_regionC fun C hC => ?_
      try simp -implicitDefEqProofs (maxSteps := 4000000) (disch := first | omega | decide | (simp only [go_sem]; omega)) only [go_sem, ↓reduceIte]
      repeat (with_reducible refine And.intro (by first | assumption | omega | (simp; done) | (simp; omega)) ?_)
      rcases iteB_some h with ⟨c5, h⟩ | ⟨c5, h⟩
      ·refine guardK_T c5 ?_
       try simp -implicitDefEqProofs (maxSteps := 4000000) (disch := first | omega | decide | (simp only [go_sem]; omega)) only [go_sem, ↓reduceIte]
       repeat (with_reducible refine And.intro (by first | assumption | omega | (simp; done) | (simp; omega)) ?_)
       refine toEnd hC ?_
       refine endX_seq ?_
       rcases iteB_some h with ⟨c6, h⟩ | ⟨c6, h⟩
       ·refine runX_condT rfl c6 ?_
        refine runX_seq ?_
        refine runX_regionC fun C hC => ?_
        try simp -implicitDefEqProofs (maxSteps := 4000000) (disch := first | omega | decide | (simp only [go_sem]; omega)) only [go_sem, ↓reduceIte]
        repeat (with_reducible refine And.intro (by first | assumption | omega | (simp; done) | (simp; omega)) ?_)
        refine toEnd hC ?_
        refine endX_seq ?_
        refine runX_ret ?_
        refine endX_seqR ?_
        refine endX_q ?_
        obtain rfl := Option.some.inj h
        show RetW _ _ _ _ _
        simp only [RetW]
        (try simp -implicitDefEqProofs (maxSteps := 4000000) (disch := first | omega | decide | (simp only [go_sem]; omega)) only [go_sem, ↓reduceIte])
        (try simp (disch := omega) only [if_pos, Nat.sub_zero])
        exact leT_refl _
       ·refine runX_condF rfl c6 ?_
        refine runX_skip ?_
        refine endX_seq ?_
        refine runX_seq ?_
        refine runX_seq ?_
        refine runX_regionC fun C hC => ?_
        try simp -implicitDefEqProofs (maxSteps := 4000000) (disch := first | omega | decide | (simp only [go_sem]; omega)) only [go_sem, ↓reduceIte]
        repeat (with_reducible refine And.intro (by first | assumption | omega | (simp; done) | (simp; omega)) ?_)
        rcases iteB_some h with ⟨c7, h⟩ | ⟨c7, h⟩
        ·refine guardK_T c7 ?_
         try simp -implicitDefEqProofs (maxSteps := 4000000) (disch := first | omega | decide | (simp only [go_sem]; omega)) only [go_sem, ↓reduceIte]
         repeat (with_reducible refine And.intro (by first | assumption | omega | (simp; done) | (simp; omega)) ?_)
         refine toEnd hC ?_
         refine endX_seq ?_
         rcases iteB_some h with ⟨c8, h⟩ | ⟨c8, h⟩
         ·refine runX_condT rfl c8 ?_
          refine runX_seq ?_
          refine runX_regionC fun C hC => ?_
          try simp -implicitDefEqProofs (maxSteps := 4000000) (disch := first | omega | decide | (simp only [go_sem]; omega)) only [go_sem, ↓reduceIte]
          repeat (with_reducible refine And.intro (by first | assumption | omega | (simp; done) | (simp; omega)) ?_)
          refine toEnd hC ?_
          refine endX_seq ?_
          refine runX_ret ?_
          refine endX_seqR ?_
          refine endX_q ?_
          obtain rfl := Option.some.inj h
          show RetW _ _ _ _ _
          simp only [RetW]
          (try simp -implicitDefEqProofs (maxSteps := 4000000) (disch := first | omega | decide | (simp only [go_sem]; omega)) only [go_sem, ↓reduceIte])
          (try simp (disch := omega) only [if_pos, Nat.sub_zero])
          exact leT_refl _
         ·refine runX_condF rfl c8 ?_
          refine runX_skip ?_
          refine endX_seq ?_
          refine runX_seq ?_
          refine runX_regionC fun C hC => ?_
          try simp -implicitDefEqProofs (maxSteps := 4000000) (disch := first | omega | decide | (simp only [go_sem]; omega)) only [go_sem, ↓reduceIte]
          repeat (with_reducible refine And.intro (by first | assumption | omega | (simp; done) | (simp; omega)) ?_)
          refine toEnd hC ?_
          refine endX_seq ?_
          refine runX_ret ?_
          refine endX_q ?_
          obtain rfl := Option.some.inj h
          show RetW _ _ _ _ _
          simp only [RetW]
          (try simp -implicitDefEqProofs (maxSteps := 4000000) (disch := first | omega | decide | (simp only [go_sem]; omega)) only [go_sem, ↓reduceIte])
          (try simp (disch := omega) only [if_pos, Nat.sub_zero])
          exact leT_refl _
        ·refine guardK_F c7 ?_
         try simp -implicitDefEqProofs (maxSteps := 4000000) (disch := first | omega | decide | (simp only [go_sem]; omega)) only [go_sem, ↓reduceIte]
         repeat (with_reducible refine And.intro (by first | assumption | omega | (simp; done) | (simp; omega)) ?_)
         refine toEnd hC ?_
         refine endX_seq ?_
         refine runX_condF rfl rfl ?_
         refine runX_skip ?_
         refine endX_seq ?_
         refine runX_seq ?_
         refine runX_regionC fun C hC => ?_
         try simp -implicitDefEqProofs (maxSteps := 4000000) (disch := first | omega | decide | (simp only [go_sem]; omega)) only [go_sem, ↓reduceIte]
         repeat (with_reducible refine And.intro (by first | assumption | omega | (simp; done) | (simp; omega)) ?_)
         refine toEnd hC ?_
         refine endX_seq ?_
         refine runX_ret ?_
         refine endX_q ?_
         obtain rfl := Option.some.inj h
         show RetW _ _ _ _ _
         simp only [RetW]
         (try simp -implicitDefEqProofs (maxSteps := 4000000) (disch := first | omega | decide | (simp only [go_sem]; omega)) only [go_sem, ↓reduceIte])
         (try simp (disch := omega) only [if_pos, Nat.sub_zero])
         exact leT_refl _
      ·refine guardK_F c5 ?_
       try simp -implicitDefEqProofs (maxSteps := 4000000) (disch := first | omega | decide | (simp only [go_sem]; omega)) only [go_sem, ↓reduceIte]
       repeat (with_reducible refine And.intro (by first | assumption | omega | (simp; done) | (simp; omega)) ?_)
       refine toEnd hC ?_
       refine endX_seq ?_
       refine runX_condF rfl rfl ?_
       refine runX_skip ?_
       refine endX_seq ?_
       refine runX_seq ?_
       refine runX_seq ?_
       refine runX_regionC fun C hC => ?_
       try simp -implicitDefEqProofs (maxSteps := 4000000) (disch := first | omega | decide | (simp only [go_sem]; omega)) only [go_sem, ↓reduceIte]
       repeat (with_reducible refine And.intro (by first | assumption | omega | (simp; done) | (simp; omega)) ?_)
       rcases iteB_some h with ⟨c9, h⟩ | ⟨c9, h⟩
       ·refine guardK_T c9 ?_
        try simp -implicitDefEqProofs (maxSteps := 4000000) (disch := first | omega | decide | (simp only [go_sem]; omega)) only [go_sem, ↓reduceIte]
        repeat (with_reducible refine And.intro (by first | assumption | omega | (simp; done) | (simp; omega)) ?_)
        refine toEnd hC ?_
        refine endX_seq ?_
        rcases iteB_some h with ⟨c10, h⟩ | ⟨c10, h⟩
        ·refine runX_condT rfl c10 ?_
         refine runX_seq ?_
         refine runX_regionC fun C hC => ?_
         try simp -implicitDefEqProofs (maxSteps := 4000000) (disch := first | omega | decide | (simp only [go_sem]; omega)) only [go_sem, ↓reduceIte]
         repeat (with_reducible refine And.intro (by first | assumption | omega | (simp; done) | (simp; omega)) ?_)
         refine toEnd hC ?_
         refine endX_seq ?_
         refine runX_ret ?_
         refine endX_seqR ?_
         refine endX_q ?_
         obtain rfl := Option.some.inj h
         show RetW _ _ _ _ _
         simp only [RetW]
         (try simp -implicitDefEqProofs (maxSteps := 4000000) (disch := first | omega | decide | (simp only [go_sem]; omega)) only [go_sem, ↓reduceIte])
         (try simp (disch := omega) only [if_pos, Nat.sub_zero])
         exact leT_refl _
        ·refine runX_condF rfl c10 ?_
         refine runX_skip ?_
         refine endX_seq ?_
         refine runX_seq ?_
         refine runX_regionC fun C hC => ?_
         try simp -implicitDefEqProofs (maxSteps := 4000000) (disch := first | omega | decide | (simp only [go_sem]; omega)) only [go_sem, ↓reduceIte]
         repeat (with_reducible refine And.intro (by first | assumption | omega | (simp; done) | (simp; omega)) ?_)
         refine toEnd hC ?_
         refine endX_seq ?_
         refine runX_ret ?_
         refine endX_q ?_
         obtain rfl := Option.some.inj h
         show RetW _ _ _ _ _
         simp only [RetW]
         (try simp -implicitDefEqProofs (maxSteps := 4000000) (disch := first | omega | decide | (simp only [go_sem]; omega)) only [go_sem, ↓reduceIte])
         (try simp (disch := omega) only [if_pos, Nat.sub_zero])
         exact leT_refl _
       ·refine guardK_F c9 ?_
        try simp -implicitDefEqProofs (maxSteps := 4000000) (disch := first | omega | decide | (simp only [go_sem]; omega)) only [go_sem, ↓reduceIte]
        repeat (with_reducible refine And.intro (by first | assumption | omega | (simp; done) | (simp; omega)) ?_)
        refine toEnd hC ?_
        refine endX_seq ?_
        refine runX_condF rfl rfl ?_
        refine runX_skip ?_
        refine endX_seq ?_
        refine runX_seq ?_
        refine runX_regionC fun C hC => ?_
        try simp -implicitDefEqProofs (maxSteps := 4000000) (disch := first | omega | decide | (simp only [go_sem]; omega)) only [go_sem, ↓reduceIte]
        repeat (with_reducible refine And.intro (by first | assumption | omega | (simp; done) | (simp; omega)) ?_)
        refine toEnd hC ?_
        refine endX_seq ?_
        refine runX_ret ?_
        refine endX_q ?_
        obtain rfl := Option.some.inj h
        show RetW _ _ _ _ _
        simp only [RetW]
        (try simp -implicitDefEqProofs (maxSteps := 4000000) (disch := first | omega | decide | (simp only [go_sem]; omega)) only [go_sem, ↓reduceIte])
        (try simp (disch := omega) only [if_pos, Nat.sub_zero])
        exact leT_refl _
    ·refine guardK_F c3 ?_
     try simp -implicitDefEqProofs (maxSteps := 4000000) (disch := first | omega | decide | (simp only [go_sem]; omega)) only [go_sem, ↓reduceIte]
     repeat (with_reducible refine And.intro (by first | assumption | omega | (simp; done) | (simp; omega)) ?_)
     refine toEnd hC ?_
     refine endX_seq ?_
     refine runX_condF rfl rfl ?_
     refine runX_skip ?_
     refine endX_seq ?_
     refine runX_seq ?_
     refine runX_seq ?_
     refine runX_regionC fun C hC => ?_
     try simp -implicitDefEqProofs (maxSteps := 4000000) (disch := first | omega | decide | (simp only [go_sem]; omega)) only [go_sem, ↓reduceIte]
     repeat (with_reducible refine And.intro (by first | assumption | omega | (simp; done) | (simp; omega)) ?_)
     rcases iteB_some h with ⟨c11, h⟩ | ⟨c11, h⟩
     ·refine guardK_T c11 ?_
      try simp -implicitDefEqProofs (maxSteps := 4000000) (disch := first | omega | decide | (simp only [go_sem]; omega)) only [go_sem, ↓reduceIte]
      repeat (with_reducible refine And.intro (by first | assumption | omega | (simp; done) | (simp; omega)) ?_)
      refine toEnd hC ?_
      refine endX_seq ?_
      rcases iteB_some h with ⟨c12, h⟩ | ⟨c12, h⟩
      ·refine runX_condT rfl c12 ?_
       refine runX_seq ?_
       refine runX_regionC fun C hC => ?_
       try simp -implicitDefEqProofs (maxSteps := 4000000) (disch := first | omega | decide | (simp only [go_sem]; omega)) only [go_sem, ↓reduceIte]
       repeat (with_reducible refine And.intro (by first | assumption | omega | (simp; done) | (simp; omega)) ?_)
       refine toEnd hC ?_
       refine endX_seq ?_
       refine runX_ret ?_
       refine endX_seqR ?_
       refine endX_q ?_
       obtain rfl := Option.some.inj h
       show RetW _ _ _ _ _
       simp only [RetW]
       (try simp -implicitDefEqProofs (maxSteps := 4000000) (disch := first | omega | decide | (simp only [go_sem]; omega)) only [go_sem, ↓reduceIte])
       (try simp (disch := omega) only [if_pos, Nat.sub_zero])
       exact leT_refl _
      ·refine runX_condF rfl c12 ?_
       refine runX_skip ?_
       refine endX_seq ?_
       refine runX_seq ?_
       refine runX_seq ?_
       refine runX_regionC fun C hC => ?_
       try simp -implicitDefEqProofs (maxSteps := 4000000) (disch := first | omega | decide | (simp only [go_sem]; omega)) only [go_sem, ↓reduceIte]
       repeat (with_reducible refine And.intro (by first | assumption | omega | (simp; done) | (simp; omega)) ?_)
       rcases iteB_some h with ⟨c13, h⟩ | ⟨c13, h⟩
       ·refine guardK_T c13 ?_
        try simp -implicitDefEqProofs (maxSteps := 4000000) (disch := first | omega | decide | (simp only [go_sem]; omega)) only [go_sem, ↓reduceIte]
        repeat (with_reducible refine And.intro (by first | assumption | omega | (simp; done) | (simp; omega)) ?_)
        refine toEnd hC ?_
        refine endX_seq ?_
        rcases iteB_some h with ⟨c14, h⟩ | ⟨c14, h⟩
        ·refine runX_condT rfl c14 ?_
         refine runX_seq ?_
         refine runX_regionC fun C hC => ?_
         try simp -implicitDefEqProofs (maxSteps := 4000000) (disch := first | omega | decide | (simp only [go_sem]; omega)) only [go_sem, ↓reduceIte]
         repeat (with_reducible refine And.intro (by first | assumption | omega | (simp; done) | (simp; omega)) ?_)
         refine toEnd hC ?_
         refine endX_seq ?_
         refine runX_ret ?_
         refine endX_seqR ?_
         refine endX_q ?_
         obtain rfl := Option.some.inj h
         show RetW _ _ _ _ _
         simp only [RetW]
         (try simp -implicitDefEqProofs (maxSteps := 4000000) (disch := first | omega | decide | (simp only [go_sem]; omega)) only [go_sem, ↓reduceIte])
         (try simp (disch := omega) only [if_pos, Nat.sub_zero])
         exact leT_refl _
        ·refine runX_condF rfl c14 ?_
         refine runX_skip ?_
         refine endX_seq ?_
         refine runX_seq ?_
         refine runX_regionC fun C hC => ?_
         try simp -implicitDefEqProofs (maxSteps := 4000000) (disch := first | omega | decide | (simp only [go_sem]; omega)) only [go_sem, ↓reduceIte]
         repeat (with_reducible refine And.intro (by first | assumption | omega | (simp; done) | (simp; omega)) ?_)
         refine toEnd hC ?_
         refine endX_seq ?_
         refine runX_ret ?_
         refine endX_q ?_
         obtain rfl := Option.some.inj h
         show RetW _ _ _ _ _
         simp only [RetW]
         (try simp -implicitDefEqProofs (maxSteps := 4000000) (disch := first | omega | decide | (simp only [go_sem]; omega)) only [go_sem, ↓reduceIte])
         (try simp (disch := omega) only [if_pos, Nat.sub_zero])
         exact leT_refl _
       ·refine guardK_F c13 ?_
        try simp -implicitDefEqProofs (maxSteps := 4000000) (disch := first | omega | decide | (simp only [go_sem]; omega)) only [go_sem, ↓reduceIte]
        repeat (with_reducible refine And.intro (by first | assumption | omega | (simp; done) | (simp; omega)) ?_)
        refine toEnd hC ?_
        refine endX_seq ?_
        refine runX_condF rfl rfl ?_
        refine runX_skip ?_
        refine endX_seq ?_
        refine runX_seq ?_
        refine runX_regionC fun C hC => ?_
        try simp -implicitDefEqProofs (maxSteps := 4000000) (disch := first | omega | decide | (simp only [go_sem]; omega)) only [go_sem, ↓reduceIte]
        repeat (with_reducible refine And.intro (by first | assumption | omega | (simp; done) | (simp; omega)) ?_)
        refine toEnd hC ?_
        refine endX_seq ?_
        refine runX_ret ?_
        refine endX_q ?_
        obtain rfl := Option.some.inj h
        show RetW _ _ _ _ _
        simp only [RetW]
        (try simp -implicitDefEqProofs (maxSteps := 4000000) (disch := first | omega | decide | (simp only [go_sem]; omega)) only [go_sem, ↓reduceIte])
        (try simp (disch := omega) only [if_pos, Nat.sub_zero])
        exact leT_refl _
     ·refine guardK_F c11 ?_
      try simp -implicitDefEqProofs (maxSteps := 4000000) (disch := first | omega | decide | (simp only [go_sem]; omega)) only [go_sem, ↓reduceIte]
      repeat (with_reducible refine And.intro (by first | assumption | omega | (simp; done) | (simp; omega)) ?_)
      refine toEnd hC ?_
      refine endX_seq ?_
      refine runX_condF rfl rfl ?_
      refine runX_skip ?_
      refine endX_seq ?_
      refine runX_seq ?_
      refine runX_seq ?_
      refine runX_regionC fun C hC => ?_
      try simp -implicitDefEqProofs (maxSteps := 4000000) (disch := first | omega | decide | (simp only [go_sem]; omega)) only [go_sem, ↓reduceIte]
      repeat (with_reducible refine And.intro (by first | assumption | omega | (simp; done) | (simp; omega)) ?_)
      rcases iteB_some h with ⟨c15, h⟩ | ⟨c15, h⟩
      ·refine guardK_T c15 ?_
       try simp -implicitDefEqProofs (maxSteps := 4000000) (disch := first | omega | decide | (simp only [go_sem]; omega)) only [go_sem, ↓reduceIte]
       repeat (with_reducible refine And.intro (by first | assumption | omega | (simp; done) | (simp; omega)) ?_)
       refine toEnd hC ?_
       refine endX_seq ?_
       rcases iteB_some h with ⟨c16, h⟩ | ⟨c16, h⟩
       ·refine runX_condT rfl c16 ?_
        refine runX_seq ?_
        refine runX_regionC fun C hC => ?_
        try simp -implicitDefEqProofs (maxSteps := 4000000) (disch := first | omega | decide | (simp only [go_sem]; omega)) only [go_sem, ↓reduceIte]
        repeat (with_reducible refine And.intro (by first | assumption | omega | (simp; done) | (simp; omega)) ?_)
        refine toEnd hC ?_
        refine endX_seq ?_
        refine runX_ret ?_
        refine endX_seqR ?_
        refine endX_q ?_
        obtain rfl := Option.some.inj h
        show RetW _ _ _ _ _
        simp only [RetW]
        (try simp -implicitDefEqProofs (maxSteps := 4000000) (disch := first | omega | decide | (simp only [go_sem]; omega)) only [go_sem, ↓reduceIte])
        (try simp (disch := omega) only [if_pos, Nat.sub_zero])
        exact leT_refl _
       ·refine runX_condF rfl c16 ?_
        refine runX_skip ?_
        refine endX_seq ?_
        refine runX_seq ?_
        refine runX_regionC fun C hC => ?_
        try simp -implicitDefEqProofs (maxSteps := 4000000) (disch := first | omega | decide | (simp only [go_sem]; omega)) only [go_sem, ↓reduceIte]
        repeat (with_reducible refine And.intro (by first | assumption | omega | (simp; done) | (simp; omega)) ?_)
        refine toEnd hC ?_
        refine endX_seq ?_
        refine runX_ret ?_
        refine endX_q ?_
        obtain rfl := Option.some.inj h
        show RetW _ _ _ _ _
        simp only [RetW]
        (try simp -implicitDefEqProofs (maxSteps := 4000000) (disch := first | omega | decide | (simp only [go_sem]; omega)) only [go_sem, ↓reduceIte])
        (try simp (disch := omega) only [if_pos, Nat.sub_zero])
        exact leT_refl _
      ·refine guardK_F c15 ?_
       try simp -implicitDefEqProofs (maxSteps := 4000000) (disch := first | omega | decide | (simp only [go_sem]; omega)) only [go_sem, ↓reduceIte]
       repeat (with_reducible refine And.intro (by first | assumption | omega | (simp; done) | (simp; omega)) ?_)
       refine toEnd hC ?_
       refine endX_seq ?_
       refine runX_condF rfl rfl ?_
       refine runX_skip ?_
       refine endX_seq ?_
       refine runX_seq ?_
       refine runX_regionC fun C hC => ?_
       try simp -implicitDefEqProofs (maxSteps := 4000000) (disch := first | omega | decide | (simp only [go_sem]; omega)) only [go_sem, ↓reduceIte]
       repeat (with_reducible refine And.intro (by first | assumption | omega | (simp; done) | (simp; omega)) ?_)
       refine toEnd hC ?_
       refine endX_seq ?_
       refine runX_ret ?_
       refine endX_q ?_
       obtain rfl := Option.some.inj h
       show RetW _ _ _ _ _
       simp only [RetW]
       (try simp -implicitDefEqProofs (maxSteps := 4000000) (disch := first | omega | decide | (simp only [go_sem]; omega)) only [go_sem, ↓reduceIte])
       (try simp (disch := omega) only [if_pos, Nat.sub_zero])
       exact leT_refl _
  ·refine guardK_F c1 ?_
   try simp -implicitDefEqProofs (maxSteps := 4000000) (disch := first | omega | decide | (simp only [go_sem]; omega)) only [go_sem, ↓reduceIte]
   repeat (with_reducible refine And.intro (by first | assumption | omega | (simp; done) | (simp; omega)) ?_)
   refine toEnd hC ?_
   refine endX_seq ?_
   refine runX_condF rfl rfl ?_
   refine runX_skip ?_
   refine endX_seq ?_
   refine runX_seq ?_
   refine runX_seq ?_
   refine runX_regionC fun C hC => ?_
   try simp -implicitDefEqProofs (maxSteps := 4000000) (disch := first | omega | decide | (simp only [go_sem]; omega)) only [go_sem, ↓reduceIte]
   repeat (with_reducible refine And.intro (by first | assumption | omega | (simp; done) | (simp; omega)) ?_)
   rcases iteB_some h with ⟨c17, h⟩ | ⟨c17, h⟩
   ·refine guardK_T c17 ?_
    try simp -implicitDefEqProofs (maxSteps := 4000000) (disch := first | omega | decide | (simp only [go_sem]; omega)) only [go_sem, ↓reduceIte]
    repeat (with_reducible refine And.intro (by first | assumption | omega | (simp; done) | (simp; omega)) ?_)
    refine toEnd hC ?_
    refine endX_seq ?_
    rcases iteB_some h with ⟨c18, h⟩ | ⟨c18, h⟩
    ·refine runX_condT rfl c18 ?_
     refine runX_seq ?_
     refine runX_regionC fun C hC => ?_
     try simp -implicitDefEqProofs (maxSteps := 4000000) (disch := first | omega | decide | (simp only [go_sem]; omega)) only [go_sem, ↓reduceIte]
     repeat (with_reducible refine And.intro (by first | assumption | omega | (simp; done) | (simp; omega)) ?_)
     refine toEnd hC ?_
     refine endX_seq ?_
     refine runX_ret ?_
     refine endX_seqR ?_
     refine endX_q ?_
     obtain rfl := Option.some.inj h
     show RetW _ _ _ _ _
     simp only [RetW]
     (try simp -implicitDefEqProofs (maxSteps := 4000000) (disch := first | omega | decide | (simp only [go_sem]; omega)) only [go_sem, ↓reduceIte])
     (try simp (disch := omega) only [if_pos, Nat.sub_zero])
     exact leT_refl _
    ·refine runX_condF rfl c18 ?_
     refine runX_skip ?_
     refine endX_seq ?_
     refine runX_seq ?_
     refine runX_seq ?_
     refine runX_regionC fun C hC => ?_
     try simp -implicitDefEqProofs (maxSteps := 4000000) (disch := first | omega | decide | (simp only [go_sem]; omega)) only [go_sem, ↓reduceIte]
     repeat (with_reducible refine And.intro (by first | assumption | omega | (simp; done) | (simp; omega)) ?_)
     rcases iteB_some h with ⟨c19, h⟩ | ⟨c19, h⟩
     ·refine guardK_T c19 ?_
      try simp -implicitDefEqProofs (maxSteps := 4000000) (disch := first | omega | decide | (simp only [go_sem]; omega)) only [go_sem, ↓reduceIte]
      repeat (with_reducible refine And.intro (by first | assumption | omega | (simp; done) | (simp; omega)) ?_)
      refine toEnd hC ?_
      refine endX_seq ?_
      rcases iteB_some h with ⟨c20, h⟩ | ⟨c20, h⟩
      ·refine runX_condT rfl c20 ?_
       refine runX_seq ?_
       refine runX_regionC fun C hC => ?_
       try simp -implicitDefEqProofs (maxSteps := 4000000) (disch := first | omega | decide | (simp only [go_sem]; omega)) only [go_sem, ↓reduceIte]
       repeat (with_reducible refine And.intro (by first | assumption | omega | (simp; done) | (simp; omega)) ?_)
       refine toEnd hC ?_
       refine endX_seq ?_
       refine runX_ret ?_
       refine endX_seqR ?_
       refine endX_q ?_
       obtain rfl := Option.some.inj h
       show RetW _ _ _ _ _
       simp only [RetW]
       (try simp -implicitDefEqProofs (maxSteps := 4000000) (disch := first | omega | decide | (simp only [go_sem]; omega)) only [go_sem, ↓reduceIte])
       (try simp (disch := omega) only [if_pos, Nat.sub_zero])
       exact leT_refl _
      ·refine runX_condF rfl c20 ?_
       refine runX_skip ?_
       refine endX_seq ?_
       refine runX_seq ?_
       refine runX_seq ?_
       refine runX_regionC fun C hC => ?_
       try simp -implicitDefEqProofs (maxSteps := 4000000) (disch := first | omega | decide | (simp only [go_sem]; omega)) only [go_sem, ↓reduceIte]
       repeat (with_reducible refine And.intro (by first | assumption | omega | (simp; done) | (simp; omega)) ?_)
       rcases iteB_some h with ⟨c21, h⟩ | ⟨c21, h⟩
       ·refine guardK_T c21 ?_
        try simp -implicitDefEqProofs (maxSteps := 4000000) (disch := first | omega | decide | (simp only [go_sem]; omega)) only [go_sem, ↓reduceIte]
        repeat (with_reducible refine And.intro (by first | assumption | omega | (simp; done) | (simp; omega)) ?_)
        refine toEnd hC ?_
        refine endX_seq ?_
        rcases iteB_some h with ⟨c22, h⟩ | ⟨c22, h⟩
        ·refine runX_condT rfl c22 ?_
         refine runX_seq ?_
         refine runX_regionC fun C hC => ?_
         try simp -implicitDefEqProofs (maxSteps := 4000000) (disch := first | omega | decide | (simp only [go_sem]; omega)) only [go_sem, ↓reduceIte]
         repeat (with_reducible refine And.intro (by first | assumption | omega | (simp; done) | (simp; omega)) ?_)
         refine toEnd hC ?_
         refine endX_seq ?_
         refine runX_ret ?_
         refine endX_seqR ?_
         refine endX_q ?_
         obtain rfl := Option.some.inj h
         show RetW _ _ _ _ _
         simp only [RetW]
         (try simp -implicitDefEqProofs (maxSteps := 4000000) (disch := first | omega | decide | (simp only [go_sem]; omega)) only [go_sem, ↓reduceIte])
         (try simp (disch := omega) only [if_pos, Nat.sub_zero])
         exact leT_refl _
        ·refine runX_condF rfl c22 ?_
         refine runX_skip ?_
         refine endX_seq ?_
         refine runX_seq ?_
         refine runX_regionC fun C hC => ?_
         try simp -implicitDefEqProofs (maxSteps := 4000000) (disch := first | omega | decide | (simp only [go_sem]; omega)) only [go_sem, ↓reduceIte]
         repeat (with_reducible refine And.intro (by first | assumption | omega | (simp; done) | (simp; omega)) ?_)
         refine toEnd hC ?_
         refine endX_seq ?_
         refine runX_ret ?_
         refine endX_q ?_
         obtain rfl := Option.some.inj h
         show RetW _ _ _ _ _
         simp only [RetW]
         (try simp -implicitDefEqProofs (maxSteps := 4000000) (disch := first | omega | decide | (simp only [go_sem]; omega)) only [go_sem, ↓reduceIte])
         (try simp (disch := omega) only [if_pos, Nat.sub_zero])
         exact leT_refl _
       ·refine guardK_F c21 ?_
        try simp -implicitDefEqProofs (maxSteps := 4000000) (disch := first | omega | decide | (simp only [go_sem]; omega)) only [go_sem, ↓reduceIte]
        repeat (with_reducible refine And.intro (by first | assumption | omega | (simp; done) | (simp; omega)) ?_)
        refine toEnd hC ?_
        refine endX_seq ?_
        refine runX_condF rfl rfl ?_
        refine runX_skip ?_
        refine endX_seq ?_
        refine runX_seq ?_
        refine runX_regionC fun C hC => ?_
        try simp -implicitDefEqProofs (maxSteps := 4000000) (disch := first | omega | decide | (simp only [go_sem]; omega)) only [go_sem, ↓reduceIte]
        repeat (with_reducible refine And.intro (by first | assumption | omega | (simp; done) | (simp; omega)) ?_)
        refine toEnd hC ?_
        refine endX_seq ?_
        refine runX_ret ?_
        refine endX_q ?_
        obtain rfl := Option.some.inj h
        show RetW _ _ _ _ _
        simp only [RetW]
        (try simp -implicitDefEqProofs (maxSteps := 4000000) (disch := first | omega | decide | (simp only [go_sem]; omega)) only [go_sem, ↓reduceIte])
        (try simp (disch := omega) only [if_pos, Nat.sub_zero])
        exact leT_refl _
     ·refine guardK_F c19 ?_
      try simp -implicitDefEqProofs (maxSteps := 4000000) (disch := first | omega | decide | (simp only [go_sem]; omega)) only [go_sem, ↓reduceIte]
      repeat (with_reducible refine And.intro (by first | assumption | omega | (simp; done) | (simp; omega)) ?_)
      refine toEnd hC ?_
      refine endX_seq ?_
      refine runX_condF rfl rfl ?_
      refine runX_skip ?_
      refine endX_seq ?_
      refine runX_seq ?_
      refine runX_seq ?_
      refine runX_regionC fun C hC => ?_
      try simp -implicitDefEqProofs (maxSteps := 4000000) (disch := first | omega | decide | (simp only [go_sem]; omega)) only [go_sem, ↓reduceIte]
      repeat (with_reducible refine And.intro (by first | assumption | omega | (simp; done) | (simp; omega)) ?_)
      rcases iteB_some h with ⟨c23, h⟩ | ⟨c23, h⟩
      ·refine guardK_T c23 ?_
       try simp -implicitDefEqProofs (maxSteps := 4000000) (disch := first | omega | decide | (simp only [go_sem]; omega)) only [go_sem, ↓reduceIte]
       repeat (with_reducible refine And.intro (by first | assumption | omega | (simp; done) | (simp; omega)) ?_)
       refine toEnd hC ?_
       refine endX_seq ?_
       rcases iteB_some h with ⟨c24, h⟩ | ⟨c24, h⟩
       ·refine runX_condT rfl c24 ?_
        refine runX_seq ?_
        refine runX_regionC fun C hC => ?_
        try simp -implicitDefEqProofs (maxSteps := 4000000) (disch := first | omega | decide | (simp only [go_sem]; omega)) only [go_sem, ↓reduceIte]
        repeat (with_reducible refine And.intro (by first | assumption | omega | (simp; done) | (simp; omega)) ?_)
        refine toEnd hC ?_
        refine endX_seq ?_
        refine runX_ret ?_
        refine endX_seqR ?_
        refine endX_q ?_
        obtain rfl := Option.some.inj h
        show RetW _ _ _ _ _
        simp only [RetW]
        (try simp -implicitDefEqProofs (maxSteps := 4000000) (disch := first | omega | decide | (simp only [go_sem]; omega)) only [go_sem, ↓reduceIte])
        (try simp (disch := omega) only [if_pos, Nat.sub_zero])
        exact leT_refl _
       ·refine runX_condF rfl c24 ?_
        refine runX_skip ?_
        refine endX_seq ?_
        refine runX_seq ?_
        refine runX_regionC fun C hC => ?_
        try simp -implicitDefEqProofs (maxSteps := 4000000) (disch := first | omega | decide | (simp only [go_sem]; omega)) only [go_sem, ↓reduceIte]
        repeat (with_reducible refine And.intro (by first | assumption | omega | (simp; done) | (simp; omega)) ?_)
        refine toEnd hC ?_
        refine endX_seq ?_
        refine runX_ret ?_
        refine endX_q ?_
        obtain rfl := Option.some.inj h
        show RetW _ _ _ _ _
        simp only [RetW]
        (try simp -implicitDefEqProofs (maxSteps := 4000000) (disch := first | omega | decide | (simp only [go_sem]; omega)) only [go_sem, ↓reduceIte])
        (try simp (disch := omega) only [if_pos, Nat.sub_zero])
        exact leT_refl _
      ·refine guardK_F c23 ?_
       try simp -implicitDefEqProofs (maxSteps := 4000000) (disch := first | omega | decide | (simp only [go_sem]; omega)) only [go_sem, ↓reduceIte]
       repeat (with_reducible refine And.intro (by first | assumption | omega | (simp; done) | (simp; omega)) ?_)
       refine toEnd hC ?_
       refine endX_seq ?_
       refine runX_condF rfl rfl ?_
       refine runX_skip ?_
       refine endX_seq ?_
       refine runX_seq ?_
       refine runX_regionC fun C hC => ?_
       try simp -implicitDefEqProofs (maxSteps := 4000000) (disch := first | omega | decide | (simp only [go_sem]; omega)) only [go_sem, ↓reduceIte]
       repeat (with_reducible refine And.intro (by first | assumption | omega | (simp; done) | (simp; omega)) ?_)
       refine toEnd hC ?_
       refine endX_seq ?_
       refine runX_ret ?_
       refine endX_q ?_
       obtain rfl := Option.some.inj h
       show RetW _ _ _ _ _
       simp only [RetW]
       (try simp -implicitDefEqProofs (maxSteps := 4000000) (disch := first | omega | decide | (simp only [go_sem]; omega)) only [go_sem, ↓reduceIte])
       (try simp (disch := omega) only [if_pos, Nat.sub_zero])
       exact leT_refl _
   ·refine guardK_F c17 ?_
    try simp -implicitDefEqProofs (maxSteps := 4000000) (disch := first | omega | decide | (simp only [go_sem]; omega)) only [go_sem, ↓reduceIte]
    repeat (with_reducible refine And.intro (by first | assumption | omega | (simp; done) | (simp; omega)) ?_)
    refine toEnd hC ?_
    refine endX_seq ?_
    refine runX_condF rfl rfl ?_
    refine runX_skip ?_
    refine endX_seq ?_
    refine runX_seq ?_
    refine runX_seq ?_
    refine runX_regionC fun C hC => ?_
    try simp -implicitDefEqProofs (maxSteps := 4000000) (disch := first | omega | decide | (simp only [go_sem]; omega)) only [go_sem, ↓reduceIte]
    repeat (with_reducible refine And.intro (by first | assumption | omega | (simp; done) | (simp; omega)) ?_)
    rcases iteB_some h with ⟨c25, h⟩ | ⟨c25, h⟩
    ·refine guardK_T c25 ?_
     try simp -implicitDefEqProofs (maxSteps := 4000000) (disch := first | omega | decide | (simp only [go_sem]; omega)) only [go_sem, ↓reduceIte]
     repeat (with_reducible refine And.intro (by first | assumption | omega | (simp; done) | (simp; omega)) ?_)
     refine toEnd hC ?_
     refine endX_seq ?_
     rcases iteB_some h with ⟨c26, h⟩ | ⟨c26, h⟩
     ·refine runX_condT rfl c26 ?_
      refine runX_seq ?_
      refine runX_regionC fun C hC => ?_
      try simp -implicitDefEqProofs (maxSteps := 4000000) (disch := first | omega | decide | (simp only [go_sem]; omega)) only [go_sem, ↓reduceIte]
      repeat (with_reducible refine And.intro (by first | assumption | omega | (simp; done) | (simp; omega)) ?_)
      refine toEnd hC ?_
      refine endX_seq ?_
      refine runX_ret ?_
      refine endX_seqR ?_
      refine endX_q ?_
      obtain rfl := Option.some.inj h
      show RetW _ _ _ _ _
      simp only [RetW]
      (try simp -implicitDefEqProofs (maxSteps := 4000000) (disch := first | omega | decide | (simp only [go_sem]; omega)) only [go_sem, ↓reduceIte])
      (try simp (disch := omega) only [if_pos, Nat.sub_zero])
      exact leT_refl _
     ·refine runX_condF rfl c26 ?_
      refine runX_skip ?_
      refine endX_seq ?_
      refine runX_seq ?_
      refine runX_seq ?_
      refine runX_regionC fun C hC => ?_
      try simp -implicitDefEqProofs (maxSteps := 4000000) (disch := first | omega | decide | (simp only [go_sem]; omega)) only [go_sem, ↓reduceIte]
      repeat (with_reducible refine And.intro (by first | assumption | omega | (simp; done) | (simp; omega)) ?_)
      rcases iteB_some h with ⟨c27, h⟩ | ⟨c27, h⟩
      ·refine guardK_T c27 ?_
       try simp -implicitDefEqProofs (maxSteps := 4000000) (disch := first | omega | decide | (simp only [go_sem]; omega)) only [go_sem, ↓reduceIte]
       repeat (with_reducible refine And.intro (by first | assumption | omega | (simp; done) | (simp; omega)) ?_)
       refine toEnd hC ?_
       refine endX_seq ?_
       rcases iteB_some h with ⟨c28, h⟩ | ⟨c28, h⟩
       ·refine runX_condT rfl c28 ?_
        refine runX_seq ?_
        refine runX_regionC fun C hC => ?_
        try simp -implicitDefEqProofs (maxSteps := 4000000) (disch := first | omega | decide | (simp only [go_sem]; omega)) only [go_sem, ↓reduceIte]
        repeat (with_reducible refine And.intro (by first | assumption | omega | (simp; done) | (simp; omega)) ?_)
        refine toEnd hC ?_
        refine endX_seq ?_
        refine runX_ret ?_
        refine endX_seqR ?_
        refine endX_q ?_
        obtain rfl := Option.some.inj h
        show RetW _ _ _ _ _
        simp only [RetW]
        (try simp -implicitDefEqProofs (maxSteps := 4000000) (disch := first | omega | decide | (simp only [go_sem]; omega)) only [go_sem, ↓reduceIte])
        (try simp (disch := omega) only [if_pos, Nat.sub_zero])
        exact leT_refl _
       ·refine runX_condF rfl c28 ?_
        refine runX_skip ?_
        refine endX_seq ?_
        refine runX_seq ?_
        refine runX_regionC fun C hC => ?_
        try simp -implicitDefEqProofs (maxSteps := 4000000) (disch := first | omega | decide | (simp only [go_sem]; omega)) only [go_sem, ↓reduceIte]
        repeat (with_reducible refine And.intro (by first | assumption | omega | (simp; done) | (simp; omega)) ?_)
        refine toEnd hC ?_
        refine endX_seq ?_
        refine runX_ret ?_
        refine endX_q ?_
        obtain rfl := Option.some.inj h
        show RetW _ _ _ _ _
        simp only [RetW]
        (try simp -implicitDefEqProofs (maxSteps := 4000000) (disch := first | omega | decide | (simp only [go_sem]; omega)) only [go_sem, ↓reduceIte])
        (try simp (disch := omega) only [if_pos, Nat.sub_zero])
        exact leT_refl _
      ·refine guardK_F c27 ?_
       try simp -implicitDefEqProofs (maxSteps := 4000000) (disch := first | omega | decide | (simp only [go_sem]; omega)) only [go_sem, ↓reduceIte]
       repeat (with_reducible refine And.intro (by first | assumption | omega | (simp; done) | (simp; omega)) ?_)
       refine toEnd hC ?_
       refine endX_seq ?_
       refine runX_condF rfl rfl ?_
       refine runX_skip ?_
       refine endX_seq ?_
       refine runX_seq ?_
       refine runX_regionC fun C hC => ?_
       try simp -implicitDefEqProofs (maxSteps := 4000000) (disch := first | omega | decide | (simp only [go_sem]; omega)) only [go_sem, ↓reduceIte]
       repeat (with_reducible refine And.intro (by first | assumption | omega | (simp; done) | (simp; omega)) ?_)
       refine toEnd hC ?_
       refine endX_seq ?_
       refine runX_ret ?_
       refine endX_q ?_
       obtain rfl := Option.some.inj h
       show RetW _ _ _ _ _
       simp only [RetW]
       (try simp -implicitDefEqProofs (maxSteps := 4000000) (disch := first | omega | decide | (simp only [go_sem]; omega)) only [go_sem, ↓reduceIte])
       (try simp (disch := omega) only [if_pos, Nat.sub_zero])
       exact leT_refl _
    ·refine guardK_F c25 ?_
     try simp -implicitDefEqProofs (maxSteps := 4000000) (disch := first | omega | decide | (simp only [go_sem]; omega)) only [go_sem, ↓reduceIte]
     repeat (with_reducible refine And.intro (by first | assumption | omega | (simp; done) | (simp; omega)) ?_)
     refine toEnd hC ?_
     refine endX_seq ?_
     refine runX_condF rfl rfl ?_
     refine runX_skip ?_
     refine endX_seq ?_
     refine runX_seq ?_
     refine runX_seq ?_
     refine runX_regionC fun C hC => ?_
     try simp -implicitDefEqProofs (maxSteps := 4000000) (disch := first | omega | decide | (simp only [go_sem]; omega)) only [go_sem, ↓reduceIte]
     repeat (with_reducible refine And.intro (by first | assumption | omega | (simp; done) | (simp; omega)) ?_)
     rcases iteB_some h with ⟨c29, h⟩ | ⟨c29, h⟩
     ·refine guardK_T c29 ?_
      try simp -implicitDefEqProofs (maxSteps := 4000000) (disch := first | omega | decide | (simp only [go_sem]; omega)) only [go_sem, ↓reduceIte]
      repeat (with_reducible refine And.intro (by first | assumption | omega | (simp; done) | (simp; omega)) ?_)
      refine toEnd hC ?_
      refine endX_seq ?_
      rcases iteB_some h with ⟨c30, h⟩ | ⟨c30, h⟩
      ·refine runX_condT rfl c30 ?_
       refine runX_seq ?_
       refine runX_regionC fun C hC => ?_
       try simp -implicitDefEqProofs (maxSteps := 4000000) (disch := first | omega | decide | (simp only [go_sem]; omega)) only [go_sem, ↓reduceIte]
       repeat (with_reducible refine And.intro (by first | assumption | omega | (simp; done) | (simp; omega)) ?_)
       refine toEnd hC ?_
       refine endX_seq ?_
       refine runX_ret ?_
       refine endX_seqR ?_
       refine endX_q ?_
       obtain rfl := Option.some.inj h
       show RetW _ _ _ _ _
       simp only [RetW]
       (try simp -implicitDefEqProofs (maxSteps := 4000000) (disch := first | omega | decide | (simp only [go_sem]; omega)) only [go_sem, ↓reduceIte])
       (try simp (disch := omega) only [if_pos, Nat.sub_zero])
       exact leT_refl _
      ·refine runX_condF rfl c30 ?_
       refine runX_skip ?_
       refine endX_seq ?_
       refine runX_seq ?_
       refine runX_regionC fun C hC => ?_
       try simp -implicitDefEqProofs (maxSteps := 4000000) (disch := first | omega | decide | (simp only [go_sem]; omega)) only [go_sem, ↓reduceIte]
       repeat (with_reducible refine And.intro (by first | assumption | omega | (simp; done) | (simp; omega)) ?_)
       refine toEnd hC ?_
       refine endX_seq ?_
       refine runX_ret ?_
       refine endX_q ?_
       obtain rfl := Option.some.inj h
       show RetW _ _ _ _ _
       simp only [RetW]
       (try simp -implicitDefEqProofs (maxSteps := 4000000) (disch := first | omega | decide | (simp only [go_sem]; omega)) only [go_sem, ↓reduceIte])
       (try simp (disch := omega) only [if_pos, Nat.sub_zero])
       exact leT_refl _
     ·refine guardK_F c29 ?_
      try simp -implicitDefEqProofs (maxSteps := 4000000) (disch := first | omega | decide | (simp only [go_sem]; omega)) only [go_sem, ↓reduceIte]
      repeat (with_reducible refine And.intro (by first | assumption | omega | (simp; done) | (simp; omega)) ?_)
      refine toEnd hC ?_
      refine endX_seq ?_
      refine runX_condF rfl rfl ?_
      refine runX_skip ?_
      refine endX_seq ?_
      refine runX_seq ?_
      refine runX_regionC fun C hC => ?_
      try simp -implicitDefEqProofs (maxSteps := 4000000) (disch := first | omega | decide | (simp only [go_sem]; omega)) only [go_sem, ↓reduceIte]
      repeat (with_reducible refine And.intro (by first | assumption | omega | (simp; done) | (simp; omega)) ?_)
      refine toEnd hC ?_
      refine endX_seq ?_
      refine runX_ret ?_
      refine endX_q ?_
      obtain rfl := Option.some.inj h
      show RetW _ _ _ _ _
      simp only [RetW]
      (try simp -implicitDefEqProofs (maxSteps := 4000000) (disch := first | omega | decide | (simp only [go_sem]; omega)) only [go_sem, ↓reduceIte])
      (try simp (disch := omega) only [if_pos, Nat.sub_zero])
      exact leT_refl _
end Go.Proofs.YtdaojihnaajfeaaX

set_option linter.unusedVariables false
set_option linter.unusedSimpArgs false
namespace Go.Proofs.YtdaojihnaajfeaaX
open Go Go.RowKit Go.Proofs
set_option maxRecDepth 100000
attribute [local go_sem ↓] stepsK_build stepsK_bs appendS
attribute [local go_sem] String.reduceEq String.reduceNe reduceCtorEq Int.reduceEq Nat.reduceAdd Nat.reduceSub Nat.reduceMul Nat.reduceLT Nat.reduceLeDiff Nat.reduceEqDiff Nat.reduceBEq Int.reduceToNat Int.reduceLT Int.reduceLE Int.reduceGT Int.reduceGE Int.reduceAdd Int.reduceSub Int.reduceMul Int.reduceNeg Int.reduceBEq Int.reduceBNe Int.reducePow Int.reduceDiv Int.reduceMod Int.reduceTDiv Int.reduceTMod Int.reduceNatCast
/-! ### shadowboxref04.value -/
def F28 (n : Nat) (a0 : Int) : Option (Int) := (F27 n a0).bind fun v1 => iteB (v1 == (1 : Int)) (some (IntKind.wrap .i64 ((IntKind.wrap .u8 (a0 - (48 : Int)))))) (iteB (v1 == (2 : Int)) (some (IntKind.wrap .i64 ((IntKind.wrap .i64 ((IntKind.wrap .u8 (a0 - (97 : Int))))) + (10 : Int)))) (some (-1 : Int)))
set_option maxHeartbeats 4000000 in
theorem F28_ok : ∀ (n : Nat) (a0 : Int) (r : Int), F28 n a0 = some r → FnC Try.prog 28 [.imm (.int .u8 a0)] (.imm (.int .i64 r))
 | n, a0, r, h => by
  unfold F28 at h
  refine FnC.goX mixed Try.func28 (by kernel_rfl) rfl ?_
  simp only [Try.ntmps28, List.length_cons, List.length_nil, List.replicate, List.cons_append, List.nil_append, Nat.reduceAdd, Nat.reduceSub]
  refine runX_seq ?_
  refine runX_regionC fun C hC => ?_
  try simp -implicitDefEqProofs (maxSteps := 4000000) (disch := first | omega | decide | (simp only [go_sem]; omega)) only [go_sem, ↓reduceIte]
  repeat (with_reducible refine And.intro (by first | assumption | omega | (simp; done) | (simp; omega)) ?_)
  refine toEnd hC ?_
  refine endX_seq ?_
  refine runX_seq ?_
  refine runX_seq ?_
  refine runX_regionC fun C hC => ?_
  obtain ⟨v1, h1, h⟩ := bnd_some h
  try simp -implicitDefEqProofs (maxSteps := 4000000) (disch := first | omega | decide | (simp only [go_sem]; omega)) only [go_sem, ↓reduceIte]
  repeat (with_reducible refine And.intro (by first | assumption | omega | (simp; done) | (simp; omega)) ?_)
  refine callG_X (by first | rfl | (simp only [go_sem]; done) | (simp only [closedL, closedT, Bool.and_true]; exact closedL_map _ (fun _ => by first | rfl | (simp only [go_sem]; done)) _)) (F27_ok n a0 _ h1) (by repeat (first | exact leL_refl _ | refine leL_cons (by first | exact leT_refl _ | exact leT_virt | exact leT_junk _ | exact leT_sl | exact leT_sln | exact leT_nil | (refine leT_agg (by repeat (first | exact leL_refl _ | refine leL_cons (by first | exact leT_refl _ | exact leT_sl | exact leT_sln | exact leT_nil) ?_)))) ?_)) ?_
  try simp -implicitDefEqProofs (maxSteps := 4000000) (disch := first | omega | decide | (simp only [go_sem]; omega)) only [go_sem, ↓reduceIte]
  repeat (with_reducible refine And.intro (by first | assumption | omega | (simp; done) | (simp; omega)) ?_)
  refine toEnd hC ?_
  refine endX_seq ?_
  refine runX_block ?_
  refine runX_seq ?_
  refine runX_regionC fun C hC => ?_
  try simp -implicitDefEqProofs (maxSteps := 4000000) (disch := first | omega | decide | (simp only [go_sem]; omega)) only [go_sem, ↓reduceIte]
  repeat (with_reducible refine And.intro (by first | assumption | omega | (simp; done) | (simp; omega)) ?_)
  refine toEnd hC ?_
  refine endX_seq ?_
  rcases iteB_some h with ⟨c2, h⟩ | ⟨c2, h⟩
  ·refine runX_condT rfl c2 ?_
   refine runX_seq ?_
   refine runX_regionC fun C hC => ?_
   try simp -implicitDefEqProofs (maxSteps := 4000000) (disch := first | omega | decide | (simp only [go_sem]; omega)) only [go_sem, ↓reduceIte]
   repeat (with_reducible refine And.intro (by first | assumption | omega | (simp; done) | (simp; omega)) ?_)
   refine toEnd hC ?_
   refine endX_seq ?_
   refine runX_ret ?_
   refine endX_blkR ?_
   refine endX_seqR ?_
   refine endX_q ?_
   obtain rfl := Option.some.inj h
   show RetW _ _ _ _ _
   simp only [RetW]
   (try simp -implicitDefEqProofs (maxSteps := 4000000) (disch := first | omega | decide | (simp only [go_sem]; omega)) only [go_sem, ↓reduceIte])
   (try simp (disch := omega) only [if_pos, Nat.sub_zero])
   exact leT_refl _
  ·refine runX_condF rfl c2 ?_
   refine runX_seq ?_
   refine runX_regionC fun C hC => ?_
   try simp -implicitDefEqProofs (maxSteps := 4000000) (disch := first | omega | decide | (simp only [go_sem]; omega)) only [go_sem, ↓reduceIte]
   repeat (with_reducible refine And.intro (by first | assumption | omega | (simp; done) | (simp; omega)) ?_)
   refine toEnd hC ?_
   refine endX_seq ?_
   rcases iteB_some h with ⟨c3, h⟩ | ⟨c3, h⟩
   ·refine runX_condT rfl c3 ?_
    refine runX_seq ?_
    refine runX_regionC fun C hC => ?_
    try simp -implicitDefEqProofs (maxSteps := 4000000) (disch := first | omega | decide | (simp only [go_sem]; omega)) only [go_sem, ↓reduceIte]
    repeat (with_reducible refine And.intro (by first | assumption | omega | (simp; done) | (simp; omega)) ?_)
    refine toEnd hC ?_
    refine endX_seq ?_
    refine runX_ret ?_
    refine endX_blkR ?_
    refine endX_seqR ?_
    refine endX_q ?_
    obtain rfl := Option.some.inj h
    show RetW _ _ _ _ _
    simp only [RetW]
    (try simp -implicitDefEqProofs (maxSteps := 4000000) (disch := first | omega | decide | (simp only [go_sem]; omega)) only [go_sem, ↓reduceIte])
    (try simp (disch := omega) only [if_pos, Nat.sub_zero])
    exact leT_refl _
   ·refine runX_condF rfl c3 ?_
    refine runX_skip ?_
    refine endX_blk ?_
    refine endX_seq ?_
    refine runX_seq ?_
    refine runX_regionC fun C hC => ?_
    try simp -implicitDefEqProofs (maxSteps := 4000000) (disch := first | omega | decide | (simp only [go_sem]; omega)) only [go_sem, ↓reduceIte]
    repeat (with_reducible refine And.intro (by first | assumption | omega | (simp; done) | (simp; omega)) ?_)
    refine toEnd hC ?_
    refine endX_seq ?_
    refine runX_ret ?_
    refine endX_q ?_
    obtain rfl := Option.some.inj h
    show RetW _ _ _ _ _
    simp only [RetW]
    (try simp -implicitDefEqProofs (maxSteps := 4000000) (disch := first | omega | decide | (simp only [go_sem]; omega)) only [go_sem, ↓reduceIte])
    (try simp (disch := omega) only [if_pos, Nat.sub_zero])
    exact leT_refl _
end Go.Proofs.YtdaojihnaajfeaaX

set_option linter.unusedVariables false
set_option linter.unusedSimpArgs false
namespace Go.Proofs.YtdaojihnaajfeaaX
open Go Go.RowKit Go.Proofs
set_option maxRecDepth 100000
attribute [local go_sem ↓] stepsK_build stepsK_bs appendS
attribute [local go_sem] String.reduceEq String.reduceNe reduceCtorEq Int.reduceEq Nat.reduceAdd Nat.reduceSub Nat.reduceMul Nat.reduceLT Nat.reduceLeDiff Nat.reduceEqDiff Nat.reduceBEq Int.reduceToNat Int.reduceLT Int.reduceLE Int.reduceGT Int.reduceGE Int.reduceAdd Int.reduceSub Int.reduceMul Int.reduceNeg Int.reduceBEq Int.reduceBNe Int.reducePow Int.reduceDiv Int.reduceMod Int.reduceTDiv Int.reduceTMod Int.reduceNatCast
/-! ### shadowboxref04.ReadDecimal -/
def F15_S1 (a0 : List UInt8) (x3 : Int) (x4 : Int) : St := ⟨[.imm (.string (bs a0)), .junk, .junk, .junk, .imm (.int .i64 x3), .imm (.int .i64 x4), .junk, .junk, .junk, .junk, .junk, .junk, .junk, .junk, .junk, .junk, .junk, .junk, .junk, .junk, .junk, .junk, .junk, .junk, .junk, .junk, .junk, .junk, .junk, .junk, .junk, .junk, .junk], []⟩
def F15_L1 : Nat → (List UInt8) → (Int) → (Int) → Option ((Int) × (Bool))
 | 0, _, _, _ => none
 | m1 + 1, a0, x3, x4 => iteB (decide (x4 < (a0.length : Int))) (grd (0 ≤ x4 ∧ x4 < (a0.length : Int)) ((F27 m1 ((a0.getD x4.toNat 0).toNat : Int)).bind fun v7 => iteB (v7 != (1 : Int)) (some ((0 : Int), false)) (grd (0 ≤ x4 ∧ x4 < (a0.length : Int)) ((F28 m1 ((a0.getD x4.toNat 0).toNat : Int)).bind fun v10 => F15_L1 m1 a0 (IntKind.wrap .i64 ((IntKind.wrap .i64 (x3 * (10 : Int))) + v10)) (IntKind.wrap .i64 (x4 + (1 : Int))))))) (some (x3, true))
def F15 (n : Nat) (a0 : List UInt8) : Option ((Int) × (Bool)) := iteB ((a0.length : Int) == (0 : Int)) (some ((0 : Int), false)) (iteB (decide ((18 : Int) < (a0.length : Int))) (some ((0 : Int), false)) (F15_L1 n a0 (0 : Int) (0 : Int)))
set_option maxHeartbeats 4000000 in
theorem F15_ok : ∀ (n : Nat) (a0 : List UInt8) (r : (Int) × (Bool)), F15 n a0 = some r → FnC Try.prog 15 [.imm (.string (bs a0))] (.tup [.imm (.int .i64 r.1), .imm (.bool r.2)])
 | n, a0, r, h => by
  unfold F15 at h
  refine FnC.goX mixed Try.func15 (by kernel_rfl) rfl ?_
  simp only [Try.ntmps15, List.length_cons, List.length_nil, List.replicate, List.cons_append, List.nil_append, Nat.reduceAdd, Nat.reduceSub]
  refine runX_seq ?_
  refine runX_regionC fun C hC => ?_
  try simp -implicitDefEqProofs (maxSteps := 4000000) (disch := first | omega | decide | (simp only [go_sem]; omega)) only [go_sem, ↓reduceIte]
  repeat (with_reducible refine And.intro (by first | assumption | omega | (simp; done) | (simp; omega)) ?_)
  refine toEnd hC ?_
  refine endX_seq ?_
  refine runX_seq ?_
  refine runX_seq ?_
  refine runX_regionC fun C hC => ?_
  try simp -implicitDefEqProofs (maxSteps := 4000000) (disch := first | omega | decide | (simp only [go_sem]; omega)) only [go_sem, ↓reduceIte]
  repeat (with_reducible refine And.intro (by first | assumption | omega | (simp; done) | (simp; omega)) ?_)
  rcases iteB_some h with ⟨c1, h⟩ | ⟨c1, h⟩
  ·refine guardK_F c1 ?_
   try simp -implicitDefEqProofs (maxSteps := 4000000) (disch := first | omega | decide | (simp only [go_sem]; omega)) only [go_sem, ↓reduceIte]
   repeat (with_reducible refine And.intro (by first | assumption | omega | (simp; done) | (simp; omega)) ?_)
   refine toEnd hC ?_
   refine endX_seq ?_
   refine runX_condT rfl rfl ?_
   refine runX_seq ?_
   refine runX_regionC fun C hC => ?_
   try simp -implicitDefEqProofs (maxSteps := 4000000) (disch := first | omega | decide | (simp only [go_sem]; omega)) only [go_sem, ↓reduceIte]
   repeat (with_reducible refine And.intro (by first | assumption | omega | (simp; done) | (simp; omega)) ?_)
   refine toEnd hC ?_
   refine endX_seq ?_
   refine runX_ret ?_
   refine endX_seqR ?_
   refine endX_q ?_
   obtain rfl := Option.some.inj h
   show RetW _ _ _ _ _
   simp only [RetW]
   (try simp -implicitDefEqProofs (maxSteps := 4000000) (disch := first | omega | decide | (simp only [go_sem]; omega)) only [go_sem, ↓reduceIte])
   (try simp (disch := omega) only [if_pos, Nat.sub_zero])
   exact leT_refl _
  ·refine guardK_T c1 ?_
   try simp -implicitDefEqProofs (maxSteps := 4000000) (disch := first | omega | decide | (simp only [go_sem]; omega)) only [go_sem, ↓reduceIte]
   repeat (with_reducible refine And.intro (by first | assumption | omega | (simp; done) | (simp; omega)) ?_)
   refine toEnd hC ?_
   refine endX_seq ?_
   rcases iteB_some h with ⟨c2, h⟩ | ⟨c2, h⟩
   ·refine runX_condT rfl c2 ?_
    refine runX_seq ?_
    refine runX_regionC fun C hC => ?_
    try simp -implicitDefEqProofs (maxSteps := 4000000) (disch := first | omega | decide | (simp only [go_sem]; omega)) only [go_sem, ↓reduceIte]
    repeat (with_reducible refine And.intro (by first | assumption | omega | (simp; done) | (simp; omega)) ?_)
    refine toEnd hC ?_
    refine endX_seq ?_
    refine runX_ret ?_
    refine endX_seqR ?_
    refine endX_q ?_
    obtain rfl := Option.some.inj h
    show RetW _ _ _ _ _
    simp only [RetW]
    (try simp -implicitDefEqProofs (maxSteps := 4000000) (disch := first | omega | decide | (simp only [go_sem]; omega)) only [go_sem, ↓reduceIte])
    (try simp (disch := omega) only [if_pos, Nat.sub_zero])
    exact leT_refl _
   ·refine runX_condF rfl c2 ?_
    refine runX_skip ?_
    refine endX_seq ?_
    refine runX_seq ?_
    refine runX_regionC fun C hC => ?_
    try simp -implicitDefEqProofs (maxSteps := 4000000) (disch := first | omega | decide | (simp only [go_sem]; omega)) only [go_sem, ↓reduceIte]
    repeat (with_reducible refine And.intro (by first | assumption | omega | (simp; done) | (simp; omega)) ?_)
    refine toEnd hC ?_
    refine endX_seq ?_
    refine runX_seq ?_
    refine runX_seq ?_
    refine runX_regionC fun C hC => ?_
    try simp -implicitDefEqProofs (maxSteps := 4000000) (disch := first | omega | decide | (simp only [go_sem]; omega)) only [go_sem, ↓reduceIte]
    repeat (with_reducible refine And.intro (by first | assumption | omega | (simp; done) | (simp; omega)) ?_)
    refine toEnd hC ?_
    refine endX_seq ?_
    refine runX_block ?_
    refine runX_loop [0, 4, 5] (fun m S => ∃ (x3 : Int) (x4 : Int), S = F15_S1 a0 x3 x4 ∧ m ≤ n ∧ F15_L1 m a0 x3 x4 = some r) n ⟨F15_S1 a0 (0 : Int) (0 : Int), ?_, (0 : Int), (0 : Int), rfl, Nat.le_refl _, h⟩ ?_
    ·simp only [F15_S1]
     (try simp -implicitDefEqProofs (maxSteps := 4000000) (disch := first | omega | decide | (simp only [go_sem]; omega)) only [go_sem, ↓reduceIte])
     first | exact leS_refl _ | (refine leS_le ?_ ?_ <;> first | exact leL_refl _ | exact leOs_refl _ | (simp only [List.append_assoc, List.cons_append, List.nil_append]; exact leOs_refl _) | (refine leOs.cons (by first | exact leO.same _ | (refine leO.box (leT_agg (by repeat (first | exact leL_refl _ | refine leL_cons (by first | exact leT_refl _ | exact leT_virt | exact leT_junk _ | exact leT_sl | exact leT_sln | exact leT_nil | (refine leT_agg (by repeat (first | exact leL_refl _ | refine leL_cons (by first | exact leT_refl _ | exact leT_sl | exact leT_sln | exact leT_nil) ?_)))) ?_))) rfl) | (refine leO.box (by first | exact leT_virt | exact leT_sl | exact leT_sln) rfl)) ?_; repeat (first | exact leOs_refl _ | refine leOs.cons (by first | exact leO.same _ | (refine leO.box (leT_agg (by repeat (first | exact leL_refl _ | refine leL_cons (by first | exact leT_refl _ | exact leT_virt | exact leT_junk _ | exact leT_sl | exact leT_sln | exact leT_nil | (refine leT_agg (by repeat (first | exact leL_refl _ | refine leL_cons (by first | exact leT_refl _ | exact leT_sl | exact leT_sln | exact leT_nil) ?_)))) ?_))) rfl) | (refine leO.box (by first | exact leT_virt | exact leT_sl | exact leT_sln) rfl)) ?_)) | (repeat (first | exact leL_refl _ | refine leL_cons (by first | exact leT_refl _ | exact leT_virt | exact leT_junk _ | exact leT_sl | exact leT_sln | exact leT_nil | (refine leT_agg (by repeat (first | exact leL_refl _ | refine leL_cons (by first | exact leT_refl _ | exact leT_sl | exact leT_sln | exact leT_nil) ?_)))) ?_)))
    ·clear h
     rintro m1 S ⟨x3, x4, rfl, hm1, h⟩
     cases m1 with
     | zero => first | cases (show (none : Option _) = some _ from h) | (rw [F15_L1] at h; cases h)
     | succ m1 =>
      rw [F15_L1] at h
      simp only [F15_S1]
      refine runX_seq ?_
      refine runX_seq ?_
      refine runX_regionC fun C hC => ?_
      try simp -implicitDefEqProofs (maxSteps := 4000000) (disch := first | omega | decide | (simp only [go_sem]; omega)) only [go_sem, ↓reduceIte]
      repeat (with_reducible refine And.intro (by first | assumption | omega | (simp; done) | (simp; omega)) ?_)
      refine toEnd hC ?_
      refine endX_seq ?_
      rcases iteB_some h with ⟨c5, h⟩ | ⟨c5, h⟩
      ·refine runX_condT rfl c5 ?_
       refine runX_skip ?_
       refine endX_seq ?_
       refine runX_seq ?_
       refine runX_block ?_
       refine runX_seq ?_
       refine runX_seq ?_
       refine runX_regionC fun C hC => ?_
       obtain ⟨g6, h⟩ := grd_some h
       obtain ⟨v7, h7, h⟩ := bnd_some h
       try simp -implicitDefEqProofs (maxSteps := 4000000) (disch := first | omega | decide | (simp only [go_sem]; omega)) only [go_sem, ↓reduceIte]
       repeat (with_reducible refine And.intro (by first | assumption | omega | (simp; done) | (simp; omega)) ?_)
       refine callG_X (by first | rfl | (simp only [go_sem]; done) | (simp only [closedL, closedT, Bool.and_true]; exact closedL_map _ (fun _ => by first | rfl | (simp only [go_sem]; done)) _)) (F27_ok m1 ((a0.getD x4.toNat 0).toNat : Int) _ h7) (by repeat (first | exact leL_refl _ | refine leL_cons (by first | exact leT_refl _ | exact leT_virt | exact leT_junk _ | exact leT_sl | exact leT_sln | exact leT_nil | (refine leT_agg (by repeat (first | exact leL_refl _ | refine leL_cons (by first | exact leT_refl _ | exact leT_sl | exact leT_sln | exact leT_nil) ?_)))) ?_)) ?_
       try simp -implicitDefEqProofs (maxSteps := 4000000) (disch := first | omega | decide | (simp only [go_sem]; omega)) only [go_sem, ↓reduceIte]
       repeat (with_reducible refine And.intro (by first | assumption | omega | (simp; done) | (simp; omega)) ?_)
       refine toEnd hC ?_
       refine endX_seq ?_
       rcases iteB_some h with ⟨c8, h⟩ | ⟨c8, h⟩
       ·refine runX_condT rfl c8 ?_
        refine runX_seq ?_
        refine runX_regionC fun C hC => ?_
        try simp -implicitDefEqProofs (maxSteps := 4000000) (disch := first | omega | decide | (simp only [go_sem]; omega)) only [go_sem, ↓reduceIte]
        repeat (with_reducible refine And.intro (by first | assumption | omega | (simp; done) | (simp; omega)) ?_)
        refine toEnd hC ?_
        refine endX_seq ?_
        refine runX_ret ?_
        refine endX_seqR ?_
        refine endX_blkR ?_
        refine endX_seqR ?_
        refine endX_q (roundQ_ret ?_)
        refine endX_blkR ?_
        refine endX_seqR ?_
        refine endX_q ?_
        obtain rfl := Option.some.inj h
        show RetW _ _ _ _ _
        simp only [RetW]
        (try simp -implicitDefEqProofs (maxSteps := 4000000) (disch := first | omega | decide | (simp only [go_sem]; omega)) only [go_sem, ↓reduceIte])
        (try simp (disch := omega) only [if_pos, Nat.sub_zero])
        exact leT_refl _
       ·refine runX_condF rfl c8 ?_
        refine runX_skip ?_
        refine endX_seq ?_
        refine runX_regionC fun C hC => ?_
        obtain ⟨g9, h⟩ := grd_some h
        obtain ⟨v10, h10, h⟩ := bnd_some h
        try simp -implicitDefEqProofs (maxSteps := 4000000) (disch := first | omega | decide | (simp only [go_sem]; omega)) only [go_sem, ↓reduceIte]
        repeat (with_reducible refine And.intro (by first | assumption | omega | (simp; done) | (simp; omega)) ?_)
        refine callG_X (by first | rfl | (simp only [go_sem]; done) | (simp only [closedL, closedT, Bool.and_true]; exact closedL_map _ (fun _ => by first | rfl | (simp only [go_sem]; done)) _)) (F28_ok m1 ((a0.getD x4.toNat 0).toNat : Int) _ h10) (by repeat (first | exact leL_refl _ | refine leL_cons (by first | exact leT_refl _ | exact leT_virt | exact leT_junk _ | exact leT_sl | exact leT_sln | exact leT_nil | (refine leT_agg (by repeat (first | exact leL_refl _ | refine leL_cons (by first | exact leT_refl _ | exact leT_sl | exact leT_sln | exact leT_nil) ?_)))) ?_)) ?_
        try simp -implicitDefEqProofs (maxSteps := 4000000) (disch := first | omega | decide | (simp only [go_sem]; omega)) only [go_sem, ↓reduceIte]
        repeat (with_reducible refine And.intro (by first | assumption | omega | (simp; done) | (simp; omega)) ?_)
        refine toEnd hC ?_
        refine endX_blk ?_
        refine endX_seq ?_
        refine runX_regionC fun C hC => ?_
        try simp -implicitDefEqProofs (maxSteps := 4000000) (disch := first | omega | decide | (simp only [go_sem]; omega)) only [go_sem, ↓reduceIte]
        repeat (with_reducible refine And.intro (by first | assumption | omega | (simp; done) | (simp; omega)) ?_)
        refine toEnd hC ?_
        refine endX_q (roundQ_normal ⟨m1, by omega, F15_S1 a0 (IntKind.wrap .i64 ((IntKind.wrap .i64 (x3 * (10 : Int))) + v10)) (IntKind.wrap .i64 (x4 + (1 : Int))), ?_, (IntKind.wrap .i64 ((IntKind.wrap .i64 (x3 * (10 : Int))) + v10)), (IntKind.wrap .i64 (x4 + (1 : Int))), rfl, by omega, h⟩)
        simp only [F15_S1]
        (try simp -implicitDefEqProofs (maxSteps := 4000000) (disch := first | omega | decide | (simp only [go_sem]; omega)) only [go_sem, ↓reduceIte])
        first | exact leS_refl _ | (refine leS_le ?_ ?_ <;> first | exact leL_refl _ | exact leOs_refl _ | (simp only [List.append_assoc, List.cons_append, List.nil_append]; exact leOs_refl _) | (refine leOs.cons (by first | exact leO.same _ | (refine leO.box (leT_agg (by repeat (first | exact leL_refl _ | refine leL_cons (by first | exact leT_refl _ | exact leT_virt | exact leT_junk _ | exact leT_sl | exact leT_sln | exact leT_nil | (refine leT_agg (by repeat (first | exact leL_refl _ | refine leL_cons (by first | exact leT_refl _ | exact leT_sl | exact leT_sln | exact leT_nil) ?_)))) ?_))) rfl) | (refine leO.box (by first | exact leT_virt | exact leT_sl | exact leT_sln) rfl)) ?_; repeat (first | exact leOs_refl _ | refine leOs.cons (by first | exact leO.same _ | (refine leO.box (leT_agg (by repeat (first | exact leL_refl _ | refine leL_cons (by first | exact leT_refl _ | exact leT_virt | exact leT_junk _ | exact leT_sl | exact leT_sln | exact leT_nil | (refine leT_agg (by repeat (first | exact leL_refl _ | refine leL_cons (by first | exact leT_refl _ | exact leT_sl | exact leT_sln | exact leT_nil) ?_)))) ?_))) rfl) | (refine leO.box (by first | exact leT_virt | exact leT_sl | exact leT_sln) rfl)) ?_)) | (repeat (first | exact leL_refl _ | refine leL_cons (by first | exact leT_refl _ | exact leT_virt | exact leT_junk _ | exact leT_sl | exact leT_sln | exact leT_nil | (refine leT_agg (by repeat (first | exact leL_refl _ | refine leL_cons (by first | exact leT_refl _ | exact leT_sl | exact leT_sln | exact leT_nil) ?_)))) ?_)))
      ·refine runX_condF rfl c5 ?_
       refine runX_exit ?_
       refine endX_seqE ?_
       refine endX_q (roundQ_exit ?_)
       refine endX_blkE ?_
       refine endX_seq ?_
       refine runX_seq ?_
       refine runX_regionC fun C hC => ?_
       try simp -implicitDefEqProofs (maxSteps := 4000000) (disch := first | omega | decide | (simp only [go_sem]; omega)) only [go_sem, ↓reduceIte]
       repeat (with_reducible refine And.intro (by first | assumption | omega | (simp; done) | (simp; omega)) ?_)
       refine toEnd hC ?_
       refine endX_seq ?_
       refine runX_ret ?_
       refine endX_q ?_
       obtain rfl := Option.some.inj h
       show RetW _ _ _ _ _
       simp only [RetW]
       (try simp -implicitDefEqProofs (maxSteps := 4000000) (disch := first | omega | decide | (simp only [go_sem]; omega)) only [go_sem, ↓reduceIte])
       (try simp (disch := omega) only [if_pos, Nat.sub_zero])
       exact leT_refl _
end Go.Proofs.YtdaojihnaajfeaaX

set_option linter.unusedVariables false
set_option linter.unusedSimpArgs false
namespace Go.Proofs.YtdaojihnaajfeaaX
open Go Go.RowKit Go.Proofs
set_option maxRecDepth 100000
attribute [local go_sem ↓] stepsK_build stepsK_bs appendS
attribute [local go_sem] String.reduceEq String.reduceNe reduceCtorEq Int.reduceEq Nat.reduceAdd Nat.reduceSub Nat.reduceMul Nat.reduceLT Nat.reduceLeDiff Nat.reduceEqDiff Nat.reduceBEq Int.reduceToNat Int.reduceLT Int.reduceLE Int.reduceGT Int.reduceGE Int.reduceAdd Int.reduceSub Int.reduceMul Int.reduceNeg Int.reduceBEq Int.reduceBNe Int.reducePow Int.reduceDiv Int.reduceMod Int.reduceTDiv Int.reduceTMod Int.reduceNatCast
/-! ### shadowboxref29.Number -/
def F8 (n : Nat) (a0 : List ((List UInt8) × (List UInt8))) (a1 : List UInt8) (a2 : Int) (a3 : Int) : Option ((Int) × (Bool)) := (F6 n a0 a1).bind fun v1 => iteB (!v1.2) (some (a2, true)) ((F15 n v1.1).bind fun v3 => iteB (!v3.2) (some ((0 : Int), false)) (iteB (decide (a3 < v3.1)) (some ((0 : Int), false)) (some (v3.1, true))))
set_option maxHeartbeats 4000000 in
theorem F8_ok : ∀ (n : Nat) (a0 : List ((List UInt8) × (List UInt8))) (a1 : List UInt8) (a2 : Int) (a3 : Int) (r : (Int) × (Bool)), F8 n a0 a1 a2 a3 = some r → FnC Try.prog 8 [.sl 2 false (List.map eT38 a0), .imm (.string (bs a1)), .imm (.int .i64 a2), .imm (.int .i64 a3)] (.tup [.imm (.int .i64 r.1), .imm (.bool r.2)])
 | n, a0, a1, a2, a3, r, h => by
  unfold F8 at h
  refine FnC.goX mixed Try.func8 (by kernel_rfl) rfl ?_
  simp only [Try.ntmps8, List.length_cons, List.length_nil, List.replicate, List.cons_append, List.nil_append, Nat.reduceAdd, Nat.reduceSub]
  refine runX_seq ?_
  refine runX_regionC fun C hC => ?_
  try simp -implicitDefEqProofs (maxSteps := 4000000) (disch := first | omega | decide | (simp only [go_sem]; omega)) only [go_sem, ↓reduceIte]
  repeat (with_reducible refine And.intro (by first | assumption | omega | (simp; done) | (simp; omega)) ?_)
  refine toEnd hC ?_
  refine endX_seq ?_
  refine runX_seq ?_
  refine runX_regionC fun C hC => ?_
  obtain ⟨v1, h1, h⟩ := bnd_some h
  try simp -implicitDefEqProofs (maxSteps := 4000000) (disch := first | omega | decide | (simp only [go_sem]; omega)) only [go_sem, ↓reduceIte]
  repeat (with_reducible refine And.intro (by first | assumption | omega | (simp; done) | (simp; omega)) ?_)
  refine callG_X (by first | rfl | (simp only [go_sem]; done) | (simp only [closedL, closedT, Bool.and_true]; exact closedL_map _ (fun _ => by first | rfl | (simp only [go_sem]; done)) _)) (F6_ok n a0 a1 _ h1) (by repeat (first | exact leL_refl _ | refine leL_cons (by first | exact leT_refl _ | exact leT_virt | exact leT_junk _ | exact leT_sl | exact leT_sln | exact leT_nil | (refine leT_agg (by repeat (first | exact leL_refl _ | refine leL_cons (by first | exact leT_refl _ | exact leT_sl | exact leT_sln | exact leT_nil) ?_)))) ?_)) ?_
  try simp -implicitDefEqProofs (maxSteps := 4000000) (disch := first | omega | decide | (simp only [go_sem]; omega)) only [go_sem, ↓reduceIte]
  repeat (with_reducible refine And.intro (by first | assumption | omega | (simp; done) | (simp; omega)) ?_)
  refine toEnd hC ?_
  refine endX_seq ?_
  refine runX_seq ?_
  refine runX_seq ?_
  refine runX_regionC fun C hC => ?_
  try simp -implicitDefEqProofs (maxSteps := 4000000) (disch := first | omega | decide | (simp only [go_sem]; omega)) only [go_sem, ↓reduceIte]
  repeat (with_reducible refine And.intro (by first | assumption | omega | (simp; done) | (simp; omega)) ?_)
  refine toEnd hC ?_
  refine endX_seq ?_
  rcases iteB_some h with ⟨c2, h⟩ | ⟨c2, h⟩
  ·refine runX_condT rfl c2 ?_
   refine runX_seq ?_
   refine runX_regionC fun C hC => ?_
   try simp -implicitDefEqProofs (maxSteps := 4000000) (disch := first | omega | decide | (simp only [go_sem]; omega)) only [go_sem, ↓reduceIte]
   repeat (with_reducible refine And.intro (by first | assumption | omega | (simp; done) | (simp; omega)) ?_)
   refine toEnd hC ?_
   refine endX_seq ?_
   refine runX_ret ?_
   refine endX_seqR ?_
   refine endX_q ?_
   obtain rfl := Option.some.inj h
   show RetW _ _ _ _ _
   simp only [RetW]
   (try simp -implicitDefEqProofs (maxSteps := 4000000) (disch := first | omega | decide | (simp only [go_sem]; omega)) only [go_sem, ↓reduceIte])
   (try simp (disch := omega) only [if_pos, Nat.sub_zero])
   exact leT_refl _
  ·refine runX_condF rfl c2 ?_
   refine runX_skip ?_
   refine endX_seq ?_
   refine runX_seq ?_
   refine runX_regionC fun C hC => ?_
   obtain ⟨v3, h3, h⟩ := bnd_some h
   try simp -implicitDefEqProofs (maxSteps := 4000000) (disch := first | omega | decide | (simp only [go_sem]; omega)) only [go_sem, ↓reduceIte]
   repeat (with_reducible refine And.intro (by first | assumption | omega | (simp; done) | (simp; omega)) ?_)
   refine callG_X (by first | rfl | (simp only [go_sem]; done) | (simp only [closedL, closedT, Bool.and_true]; exact closedL_map _ (fun _ => by first | rfl | (simp only [go_sem]; done)) _)) (F15_ok n v1.1 _ h3) (by repeat (first | exact leL_refl _ | refine leL_cons (by first | exact leT_refl _ | exact leT_virt | exact leT_junk _ | exact leT_sl | exact leT_sln | exact leT_nil | (refine leT_agg (by repeat (first | exact leL_refl _ | refine leL_cons (by first | exact leT_refl _ | exact leT_sl | exact leT_sln | exact leT_nil) ?_)))) ?_)) ?_
   try simp -implicitDefEqProofs (maxSteps := 4000000) (disch := first | omega | decide | (simp only [go_sem]; omega)) only [go_sem, ↓reduceIte]
   repeat (with_reducible refine And.intro (by first | assumption | omega | (simp; done) | (simp; omega)) ?_)
   refine toEnd hC ?_
   refine endX_seq ?_
   refine runX_seq ?_
   refine runX_seq ?_
   refine runX_regionC fun C hC => ?_
   try simp -implicitDefEqProofs (maxSteps := 4000000) (disch := first | omega | decide | (simp only [go_sem]; omega)) only [go_sem, ↓reduceIte]
   repeat (with_reducible refine And.intro (by first | assumption | omega | (simp; done) | (simp; omega)) ?_)
   rcases iteB_some h with ⟨c4, h⟩ | ⟨c4, h⟩
   ·refine guardK_F c4 ?_
    try simp -implicitDefEqProofs (maxSteps := 4000000) (disch := first | omega | decide | (simp only [go_sem]; omega)) only [go_sem, ↓reduceIte]
    repeat (with_reducible refine And.intro (by first | assumption | omega | (simp; done) | (simp; omega)) ?_)
    refine toEnd hC ?_
    refine endX_seq ?_
    refine runX_condT rfl rfl ?_
    refine runX_seq ?_
    refine runX_regionC fun C hC => ?_
    try simp -implicitDefEqProofs (maxSteps := 4000000) (disch := first | omega | decide | (simp only [go_sem]; omega)) only [go_sem, ↓reduceIte]
    repeat (with_reducible refine And.intro (by first | assumption | omega | (simp; done) | (simp; omega)) ?_)
    refine toEnd hC ?_
    refine endX_seq ?_
    refine runX_ret ?_
    refine endX_seqR ?_
    refine endX_q ?_
    obtain rfl := Option.some.inj h
    show RetW _ _ _ _ _
    simp only [RetW]
    (try simp -implicitDefEqProofs (maxSteps := 4000000) (disch := first | omega | decide | (simp only [go_sem]; omega)) only [go_sem, ↓reduceIte])
    (try simp (disch := omega) only [if_pos, Nat.sub_zero])
    exact leT_refl _
   ·refine guardK_T c4 ?_
    try simp -implicitDefEqProofs (maxSteps := 4000000) (disch := first | omega | decide | (simp only [go_sem]; omega)) only [go_sem, ↓reduceIte]
    repeat (with_reducible refine And.intro (by first | assumption | omega | (simp; done) | (simp; omega)) ?_)
    refine toEnd hC ?_
    refine endX_seq ?_
    rcases iteB_some h with ⟨c5, h⟩ | ⟨c5, h⟩
    ·refine runX_condT rfl c5 ?_
     refine runX_seq ?_
     refine runX_regionC fun C hC => ?_
     try simp -implicitDefEqProofs (maxSteps := 4000000) (disch := first | omega | decide | (simp only [go_sem]; omega)) only [go_sem, ↓reduceIte]
     repeat (with_reducible refine And.intro (by first | assumption | omega | (simp; done) | (simp; omega)) ?_)
     refine toEnd hC ?_
     refine endX_seq ?_
     refine runX_ret ?_
     refine endX_seqR ?_
     refine endX_q ?_
     obtain rfl := Option.some.inj h
     show RetW _ _ _ _ _
     simp only [RetW]
     (try simp -implicitDefEqProofs (maxSteps := 4000000) (disch := first | omega | decide | (simp only [go_sem]; omega)) only [go_sem, ↓reduceIte])
     (try simp (disch := omega) only [if_pos, Nat.sub_zero])
     exact leT_refl _
    ·refine runX_condF rfl c5 ?_
     refine runX_skip ?_
     refine endX_seq ?_
     refine runX_seq ?_
     refine runX_regionC fun C hC => ?_
     try simp -implicitDefEqProofs (maxSteps := 4000000) (disch := first | omega | decide | (simp only [go_sem]; omega)) only [go_sem, ↓reduceIte]
     repeat (with_reducible refine And.intro (by first | assumption | omega | (simp; done) | (simp; omega)) ?_)
     refine toEnd hC ?_
     refine endX_seq ?_
     refine runX_ret ?_
     refine endX_q ?_
     obtain rfl := Option.some.inj h
     show RetW _ _ _ _ _
     simp only [RetW]
     (try simp -implicitDefEqProofs (maxSteps := 4000000) (disch := first | omega | decide | (simp only [go_sem]; omega)) only [go_sem, ↓reduceIte])
     (try simp (disch := omega) only [if_pos, Nat.sub_zero])
     exact leT_refl _
end Go.Proofs.YtdaojihnaajfeaaX

set_option linter.unusedVariables false
set_option linter.unusedSimpArgs false
namespace Go.Proofs.YtdaojihnaajfeaaX
open Go Go.RowKit Go.Proofs
set_option maxRecDepth 100000
attribute [local go_sem ↓] stepsK_build stepsK_bs appendS
attribute [local go_sem] String.reduceEq String.reduceNe reduceCtorEq Int.reduceEq Nat.reduceAdd Nat.reduceSub Nat.reduceMul Nat.reduceLT Nat.reduceLeDiff Nat.reduceEqDiff Nat.reduceBEq Int.reduceToNat Int.reduceLT Int.reduceLE Int.reduceGT Int.reduceGE Int.reduceAdd Int.reduceSub Int.reduceMul Int.reduceNeg Int.reduceBEq Int.reduceBNe Int.reducePow Int.reduceDiv Int.reduceMod Int.reduceTDiv Int.reduceTMod Int.reduceNatCast
/-! ### percent.Plain -/
def F30 (n : Nat) (a0 : Int) : Option (Bool) := iteB (a0 == (45 : Int)) (iteB (a0 == (45 : Int)) (some true) ((F26 n a0).bind fun v3 => some (v3 != (0 : Int)))) (iteB (a0 == (46 : Int)) (iteB (a0 == (46 : Int)) (some true) ((F26 n a0).bind fun v6 => some (v6 != (0 : Int)))) (iteB (a0 == (95 : Int)) (iteB (a0 == (95 : Int)) (some true) ((F26 n a0).bind fun v9 => some (v9 != (0 : Int)))) (iteB (a0 == (126 : Int)) (some true) ((F26 n a0).bind fun v11 => some (v11 != (0 : Int))))))
set_option maxHeartbeats 4000000 in
theorem F30_ok : ∀ (n : Nat) (a0 : Int) (r : Bool), F30 n a0 = some r → FnC Try.prog 30 [.imm (.int .u8 a0)] (.imm (.bool r))
 | n, a0, r, h => by
  unfold F30 at h
  refine FnC.goX mixed Try.func30 (by kernel_rfl) rfl ?_
  simp only [Try.ntmps30, List.length_cons, List.length_nil, List.replicate, List.cons_append, List.nil_append, Nat.reduceAdd, Nat.reduceSub]
  refine runX_seq ?_
  refine runX_regionC fun C hC => ?_
  try simp -implicitDefEqProofs (maxSteps := 4000000) (disch := first | omega | decide | (simp only [go_sem]; omega)) only [go_sem, ↓reduceIte]
  repeat (with_reducible refine And.intro (by first | assumption | omega | (simp; done) | (simp; omega)) ?_)
  refine toEnd hC ?_
  refine endX_seq ?_
  refine runX_seq ?_
  refine runX_seq ?_
  refine runX_regionC fun C hC => ?_
  try simp -implicitDefEqProofs (maxSteps := 4000000) (disch := first | omega | decide | (simp only [go_sem]; omega)) only [go_sem, ↓reduceIte]
  repeat (with_reducible refine And.intro (by first | assumption | omega | (simp; done) | (simp; omega)) ?_)
  refine toEnd hC ?_
  refine endX_seq ?_
  refine runX_block ?_
  refine runX_seq ?_
  refine runX_seq ?_
  refine runX_regionC fun C hC => ?_
  try simp -implicitDefEqProofs (maxSteps := 4000000) (disch := first | omega | decide | (simp only [go_sem]; omega)) only [go_sem, ↓reduceIte]
  repeat (with_reducible refine And.intro (by first | assumption | omega | (simp; done) | (simp; omega)) ?_)
  refine toEnd hC ?_
  refine endX_seq ?_
  rcases iteB_some h with ⟨c1, h⟩ | ⟨c1, h⟩
  ·refine runX_condT rfl c1 ?_
   refine runX_skip ?_
   refine endX_seq ?_
   rcases iteB_some h with ⟨c2, h⟩ | ⟨c2, h⟩
   ·refine runX_condT rfl c2 ?_
    refine runX_seq ?_
    refine runX_regionC fun C hC => ?_
    try simp -implicitDefEqProofs (maxSteps := 4000000) (disch := first | omega | decide | (simp only [go_sem]; omega)) only [go_sem, ↓reduceIte]
    repeat (with_reducible refine And.intro (by first | assumption | omega | (simp; done) | (simp; omega)) ?_)
    refine toEnd hC ?_
    refine endX_seq ?_
    refine runX_ret ?_
    refine endX_blkR ?_
    refine endX_seqR ?_
    refine endX_q ?_
    obtain rfl := Option.some.inj h
    show RetW _ _ _ _ _
    simp only [RetW]
    (try simp -implicitDefEqProofs (maxSteps := 4000000) (disch := first | omega | decide | (simp only [go_sem]; omega)) only [go_sem, ↓reduceIte])
    (try simp (disch := omega) only [if_pos, Nat.sub_zero])
    exact leT_refl _
   ·refine runX_condF rfl c2 ?_
    refine runX_skip ?_
    refine endX_blk ?_
    refine endX_seq ?_
    refine runX_seq ?_
    refine runX_regionC fun C hC => ?_
    obtain ⟨v3, h3, h⟩ := bnd_some h
    try simp -implicitDefEqProofs (maxSteps := 4000000) (disch := first | omega | decide | (simp only [go_sem]; omega)) only [go_sem, ↓reduceIte]
    repeat (with_reducible refine And.intro (by first | assumption | omega | (simp; done) | (simp; omega)) ?_)
    refine callG_X (by first | rfl | (simp only [go_sem]; done) | (simp only [closedL, closedT, Bool.and_true]; exact closedL_map _ (fun _ => by first | rfl | (simp only [go_sem]; done)) _)) (F26_ok n a0 _ h3) (by repeat (first | exact leL_refl _ | refine leL_cons (by first | exact leT_refl _ | exact leT_virt | exact leT_junk _ | exact leT_sl | exact leT_sln | exact leT_nil | (refine leT_agg (by repeat (first | exact leL_refl _ | refine leL_cons (by first | exact leT_refl _ | exact leT_sl | exact leT_sln | exact leT_nil) ?_)))) ?_)) ?_
    try simp -implicitDefEqProofs (maxSteps := 4000000) (disch := first | omega | decide | (simp only [go_sem]; omega)) only [go_sem, ↓reduceIte]
    repeat (with_reducible refine And.intro (by first | assumption | omega | (simp; done) | (simp; omega)) ?_)
    refine toEnd hC ?_
    refine endX_seq ?_
    refine runX_ret ?_
    refine endX_q ?_
    obtain rfl := Option.some.inj h
    show RetW _ _ _ _ _
    simp only [RetW]
    (try simp -implicitDefEqProofs (maxSteps := 4000000) (disch := first | omega | decide | (simp only [go_sem]; omega)) only [go_sem, ↓reduceIte])
    (try simp (disch := omega) only [if_pos, Nat.sub_zero])
    exact leT_refl _
  ·refine runX_condF rfl c1 ?_
   refine runX_seq ?_
   refine runX_regionC fun C hC => ?_
   try simp -implicitDefEqProofs (maxSteps := 4000000) (disch := first | omega | decide | (simp only [go_sem]; omega)) only [go_sem, ↓reduceIte]
   repeat (with_reducible refine And.intro (by first | assumption | omega | (simp; done) | (simp; omega)) ?_)
   refine toEnd hC ?_
   refine endX_seq ?_
   rcases iteB_some h with ⟨c4, h⟩ | ⟨c4, h⟩
   ·refine runX_condT rfl c4 ?_
    refine runX_skip ?_
    refine endX_seq ?_
    rcases iteB_some h with ⟨c5, h⟩ | ⟨c5, h⟩
    ·refine runX_condT rfl c5 ?_
     refine runX_seq ?_
     refine runX_regionC fun C hC => ?_
     try simp -implicitDefEqProofs (maxSteps := 4000000) (disch := first | omega | decide | (simp only [go_sem]; omega)) only [go_sem, ↓reduceIte]
     repeat (with_reducible refine And.intro (by first | assumption | omega | (simp; done) | (simp; omega)) ?_)
     refine toEnd hC ?_
     refine endX_seq ?_
     refine runX_ret ?_
     refine endX_blkR ?_
     refine endX_seqR ?_
     refine endX_q ?_
     obtain rfl := Option.some.inj h
     show RetW _ _ _ _ _
     simp only [RetW]
     (try simp -implicitDefEqProofs (maxSteps := 4000000) (disch := first | omega | decide | (simp only [go_sem]; omega)) only [go_sem, ↓reduceIte])
     (try simp (disch := omega) only [if_pos, Nat.sub_zero])
     exact leT_refl _
    ·refine runX_condF rfl c5 ?_
     refine runX_skip ?_
     refine endX_blk ?_
     refine endX_seq ?_
     refine runX_seq ?_
     refine runX_regionC fun C hC => ?_
     obtain ⟨v6, h6, h⟩ := bnd_some h
     try simp -implicitDefEqProofs (maxSteps := 4000000) (disch := first | omega | decide | (simp only [go_sem]; omega)) only [go_sem, ↓reduceIte]
     repeat (with_reducible refine And.intro (by first | assumption | omega | (simp; done) | (simp; omega)) ?_)
     refine callG_X (by first | rfl | (simp only [go_sem]; done) | (simp only [closedL, closedT, Bool.and_true]; exact closedL_map _ (fun _ => by first | rfl | (simp only [go_sem]; done)) _)) (F26_ok n a0 _ h6) (by repeat (first | exact leL_refl _ | refine leL_cons (by first | exact leT_refl _ | exact leT_virt | exact leT_junk _ | exact leT_sl | exact leT_sln | exact leT_nil | (refine leT_agg (by repeat (first | exact leL_refl _ | refine leL_cons (by first | exact leT_refl _ | exact leT_sl | exact leT_sln | exact leT_nil) ?_)))) ?_)) ?_
     try simp -implicitDefEqProofs (maxSteps := 4000000) (disch := first | omega | decide | (simp only [go_sem]; omega)) only [go_sem, ↓reduceIte]
     repeat (with_reducible refine And.intro (by first | assumption | omega | (simp; done) | (simp; omega)) ?_)
     refine toEnd hC ?_
     refine endX_seq ?_
     refine runX_ret ?_
     refine endX_q ?_
     obtain rfl := Option.some.inj h
     show RetW _ _ _ _ _
     simp only [RetW]
     (try simp -implicitDefEqProofs (maxSteps := 4000000) (disch := first | omega | decide | (simp only [go_sem]; omega)) only [go_sem, ↓reduceIte])
     (try simp (disch := omega) only [if_pos, Nat.sub_zero])
     exact leT_refl _
   ·refine runX_condF rfl c4 ?_
    refine runX_seq ?_
    refine runX_regionC fun C hC => ?_
    try simp -implicitDefEqProofs (maxSteps := 4000000) (disch := first | omega | decide | (simp only [go_sem]; omega)) only [go_sem, ↓reduceIte]
    repeat (with_reducible refine And.intro (by first | assumption | omega | (simp; done) | (simp; omega)) ?_)
    refine toEnd hC ?_
    refine endX_seq ?_
    rcases iteB_some h with ⟨c7, h⟩ | ⟨c7, h⟩
    ·refine runX_condT rfl c7 ?_
     refine runX_skip ?_
     refine endX_seq ?_
     rcases iteB_some h with ⟨c8, h⟩ | ⟨c8, h⟩
     ·refine runX_condT rfl c8 ?_
      refine runX_seq ?_
      refine runX_regionC fun C hC => ?_
      try simp -implicitDefEqProofs (maxSteps := 4000000) (disch := first | omega | decide | (simp only [go_sem]; omega)) only [go_sem, ↓reduceIte]
      repeat (with_reducible refine And.intro (by first | assumption | omega | (simp; done) | (simp; omega)) ?_)
      refine toEnd hC ?_
      refine endX_seq ?_
      refine runX_ret ?_
      refine endX_blkR ?_
      refine endX_seqR ?_
      refine endX_q ?_
      obtain rfl := Option.some.inj h
      show RetW _ _ _ _ _
      simp only [RetW]
      (try simp -implicitDefEqProofs (maxSteps := 4000000) (disch := first | omega | decide | (simp only [go_sem]; omega)) only [go_sem, ↓reduceIte])
      (try simp (disch := omega) only [if_pos, Nat.sub_zero])
      exact leT_refl _
     ·refine runX_condF rfl c8 ?_
      refine runX_skip ?_
      refine endX_blk ?_
      refine endX_seq ?_
      refine runX_seq ?_
      refine runX_regionC fun C hC => ?_
      obtain ⟨v9, h9, h⟩ := bnd_some h
      try simp -implicitDefEqProofs (maxSteps := 4000000) (disch := first | omega | decide | (simp only [go_sem]; omega)) only [go_sem, ↓reduceIte]
      repeat (with_reducible refine And.intro (by first | assumption | omega | (simp; done) | (simp; omega)) ?_)
      refine callG_X (by first | rfl | (simp only [go_sem]; done) | (simp only [closedL, closedT, Bool.and_true]; exact closedL_map _ (fun _ => by first | rfl | (simp only [go_sem]; done)) _)) (F26_ok n a0 _ h9) (by repeat (first | exact leL_refl _ | refine leL_cons (by first | exact leT_refl _ | exact leT_virt | exact leT_junk _ | exact leT_sl | exact leT_sln | exact leT_nil | (refine leT_agg (by repeat (first | exact leL_refl _ | refine leL_cons (by first | exact leT_refl _ | exact leT_sl | exact leT_sln | exact leT_nil) ?_)))) ?_)) ?_
      try simp -implicitDefEqProofs (maxSteps := 4000000) (disch := first | omega | decide | (simp only [go_sem]; omega)) only [go_sem, ↓reduceIte]
      repeat (with_reducible refine And.intro (by first | assumption | omega | (simp; done) | (simp; omega)) ?_)
      refine toEnd hC ?_
      refine endX_seq ?_
      refine runX_ret ?_
      refine endX_q ?_
      obtain rfl := Option.some.inj h
      show RetW _ _ _ _ _
      simp only [RetW]
      (try simp -implicitDefEqProofs (maxSteps := 4000000) (disch := first | omega | decide | (simp only [go_sem]; omega)) only [go_sem, ↓reduceIte])
      (try simp (disch := omega) only [if_pos, Nat.sub_zero])
      exact leT_refl _
    ·refine runX_condF rfl c7 ?_
     refine runX_regionC fun C hC => ?_
     try simp -implicitDefEqProofs (maxSteps := 4000000) (disch := first | omega | decide | (simp only [go_sem]; omega)) only [go_sem, ↓reduceIte]
     repeat (with_reducible refine And.intro (by first | assumption | omega | (simp; done) | (simp; omega)) ?_)
     refine toEnd hC ?_
     refine endX_seq ?_
     rcases iteB_some h with ⟨c10, h⟩ | ⟨c10, h⟩
     ·refine runX_condT rfl c10 ?_
      refine runX_seq ?_
      refine runX_regionC fun C hC => ?_
      try simp -implicitDefEqProofs (maxSteps := 4000000) (disch := first | omega | decide | (simp only [go_sem]; omega)) only [go_sem, ↓reduceIte]
      repeat (with_reducible refine And.intro (by first | assumption | omega | (simp; done) | (simp; omega)) ?_)
      refine toEnd hC ?_
      refine endX_seq ?_
      refine runX_ret ?_
      refine endX_blkR ?_
      refine endX_seqR ?_
      refine endX_q ?_
      obtain rfl := Option.some.inj h
      show RetW _ _ _ _ _
      simp only [RetW]
      (try simp -implicitDefEqProofs (maxSteps := 4000000) (disch := first | omega | decide | (simp only [go_sem]; omega)) only [go_sem, ↓reduceIte])
      (try simp (disch := omega) only [if_pos, Nat.sub_zero])
      exact leT_refl _
     ·refine runX_condF rfl c10 ?_
      refine runX_skip ?_
      refine endX_blk ?_
      refine endX_seq ?_
      refine runX_seq ?_
      refine runX_regionC fun C hC => ?_
      obtain ⟨v11, h11, h⟩ := bnd_some h
      try simp -implicitDefEqProofs (maxSteps := 4000000) (disch := first | omega | decide | (simp only [go_sem]; omega)) only [go_sem, ↓reduceIte]
      repeat (with_reducible refine And.intro (by first | assumption | omega | (simp; done) | (simp; omega)) ?_)
      refine callG_X (by first | rfl | (simp only [go_sem]; done) | (simp only [closedL, closedT, Bool.and_true]; exact closedL_map _ (fun _ => by first | rfl | (simp only [go_sem]; done)) _)) (F26_ok n a0 _ h11) (by repeat (first | exact leL_refl _ | refine leL_cons (by first | exact leT_refl _ | exact leT_virt | exact leT_junk _ | exact leT_sl | exact leT_sln | exact leT_nil | (refine leT_agg (by repeat (first | exact leL_refl _ | refine leL_cons (by first | exact leT_refl _ | exact leT_sl | exact leT_sln | exact leT_nil) ?_)))) ?_)) ?_
      try simp -implicitDefEqProofs (maxSteps := 4000000) (disch := first | omega | decide | (simp only [go_sem]; omega)) only [go_sem, ↓reduceIte]
      repeat (with_reducible refine And.intro (by first | assumption | omega | (simp; done) | (simp; omega)) ?_)
      refine toEnd hC ?_
      refine endX_seq ?_
      refine runX_ret ?_
      refine endX_q ?_
      obtain rfl := Option.some.inj h
      show RetW _ _ _ _ _
      simp only [RetW]
      (try simp -implicitDefEqProofs (maxSteps := 4000000) (disch := first | omega | decide | (simp only [go_sem]; omega)) only [go_sem, ↓reduceIte])
      (try simp (disch := omega) only [if_pos, Nat.sub_zero])
      exact leT_refl _
end Go.Proofs.YtdaojihnaajfeaaX

set_option linter.unusedVariables false
set_option linter.unusedSimpArgs false
namespace Go.Proofs.YtdaojihnaajfeaaX
open Go Go.RowKit Go.Proofs
set_option maxRecDepth 100000
attribute [local go_sem ↓] stepsK_build stepsK_bs appendS
attribute [local go_sem] String.reduceEq String.reduceNe reduceCtorEq Int.reduceEq Nat.reduceAdd Nat.reduceSub Nat.reduceMul Nat.reduceLT Nat.reduceLeDiff Nat.reduceEqDiff Nat.reduceBEq Int.reduceToNat Int.reduceLT Int.reduceLE Int.reduceGT Int.reduceGE Int.reduceAdd Int.reduceSub Int.reduceMul Int.reduceNeg Int.reduceBEq Int.reduceBNe Int.reducePow Int.reduceDiv Int.reduceMod Int.reduceTDiv Int.reduceTMod Int.reduceNatCast
/-! ### percent.Encode$1 -/
def F29 (n : Nat) (a0 : Int) (a1 : Bool) : Option ((Bool) × (Bool)) := (F30 n a0).bind fun v1 => iteB v1 (some (true, a1)) (iteB a1 (some ((a0 == (47 : Int)), a1)) (some (false, a1)))
set_option maxHeartbeats 4000000 in
theorem F29_ok : ∀ (n : Nat) (a0 : Int) (a1 : Bool) (r : (Bool) × (Bool)), F29 n a0 a1 = some r → FnR Try.prog 29 [some (.box 4294967300 (.imm (.bool a1)) false)] [.imm (.int .u8 a0), .ref 0 0 0 0] (.imm (.bool r.1)) [some (.box 4294967300 (.imm (.bool r.2)) false)]
 | n, a0, a1, r, h => by
  unfold F29 at h
  refine FnR.goX mixed [3] Try.func29 (by kernel_rfl) rfl (by simp [rowsOk, refsC, refsCL, adT_refsC, tagM]) (by simp [sameO]) (by simp [refsC, refsCL]) ?_
  simp only [Try.ntmps29, List.length_cons, List.length_nil, List.replicate, List.cons_append, List.nil_append, Nat.reduceAdd, Nat.reduceSub]
  refine runX_seq ?_
  refine runX_regionC fun C hC => ?_
  try simp -implicitDefEqProofs (maxSteps := 4000000) (disch := first | omega | decide | (simp only [go_sem]; omega)) only [go_sem, ↓reduceIte]
  repeat (with_reducible refine And.intro (by first | assumption | omega | (simp; done) | (simp; omega)) ?_)
  refine toEnd hC ?_
  refine endX_seq ?_
  refine runX_seq ?_
  refine runX_regionC fun C hC => ?_
  obtain ⟨v1, h1, h⟩ := bnd_some h
  try simp -implicitDefEqProofs (maxSteps := 4000000) (disch := first | omega | decide | (simp only [go_sem]; omega)) only [go_sem, ↓reduceIte]
  repeat (with_reducible refine And.intro (by first | assumption | omega | (simp; done) | (simp; omega)) ?_)
  refine callG_X (by first | rfl | (simp only [go_sem]; done) | (simp only [closedL, closedT, Bool.and_true]; exact closedL_map _ (fun _ => by first | rfl | (simp only [go_sem]; done)) _)) (F30_ok n a0 _ h1) (by repeat (first | exact leL_refl _ | refine leL_cons (by first | exact leT_refl _ | exact leT_virt | exact leT_junk _ | exact leT_sl | exact leT_sln | exact leT_nil | (refine leT_agg (by repeat (first | exact leL_refl _ | refine leL_cons (by first | exact leT_refl _ | exact leT_sl | exact leT_sln | exact leT_nil) ?_)))) ?_)) ?_
  try simp -implicitDefEqProofs (maxSteps := 4000000) (disch := first | omega | decide | (simp only [go_sem]; omega)) only [go_sem, ↓reduceIte]
  repeat (with_reducible refine And.intro (by first | assumption | omega | (simp; done) | (simp; omega)) ?_)
  rcases iteB_some h with ⟨c2, h⟩ | ⟨c2, h⟩
  ·refine guardK_F c2 ?_
   try simp -implicitDefEqProofs (maxSteps := 4000000) (disch := first | omega | decide | (simp only [go_sem]; omega)) only [go_sem, ↓reduceIte]
   repeat (with_reducible refine And.intro (by first | assumption | omega | (simp; done) | (simp; omega)) ?_)
   refine toEnd hC ?_
   refine endX_seq ?_
   refine runX_ret ?_
   refine endX_q ?_
   obtain rfl := Option.some.inj h
   show RetR _ _ _ _ _ _ _ _
   simp only [RetR]
   (try simp -implicitDefEqProofs (maxSteps := 4000000) (disch := first | omega | decide | (simp only [go_sem]; omega)) only [go_sem, ↓reduceIte])
   exact ⟨leOs_refl _, leT_refl _⟩
  ·refine guardK_T c2 ?_
   try simp -implicitDefEqProofs (maxSteps := 4000000) (disch := first | omega | decide | (simp only [go_sem]; omega)) only [go_sem, ↓reduceIte]
   repeat (with_reducible refine And.intro (by first | assumption | omega | (simp; done) | (simp; omega)) ?_)
   rcases iteB_some h with ⟨c3, h⟩ | ⟨c3, h⟩
   ·refine guardK_T c3 ?_
    try simp -implicitDefEqProofs (maxSteps := 4000000) (disch := first | omega | decide | (simp only [go_sem]; omega)) only [go_sem, ↓reduceIte]
    repeat (with_reducible refine And.intro (by first | assumption | omega | (simp; done) | (simp; omega)) ?_)
    refine toEnd hC ?_
    refine endX_seq ?_
    refine runX_ret ?_
    refine endX_q ?_
    obtain rfl := Option.some.inj h
    show RetR _ _ _ _ _ _ _ _
    simp only [RetR]
    (try simp -implicitDefEqProofs (maxSteps := 4000000) (disch := first | omega | decide | (simp only [go_sem]; omega)) only [go_sem, ↓reduceIte])
    exact ⟨leOs_refl _, leT_refl _⟩
   ·refine guardK_F c3 ?_
    try simp -implicitDefEqProofs (maxSteps := 4000000) (disch := first | omega | decide | (simp only [go_sem]; omega)) only [go_sem, ↓reduceIte]
    repeat (with_reducible refine And.intro (by first | assumption | omega | (simp; done) | (simp; omega)) ?_)
    refine toEnd hC ?_
    refine endX_seq ?_
    refine runX_ret ?_
    refine endX_q ?_
    obtain rfl := Option.some.inj h
    show RetR _ _ _ _ _ _ _ _
    simp only [RetR]
    (try simp -implicitDefEqProofs (maxSteps := 4000000) (disch := first | omega | decide | (simp only [go_sem]; omega)) only [go_sem, ↓reduceIte])
    exact ⟨leOs_refl _, leT_refl _⟩
end Go.Proofs.YtdaojihnaajfeaaX

set_option linter.unusedVariables false
set_option linter.unusedSimpArgs false
namespace Go.Proofs.YtdaojihnaajfeaaX
open Go Go.RowKit Go.Proofs
set_option maxRecDepth 100000
attribute [local go_sem ↓] stepsK_build stepsK_bs appendS
attribute [local go_sem] String.reduceEq String.reduceNe reduceCtorEq Int.reduceEq Nat.reduceAdd Nat.reduceSub Nat.reduceMul Nat.reduceLT Nat.reduceLeDiff Nat.reduceEqDiff Nat.reduceBEq Int.reduceToNat Int.reduceLT Int.reduceLE Int.reduceGT Int.reduceGE Int.reduceAdd Int.reduceSub Int.reduceMul Int.reduceNeg Int.reduceBEq Int.reduceBNe Int.reducePow Int.reduceDiv Int.reduceMod Int.reduceTDiv Int.reduceTMod Int.reduceNatCast
/-! ### percent.Encode -/
def F16_S1 (a0 : List UInt8) (x2 : Int) (x3 : Bool) (x4 : List (Int)) : St := ⟨[.imm (.string (bs a0)), .junk, .junk, .junk, .junk, .fn 29 [.ref 0 0 0 0], .rsl 1 1 0 x4.length, .junk, .junk, .junk, .junk, .junk, .junk, .junk, .imm (.int .i64 (a0.length : Int)), .imm (.int .i64 x2), .junk, .junk, .junk, .junk, .junk, .junk, .junk, .junk, .junk, .junk, .junk, .junk, .junk, .junk, .junk, .junk, .junk, .junk, .junk, .junk, .junk, .junk, .junk, .junk], [some (.box 4 (.imm (.bool x3)) false), some (.buf 5 1 (List.map byteT x4) 0)]⟩
def F16_L1 : Nat → (List UInt8) → (Int) → (Bool) → (List (Int)) → Option (List UInt8)
 | 0, _, _, _, _ => none
 | m1 + 1, a0, x2, x3, x4 => iteB (decide (x2 < (a0.length : Int))) (grd (0 ≤ x2 ∧ x2 < (a0.length : Int)) ((F29 m1 ((a0.getD x2.toNat 0).toNat : Int) x3).bind fun v7 => iteB v7.1 (grd ((x4.length + 1) ≤ 549755813888) (F16_L1 m1 a0 (IntKind.wrap .i64 (x2 + (1 : Int))) v7.2 (x4 ++ [((a0.getD x2.toNat 0).toNat : Int)]))) (grd (0 ≤ (bShr .u8 ((a0.getD x2.toNat 0).toNat : Int) 4) ∧ (bShr .u8 ((a0.getD x2.toNat 0).toNat : Int) 4) < (16 : Int)) (grd (0 ≤ (IntKind.wrap .u8 (bAnd .u8 ((a0.getD x2.toNat 0).toNat : Int) (15 : Int))) ∧ (IntKind.wrap .u8 (bAnd .u8 ((a0.getD x2.toNat 0).toNat : Int) (15 : Int))) < (16 : Int)) (grd ((x4.length + 3) ≤ 549755813888) (F16_L1 m1 a0 (IntKind.wrap .i64 (x2 + (1 : Int))) v7.2 (x4 ++ ([(37 : Int), ((([48, 49, 50, 51, 52, 53, 54, 55, 56, 57, 65, 66, 67, 68, 69, 70] : List UInt8).getD (bShr .u8 ((a0.getD x2.toNat 0).toNat : Int) 4).toNat 0).toNat : Int), ((([48, 49, 50, 51, 52, 53, 54, 55, 56, 57, 65, 66, 67, 68, 69, 70] : List UInt8).getD (IntKind.wrap .u8 (bAnd .u8 ((a0.getD x2.toNat 0).toNat : Int) (15 : Int))).toNat 0).toNat : Int)])))))))) (some (x4.map toB))
def F16 (n : Nat) (a0 : List UInt8) (a1 : Bool) : Option (List UInt8) := grd ((0 : Int) ≤ (a0.length : Int) ∧ (a0.length : Int) ≤ 1099511627776) (F16_L1 n a0 (0 : Int) a1 [])
set_option maxHeartbeats 4000000 in
theorem F16_ok : ∀ (n : Nat) (a0 : List UInt8) (a1 : Bool) (r : List UInt8), F16 n a0 a1 = some r → FnC Try.prog 16 [.imm (.string (bs a0)), .imm (.bool a1)] (.imm (.string (bs r)))
 | n, a0, a1, r, h => by
  unfold F16 at h
  refine FnC.goX mixed Try.func16 (by kernel_rfl) rfl ?_
  simp only [Try.ntmps16, List.length_cons, List.length_nil, List.replicate, List.cons_append, List.nil_append, Nat.reduceAdd, Nat.reduceSub]
  refine runX_seq ?_
  refine runX_regionC fun C hC => ?_
  try simp -implicitDefEqProofs (maxSteps := 4000000) (disch := first | omega | decide | (simp only [go_sem]; omega)) only [go_sem, ↓reduceIte]
  repeat (with_reducible refine And.intro (by first | assumption | omega | (simp; done) | (simp; omega)) ?_)
  refine toEnd hC ?_
  refine endX_seq ?_
  refine runX_seq ?_
  refine runX_regionC fun C hC => ?_
  try simp -implicitDefEqProofs (maxSteps := 4000000) (disch := first | omega | decide | (simp only [go_sem]; omega)) only [go_sem, ↓reduceIte]
  repeat (with_reducible refine And.intro (by first | assumption | omega | (simp; done) | (simp; omega)) ?_)
  refine toEnd hC ?_
  refine endX_seq ?_
  refine runX_seq ?_
  refine runX_regionC fun C hC => ?_
  obtain ⟨g1, h⟩ := grd_some h
  try simp -implicitDefEqProofs (maxSteps := 4000000) (disch := first | omega | decide | (simp only [go_sem]; omega)) only [go_sem, ↓reduceIte]
  repeat (with_reducible refine And.intro (by first | assumption | omega | (simp; done) | (simp; omega)) ?_)
  refine toEnd hC ?_
  refine endX_seq ?_
  refine runX_seq ?_
  refine runX_seq ?_
  refine runX_regionC fun C hC => ?_
  try simp -implicitDefEqProofs (maxSteps := 4000000) (disch := first | omega | decide | (simp only [go_sem]; omega)) only [go_sem, ↓reduceIte]
  repeat (with_reducible refine And.intro (by first | assumption | omega | (simp; done) | (simp; omega)) ?_)
  refine toEnd hC ?_
  refine endX_seq ?_
  refine runX_block ?_
  refine runX_loop [0, 5, 6, 14, 15] (fun m S => ∃ (x2 : Int) (x3 : Bool) (x4 : List (Int)), S = F16_S1 a0 x2 x3 x4 ∧ m ≤ n ∧ F16_L1 m a0 x2 x3 x4 = some r) n ⟨F16_S1 a0 (0 : Int) a1 [], ?_, (0 : Int), a1, [], rfl, Nat.le_refl _, h⟩ ?_
  ·simp only [F16_S1]
   (try simp -implicitDefEqProofs (maxSteps := 4000000) (disch := first | omega | decide | (simp only [go_sem]; omega)) only [go_sem, ↓reduceIte])
   first | exact leS_refl _ | (refine leS_le ?_ ?_ <;> first | exact leL_refl _ | exact leOs_refl _ | (simp only [List.append_assoc, List.cons_append, List.nil_append]; exact leOs_refl _) | (refine leOs.cons (by first | exact leO.same _ | (refine leO.box (leT_agg (by repeat (first | exact leL_refl _ | refine leL_cons (by first | exact leT_refl _ | exact leT_virt | exact leT_junk _ | exact leT_sl | exact leT_sln | exact leT_nil | (refine leT_agg (by repeat (first | exact leL_refl _ | refine leL_cons (by first | exact leT_refl _ | exact leT_sl | exact leT_sln | exact leT_nil) ?_)))) ?_))) rfl) | (refine leO.box (by first | exact leT_virt | exact leT_sl | exact leT_sln) rfl)) ?_; repeat (first | exact leOs_refl _ | refine leOs.cons (by first | exact leO.same _ | (refine leO.box (leT_agg (by repeat (first | exact leL_refl _ | refine leL_cons (by first | exact leT_refl _ | exact leT_virt | exact leT_junk _ | exact leT_sl | exact leT_sln | exact leT_nil | (refine leT_agg (by repeat (first | exact leL_refl _ | refine leL_cons (by first | exact leT_refl _ | exact leT_sl | exact leT_sln | exact leT_nil) ?_)))) ?_))) rfl) | (refine leO.box (by first | exact leT_virt | exact leT_sl | exact leT_sln) rfl)) ?_)) | (repeat (first | exact leL_refl _ | refine leL_cons (by first | exact leT_refl _ | exact leT_virt | exact leT_junk _ | exact leT_sl | exact leT_sln | exact leT_nil | (refine leT_agg (by repeat (first | exact leL_refl _ | refine leL_cons (by first | exact leT_refl _ | exact leT_sl | exact leT_sln | exact leT_nil) ?_)))) ?_)))
  ·clear h
   rintro m1 S ⟨x2, x3, x4, rfl, hm1, h⟩
   cases m1 with
   | zero => first | cases (show (none : Option _) = some _ from h) | (rw [F16_L1] at h; cases h)
   | succ m1 =>
    rw [F16_L1] at h
    simp only [F16_S1]
    refine runX_seq ?_
    refine runX_regionC fun C hC => ?_
    try simp -implicitDefEqProofs (maxSteps := 4000000) (disch := first | omega | decide | (simp only [go_sem]; omega)) only [go_sem, ↓reduceIte]
    repeat (with_reducible refine And.intro (by first | assumption | omega | (simp; done) | (simp; omega)) ?_)
    refine toEnd hC ?_
    refine endX_seq ?_
    refine runX_seq ?_
    rcases iteB_some h with ⟨c5, h⟩ | ⟨c5, h⟩
    ·refine runX_condT rfl c5 ?_
     refine runX_skip ?_
     refine endX_seq ?_
     refine runX_seq ?_
     refine runX_block ?_
     refine runX_seq ?_
     refine runX_regionC fun C hC => ?_
     try simp -implicitDefEqProofs (maxSteps := 4000000) (disch := first | omega | decide | (simp only [go_sem]; omega)) only [go_sem, ↓reduceIte]
     repeat (with_reducible refine And.intro (by first | assumption | omega | (simp; done) | (simp; omega)) ?_)
     refine toEnd hC ?_
     refine endX_seq ?_
     refine runX_seq ?_
     refine runX_regionC fun C hC => ?_
     obtain ⟨g6, h⟩ := grd_some h
     try simp -implicitDefEqProofs (maxSteps := 4000000) (disch := first | omega | decide | (simp only [go_sem]; omega)) only [go_sem, ↓reduceIte]
     repeat (with_reducible refine And.intro (by first | assumption | omega | (simp; done) | (simp; omega)) ?_)
     refine toEnd hC ?_
     refine endX_seq ?_
     refine runX_seq ?_
     refine runX_regionC fun C hC => ?_
     obtain ⟨v7, h7, h⟩ := bnd_some h
     try simp -implicitDefEqProofs (maxSteps := 4000000) (disch := first | omega | decide | (simp only [go_sem]; omega)) only [go_sem, ↓reduceIte]
     repeat (with_reducible refine And.intro (by first | assumption | omega | (simp; done) | (simp; omega)) ?_)
     refine callR_X [0] (F29_ok m1 ((a0.getD x2.toNat 0).toNat : Int) x3 _ h7) (by decide) (by (try simp -implicitDefEqProofs (maxSteps := 4000000) (disch := first | omega | decide | (simp only [go_sem]; omega)) only [go_sem, ↓reduceIte]); repeat (first | exact trivial | refine And.intro ?_ ?_ | exact fun _ => trivial | exact fun _ _ => trivial | exact fun _ _ h => h | rfl | decide)) (by (try simp -implicitDefEqProofs (maxSteps := 4000000) (disch := first | omega | decide | (simp only [go_sem]; omega)) only [go_sem, ↓reduceIte]); repeat (first | exact leL_refl _ | refine leL_cons (by first | exact leT_refl _ | exact leT_virt | exact leT_junk _ | exact leT_sl | exact leT_sln | exact leT_nil | (refine leT_agg (by repeat (first | exact leL_refl _ | refine leL_cons (by first | exact leT_refl _ | exact leT_sl | exact leT_sln | exact leT_nil) ?_)))) ?_)) ?_
     try simp -implicitDefEqProofs (maxSteps := 4000000) (disch := first | omega | decide | (simp only [go_sem]; omega)) only [go_sem, ↓reduceIte]
     repeat (with_reducible refine And.intro (by first | assumption | omega | (simp; done) | (simp; omega)) ?_)
     refine toEnd hC ?_
     refine endX_seq ?_
     rcases iteB_some h with ⟨c8, h⟩ | ⟨c8, h⟩
     ·refine runX_condT rfl c8 ?_
      refine runX_regionC fun C hC => ?_
      try simp -implicitDefEqProofs (maxSteps := 4000000) (disch := first | omega | decide | (simp only [go_sem]; omega)) only [go_sem, ↓reduceIte]
      repeat (with_reducible refine And.intro (by first | assumption | omega | (simp; done) | (simp; omega)) ?_)
      refine bs_go <| buildX_val ?_
      obtain ⟨g9, h⟩ := grd_some h
      try simp -implicitDefEqProofs (maxSteps := 4000000) (disch := first | omega | decide | (simp only [go_sem]; omega)) only [go_sem, ↓reduceIte]
      repeat (with_reducible refine And.intro (by first | assumption | omega | (simp; done) | (simp; omega)) ?_)
      refine toEnd hC ?_
      refine endX_blk ?_
      refine endX_seq ?_
      refine runX_regionC fun C hC => ?_
      try simp -implicitDefEqProofs (maxSteps := 4000000) (disch := first | omega | decide | (simp only [go_sem]; omega)) only [go_sem, ↓reduceIte]
      repeat (with_reducible refine And.intro (by first | assumption | omega | (simp; done) | (simp; omega)) ?_)
      refine toEnd hC ?_
      refine endX_q (roundQ_normal ⟨m1, by omega, F16_S1 a0 (IntKind.wrap .i64 (x2 + (1 : Int))) v7.2 (x4 ++ [((a0.getD x2.toNat 0).toNat : Int)]), ?_, (IntKind.wrap .i64 (x2 + (1 : Int))), v7.2, (x4 ++ [((a0.getD x2.toNat 0).toNat : Int)]), rfl, by omega, h⟩)
      simp only [F16_S1]
      (try simp -implicitDefEqProofs (maxSteps := 4000000) (disch := first | omega | decide | (simp only [go_sem]; omega)) only [go_sem, ↓reduceIte])
      first | exact leS_refl _ | (refine leS_le ?_ ?_ <;> first | exact leL_refl _ | exact leOs_refl _ | (simp only [List.append_assoc, List.cons_append, List.nil_append]; exact leOs_refl _) | (refine leOs.cons (by first | exact leO.same _ | (refine leO.box (leT_agg (by repeat (first | exact leL_refl _ | refine leL_cons (by first | exact leT_refl _ | exact leT_virt | exact leT_junk _ | exact leT_sl | exact leT_sln | exact leT_nil | (refine leT_agg (by repeat (first | exact leL_refl _ | refine leL_cons (by first | exact leT_refl _ | exact leT_sl | exact leT_sln | exact leT_nil) ?_)))) ?_))) rfl) | (refine leO.box (by first | exact leT_virt | exact leT_sl | exact leT_sln) rfl)) ?_; repeat (first | exact leOs_refl _ | refine leOs.cons (by first | exact leO.same _ | (refine leO.box (leT_agg (by repeat (first | exact leL_refl _ | refine leL_cons (by first | exact leT_refl _ | exact leT_virt | exact leT_junk _ | exact leT_sl | exact leT_sln | exact leT_nil | (refine leT_agg (by repeat (first | exact leL_refl _ | refine leL_cons (by first | exact leT_refl _ | exact leT_sl | exact leT_sln | exact leT_nil) ?_)))) ?_))) rfl) | (refine leO.box (by first | exact leT_virt | exact leT_sl | exact leT_sln) rfl)) ?_)) | (repeat (first | exact leL_refl _ | refine leL_cons (by first | exact leT_refl _ | exact leT_virt | exact leT_junk _ | exact leT_sl | exact leT_sln | exact leT_nil | (refine leT_agg (by repeat (first | exact leL_refl _ | refine leL_cons (by first | exact leT_refl _ | exact leT_sl | exact leT_sln | exact leT_nil) ?_)))) ?_)))
     ·refine runX_condF rfl c8 ?_
      refine runX_drawC mixed (by kernel_rfl) fun C hC => ?_
      obtain ⟨g10, h⟩ := grd_some h
      obtain ⟨g11, h⟩ := grd_some h
      try simp -implicitDefEqProofs (maxSteps := 4000000) (disch := first | omega | decide | (simp only [go_sem]; omega)) only [go_sem, ↓reduceIte]
      repeat (with_reducible refine And.intro (by first | assumption | omega | (simp; done) | (simp; omega)) ?_)
      refine buildX_val ?_
      obtain ⟨g12, h⟩ := grd_some h
      try simp -implicitDefEqProofs (maxSteps := 4000000) (disch := first | omega | decide | (simp only [go_sem]; omega)) only [go_sem, ↓reduceIte]
      repeat (with_reducible refine And.intro (by first | assumption | omega | (simp; done) | (simp; omega)) ?_)
      refine toEnd hC ?_
      refine endX_blk ?_
      refine endX_seq ?_
      refine runX_regionC fun C hC => ?_
      try simp -implicitDefEqProofs (maxSteps := 4000000) (disch := first | omega | decide | (simp only [go_sem]; omega)) only [go_sem, ↓reduceIte]
      repeat (with_reducible refine And.intro (by first | assumption | omega | (simp; done) | (simp; omega)) ?_)
      refine toEnd hC ?_
      refine endX_q (roundQ_normal ⟨m1, by omega, F16_S1 a0 (IntKind.wrap .i64 (x2 + (1 : Int))) v7.2 (x4 ++ ([(37 : Int), ((([48, 49, 50, 51, 52, 53, 54, 55, 56, 57, 65, 66, 67, 68, 69, 70] : List UInt8).getD (bShr .u8 ((a0.getD x2.toNat 0).toNat : Int) 4).toNat 0).toNat : Int), ((([48, 49, 50, 51, 52, 53, 54, 55, 56, 57, 65, 66, 67, 68, 69, 70] : List UInt8).getD (IntKind.wrap .u8 (bAnd .u8 ((a0.getD x2.toNat 0).toNat : Int) (15 : Int))).toNat 0).toNat : Int)])), ?_, (IntKind.wrap .i64 (x2 + (1 : Int))), v7.2, (x4 ++ ([(37 : Int), ((([48, 49, 50, 51, 52, 53, 54, 55, 56, 57, 65, 66, 67, 68, 69, 70] : List UInt8).getD (bShr .u8 ((a0.getD x2.toNat 0).toNat : Int) 4).toNat 0).toNat : Int), ((([48, 49, 50, 51, 52, 53, 54, 55, 56, 57, 65, 66, 67, 68, 69, 70] : List UInt8).getD (IntKind.wrap .u8 (bAnd .u8 ((a0.getD x2.toNat 0).toNat : Int) (15 : Int))).toNat 0).toNat : Int)])), rfl, by omega, h⟩)
      simp only [F16_S1]
      (try simp -implicitDefEqProofs (maxSteps := 4000000) (disch := first | omega | decide | (simp only [go_sem]; omega)) only [go_sem, ↓reduceIte])
      first | exact leS_refl _ | (refine leS_le ?_ ?_ <;> first | exact leL_refl _ | exact leOs_refl _ | (simp only [List.append_assoc, List.cons_append, List.nil_append]; exact leOs_refl _) | (refine leOs.cons (by first | exact leO.same _ | (refine leO.box (leT_agg (by repeat (first | exact leL_refl _ | refine leL_cons (by first | exact leT_refl _ | exact leT_virt | exact leT_junk _ | exact leT_sl | exact leT_sln | exact leT_nil | (refine leT_agg (by repeat (first | exact leL_refl _ | refine leL_cons (by first | exact leT_refl _ | exact leT_sl | exact leT_sln | exact leT_nil) ?_)))) ?_))) rfl) | (refine leO.box (by first | exact leT_virt | exact leT_sl | exact leT_sln) rfl)) ?_; repeat (first | exact leOs_refl _ | refine leOs.cons (by first | exact leO.same _ | (refine leO.box (leT_agg (by repeat (first | exact leL_refl _ | refine leL_cons (by first | exact leT_refl _ | exact leT_virt | exact leT_junk _ | exact leT_sl | exact leT_sln | exact leT_nil | (refine leT_agg (by repeat (first | exact leL_refl _ | refine leL_cons (by first | exact leT_refl _ | exact leT_sl | exact leT_sln | exact leT_nil) ?_)))) ?_))) rfl) | (refine leO.box (by first | exact leT_virt | exact leT_sl | exact leT_sln) rfl)) ?_)) | (repeat (first | exact leL_refl _ | refine leL_cons (by first | exact leT_refl _ | exact leT_virt | exact leT_junk _ | exact leT_sl | exact leT_sln | exact leT_nil | (refine leT_agg (by repeat (first | exact leL_refl _ | refine leL_cons (by first | exact leT_refl _ | exact leT_sl | exact leT_sln | exact leT_nil) ?_)))) ?_)))
    ·refine runX_condF rfl c5 ?_
     refine runX_exit ?_
     refine endX_seqE ?_
     refine endX_q (roundQ_exit ?_)
     refine endX_blkE ?_
     refine endX_seq ?_
     refine runX_seq ?_
     refine runX_regionC fun C hC => ?_
     try simp -implicitDefEqProofs (maxSteps := 4000000) (disch := first | omega | decide | (simp only [go_sem]; omega)) only [go_sem, ↓reduceIte]
     repeat (with_reducible refine And.intro (by first | assumption | omega | (simp; done) | (simp; omega)) ?_)
     refine toEnd hC ?_
     refine endX_seq ?_
     refine runX_ret ?_
     refine endX_q ?_
     obtain rfl := Option.some.inj h
     show RetW _ _ _ _ _
     simp only [RetW]
     (try simp -implicitDefEqProofs (maxSteps := 4000000) (disch := first | omega | decide | (simp only [go_sem]; omega)) only [go_sem, ↓reduceIte])
     (try simp (disch := omega) only [if_pos, Nat.sub_zero])
     exact leT_refl _
end Go.Proofs.YtdaojihnaajfeaaX

/- A row of the caller's that is sorted. Of no program. -/
set_option linter.unusedVariables false
set_option linter.unusedSimpArgs false
namespace Go.Proofs.YtdaojihnaajfeaaX
open Go Go.RowKit Go.Sort Go.Lib
theorem flat_get {α : Type} [Inhabited α] (enc : α → List Value) (k : Nat) (hk : ∀ x, (enc x).length = k) (h0 : 0 < k) : ∀ (l : List α) (j : Nat), j < l.length * k → (l.flatMap enc)[j]? = some ((enc (l.toArray[j / k]!))[j % k]!)
  | [], j, h => by simp at h
  | x :: l, j, h => by
    rw [List.flatMap_cons]
    by_cases hj : j < k
    · rw [List.getElem?_append_left (by rw [hk]; exact hj), Nat.div_eq_of_lt hj, Nat.mod_eq_of_lt hj]
      have hx : (x :: l).toArray[0]! = x := by simp
      rw [hx, List.getElem?_eq_getElem (by rw [hk]; exact hj), getElem!_pos _ _ (by rw [hk]; exact hj)]
    · have ih := flat_get enc k hk h0 l (j - k) (by rw [List.length_cons, Nat.add_mul, Nat.one_mul] at h; omega)
      rw [List.getElem?_append_right (by rw [hk]; omega), hk, ih]
      have hd : j / k = (j - k) / k + 1 := by
        conv => lhs; rw [show j = (j - k) + k by omega]
        rw [Nat.add_div_right _ h0]
      have hm : j % k = (j - k) % k := by
        conv => lhs; rw [show j = (j - k) + k by omega]
        rw [Nat.add_mod_right]
      rw [hd, hm]
      have : (x :: l).toArray[(j - k) / k + 1]! = l.toArray[(j - k) / k]! := by simp
      rw [this]
theorem flat_len {α : Type} (enc : α → List Value) (k : Nat) (hk : ∀ x, (enc x).length = k) : ∀ l : List α, (l.flatMap enc).length = l.length * k
  | [] => by simp
  | x :: l => by rw [List.flatMap_cons, List.length_append, hk, flat_len enc k hk l, List.length_cons, Nat.add_mul, Nat.one_mul]; omega
theorem put_flat {α : Type} [Inhabited α] (enc : α → List Value) (k : Nat) (hk : ∀ x, (enc x).length = k) (h0 : 0 < k) (d : List α) (c : Array Value) (c1 c2 : List Value) (hc : c.toList = c1 ++ c2) (h1 : c1.length = d.length * k) :
    (putCells id 0 (flatK enc k d.toArray) c).toList = d.flatMap enc ++ c2 := by
  have hsz : c.size = c1.length + c2.length := by rw [← Array.length_toList, hc, List.length_append]
  refine List.ext_getElem? fun j => ?_
  have hfl := flat_len enc k hk d
  have hfs : (flatK enc k d.toArray).size = d.length * k := by rw [size_flatK]; simp
  have hl : (putCells id 0 (flatK enc k d.toArray) c).toList[j]? = (c[j]?).map fun x => if 0 ≤ j ∧ j < 0 + (flatK enc k d.toArray).size then id (flatK enc k d.toArray)[j - 0]! else x := by
    unfold putCells
    rw [Array.getElem?_toList, Array.getElem?_mapIdx]
  rw [hl]
  have hcj : c[j]? = (c1 ++ c2)[j]? := by rw [← hc, Array.getElem?_toList]
  rw [hcj]
  by_cases hj : j < d.length * k
  · rw [List.getElem?_append_left (by omega), List.getElem?_append_left (by omega), flat_get enc k hk h0 d j hj, List.getElem?_eq_getElem (by omega)]
    rw [Option.map_some, if_pos ⟨Nat.zero_le _, by omega⟩, Nat.sub_zero, get_flatK _ _ _ _ (by simpa using hj)]
    rfl
  · rw [List.getElem?_append_right (by omega), List.getElem?_append_right (by omega), hfl, h1]
    have : (fun x : Value => if 0 ≤ j ∧ j < 0 + (flatK enc k d.toArray).size then id (flatK enc k d.toArray)[j - 0]! else x) = id := by
      funext x; rw [if_neg (by omega)]; rfl
    rw [this, Option.map_id]; rfl
theorem sortW {α : Type} [Inhabited α] (enc : α → List Value) (k : Nat) (w : World) (b n : Nat) (d : Array α) (os : Array Obj) {c : Array Value} {t : TypeId} {fr : Nat × Nat} (hb : w.heap[b]? = some (Go.Obj.cells c t fr)) :
    let w' := sortWorldK enc k w b 0 n d os
    w'.os = w.os ∧ w'.tape = w.tape ∧ w'.output = w.output ∧ w.heap.size ≤ w'.heap.size ∧ (∀ j, j < w.heap.size → j ≠ b → w'.heap[j]? = w.heap[j]?) ∧ w'.heap[b]? = some (Go.Obj.cells (putCells id 0 (flatK enc k d) c) t fr) := by
  have hlt : b < w.heap.size := (Array.getElem?_eq_some_iff.1 hb).1
  have hh : (sortWorldK enc k w b 0 n d os).heap = (w.heap.modify b (onCells (putCells id 0 (flatK enc k d)))) ++ os := rfl
  refine ⟨rfl, rfl, rfl, by rw [hh]; simp, fun j hj hne => ?_, ?_⟩
  · rw [hh, Array.getElem?_append_left (by simpa using hj), Array.getElem?_modify, if_neg (fun e => hne e.symm)]
  · rw [hh, Array.getElem?_append_left (by simpa using hlt), Array.getElem?_modify, if_pos rfl, hb]; rfl
theorem FnI.sorted {P : Program} {f g : FuncId} {t : TypeId} {α : Type} [Inhabited α] (enc : α → List Value) (k : Nat) (hk : ∀ x, (enc x).length = k) (h0 : 0 < k) (toT : α → T) (hR : ∀ (E : Env) (l : List α) (c : List Value), RepR E k (List.map toT l) c ↔ c = l.flatMap enc) (le : α → α → Bool) (hf : enters P f)
    (hN : ∀ p cap fv w, Calls P f #[.slice p 0 cap, fv] w fun e w' => e = .returned (.tuple #[]) ∧ w' = w)
    (hS : ∀ (blk cap : Nat) (d : Array α) (w : World), HoldsK enc k w blk 0 d → blk < w.heap.size → d.size ≤ 1000000000 → Calls P f #[.slice (some ⟨blk, 0, none⟩) d.size cap, .func (.func g) #[] #[]] w fun e w' => e = .returned (.tuple #[]) ∧ ∃ n os, w' = sortWorldK enc k w blk 0 n (d.toList.mergeSort le).toArray os)
    (l : List α) (hl : l.length ≤ 1000000000) : FnI P f t k (List.map toT l) (List.map toT (l.mergeSort le)) [.fn g []] := by
  have more : ∀ (E : Env) (vs : List Value), RepL E false [.fn g []] vs → vs = [.func (.func g) #[] #[]] := by
    intro E vs h
    simp only [RepL, Rep] at h
    obtain ⟨v, vs', rfl, ⟨cs, rfl, hcs⟩, rfl⟩ := h
    have e4 : cs = #[] := by cases cs; simpa using hcs
    rw [e4]
  refine ⟨hf, fun hnil => ?_, fun hne E b cap c fr c1 c2 vs hvs hheap hunf hc hRR hcap => ?_⟩
  · have hl : l = [] := by cases l with
      | nil => rfl
      | cons a l => cases hnil
    subst hl
    have hm : ([] : List α).mergeSort le = [] := by simp
    rw [hm]
    refine ⟨rfl, fun E p cap vs hvs => ?_⟩
    rw [more E vs hvs]
    exact hN p cap _ E.w
  · rw [more E vs hvs]
    have hcc := (hR _ l c1).1 hRR
    have hc1 : c1.length = l.length * k := by rw [hcc, flat_len enc k hk]
    have hlt : b < E.w.heap.size := (Array.getElem?_eq_some_iff.1 hheap).1
    have hcs : c.size = c1.length + c2.length := by rw [← Array.length_toList, hc, List.length_append]
    have hH : HoldsK enc k E.w b 0 l.toArray := by
      intro j hj
      have hj : j < l.length * k := by simpa using hj
      rw [Nat.zero_add]
      constructor
      · have hg := flat_get enc k hk h0 l j hj
        rw [get_flatK _ _ _ _ (by simpa using hj)]
        unfold World.cell?
        dsimp only
        rw [hheap]
        show c[j]? = _
        rw [← Array.getElem?_toList, hc, List.getElem?_append_left (by omega), hcc, hg]; rfl
      · unfold World.frozen?
        dsimp only
        rw [hheap]
        have := hunf.out (j := j) (by omega)
        obtain ⟨lo, hi⟩ := fr
        show (decide (lo ≤ j) && decide (j < hi)) = false
        rw [Bool.and_eq_false_iff, decide_eq_false_iff_not, decide_eq_false_iff_not]
        dsimp only at this
        omega
    have hcall := hS b cap l.toArray E.w hH hlt (by simpa using hl)
    have hsz : l.toArray.size = (List.map toT l).length := by simp
    rw [hsz] at hcall
    refine hcall.mono ?_
    rintro e w' ⟨rfl, n, os, rfl⟩
    obtain ⟨k1, k2, k3, k4, k5, k6⟩ := sortW enc k E.w b n (l.toArray.toList.mergeSort le).toArray os hheap
    have hpl := put_flat enc k hk h0 (l.mergeSort le) c c1 c2 hc (by rw [List.length_mergeSort]; exact hc1)
    have hps : (putCells id 0 (flatK enc k (l.toArray.toList.mergeSort le).toArray) c).size = c.size := by unfold putCells; simp
    have hl2 : l.toArray.toList = l := by simp
    rw [hl2] at k1 k2 k3 k4 k5 k6 hps ⊢
    exact ⟨rfl, ⟨k1, k2, k3, k4, k5⟩, _, _, k6, hps, hpl, fun E' => (hR E' _ _).2 rfl⟩
section
variable {P : Program} {Q : Exit → St → Prop} {g : FuncId} {args more : List T} {dst : Option Tmp} {rest : List (Op × Option Tmp × Option (Option Tmp × Bool))} {S : St} {k : Kn}
theorem callI_X (o : Nat) (t : TypeId) (sz : Nat) (l l' : List T) (n : Nat) (hn : l.length = n) (hlo : lookS S o = some (.buf t sz l 0)) (h : FnI P g t sz l l' more) (ha : args = (if n ≤ 0 then T.sl sz false l else T.rsl o sz 0 n) :: more)
    (h2 : stepsK P Q rest ((S.after (.put o (.buf t sz l' 0))).put dst (.tup [])) k) : callG P Q g args dst rest S k := by
  refine .inr (.inr (.inr ⟨o, t, sz, l, l', more, hlo, h, fun E vs hv => ?_, h2⟩))
  subst hn
  rw [ha] at hv
  split at hv
  · rename_i h0
    exact .inr ⟨List.length_eq_zero_iff.1 (by omega), hv⟩
  · exact .inl hv
end
theorem runX_regionN {P : Program} {Q : Exit → St → Prop} {S : St} {k : Kn} {id : Nat} {l : List Oper} (h : ∀ C, contX P Q k = C → stepsK P C (liteL (dstsL l) l) S .q) : runX P Q (.region id ⟨l⟩ false) S k := by
  have h3 := h _ rfl
  refine WP.region ?_
  show stepsW P ⟨l⟩ l S _
  rw [stepsL_eq]
  exact h3
end Go.Proofs.YtdaojihnaajfeaaX

set_option linter.unusedVariables false
set_option linter.unusedSimpArgs false
namespace Go.Proofs.YtdaojihnaajfeaaX
open Go Go.RowKit Go.Proofs
set_option maxRecDepth 100000
/-! ### strings.Compare: by the shelf -/
open Go.Shelf
def Try.lay106_ren : Go.Shelf.Ren := ⟨fun | 106 => 19 | 213 => 33 | 265 => 48 | n => n, fun | 9 => 9 | 3 => 3 | n => n, fun | n => n⟩
theorem Try.lay106 : Go.Proofs.Lays.n106 Try.prog Try.lay106_ren := {
 mixed := by kernel_rfl,
 f106 := Try.func19.trans (congrArg some (by kernel_rfl)),
 f213 := Try.func33.trans (congrArg some (by kernel_rfl)),
 f265 := Try.func48.trans (congrArg some (by kernel_rfl)),
 t3 := Try.underlying3,
 a3 := Try.isAgg3,
 z3 := Try.sizeOf3,
 v3 := Try.zeroValue3,
 t9 := Try.underlying9,
 a9 := Try.isAgg9,
 z9 := Try.sizeOf9,
 v9 := Try.zeroValue9 }
theorem F19_calls (a b : ByteArray) (w : World) : Calls Try.prog 19 #[.string a, .string b] w fun e w' => e = .returned (.int .i64 (Lib.compareBytes a.data.toList b.data.toList)) ∧ w' = w := by
 have hf : Try.lay106_ren.f 106 = 19 := by kernel_rfl
 have hc := Any.strings_Compare Try.lay106 a b w
 rw [hf] at hc
 exact hc
end Go.Proofs.YtdaojihnaajfeaaX

set_option linter.unusedVariables false
set_option linter.unusedSimpArgs false
namespace Go.Proofs.YtdaojihnaajfeaaX
open Go Go.RowKit Go.Proofs
set_option maxRecDepth 100000
/-! ### slices.SortFunc of pairs, in query.Canon's order: by the shelf -/
-- ROW 0 query.Pair query.Canon$1
open Go.Shelf
def Try.lay6_ren : Go.Shelf.Ren := ⟨fun | 6 => 17 | 15 => 32 | 14 => 31 | 28 => 46 | 29 => 47 | 20 => 38 | 21 => 39 | 22 => 40 | 23 => 41 | 24 => 42 | 25 => 43 | 26 => 44 | 27 => 45 | 46 => 50 | 47 => 51 | 48 => 52 | 49 => 53 | 50 => 54 | 57 => 55 | n => n, fun | 22 => 22 | 24 => 39 | 25 => 47 | 3 => 3 | 39 => 62 | 0 => 0 | 53 => 76 | 55 => 78 | 4 => 4 | 46 => 70 | 45 => 69 | 50 => 31 | 5 => 5 | 9 => 9 | 66 => 81 | 70 => 85 | 76 => 87 | 77 => 88 | n => n, fun | n => n⟩
theorem Try.lay6 : Go.Proofs.SlLaysF0.n6 Try.prog Try.lay6_ren := {
 mixed := by kernel_rfl,
 f6 := ⟨ "slices.SortFunc[[]shadowbox/query.Pair,shadowbox/query.Pair]", by decide, Try.func17.trans (congrArg some (by kernel_rfl))⟩,
 f14 := ⟨ "slices.pdqsortCmpFunc[shadowbox/query.Pair]", by decide, Try.func31.trans (congrArg some (by kernel_rfl))⟩,
 f15 := Try.func32.trans (congrArg some (by kernel_rfl)),
 f20 := ⟨ "slices.insertionSortCmpFunc[shadowbox/query.Pair]", by decide, Try.func38.trans (congrArg some (by kernel_rfl))⟩,
 f21 := ⟨ "slices.heapSortCmpFunc[shadowbox/query.Pair]", by decide, Try.func39.trans (congrArg some (by kernel_rfl))⟩,
 f22 := ⟨ "slices.breakPatternsCmpFunc[shadowbox/query.Pair]", by decide, Try.func40.trans (congrArg some (by kernel_rfl))⟩,
 f23 := ⟨ "slices.choosePivotCmpFunc[shadowbox/query.Pair]", by decide, Try.func41.trans (congrArg some (by kernel_rfl))⟩,
 f24 := ⟨ "slices.reverseRangeCmpFunc[shadowbox/query.Pair]", by decide, Try.func42.trans (congrArg some (by kernel_rfl))⟩,
 f25 := ⟨ "slices.partialInsertionSortCmpFunc[shadowbox/query.Pair]", by decide, Try.func43.trans (congrArg some (by kernel_rfl))⟩,
 f26 := ⟨ "slices.partitionEqualCmpFunc[shadowbox/query.Pair]", by decide, Try.func44.trans (congrArg some (by kernel_rfl))⟩,
 f27 := ⟨ "slices.partitionCmpFunc[shadowbox/query.Pair]", by decide, Try.func45.trans (congrArg some (by kernel_rfl))⟩,
 f28 := Try.func46.trans (congrArg some (by kernel_rfl)),
 f29 := Try.func47.trans (congrArg some (by kernel_rfl)),
 f46 := ⟨ "slices.siftDownCmpFunc[shadowbox/query.Pair]", by decide, Try.func50.trans (congrArg some (by kernel_rfl))⟩,
 f47 := Try.func51.trans (congrArg some (by kernel_rfl)),
 f48 := Try.func52.trans (congrArg some (by kernel_rfl)),
 f49 := ⟨ "slices.medianAdjacentCmpFunc[shadowbox/query.Pair]", by decide, Try.func53.trans (congrArg some (by kernel_rfl))⟩,
 f50 := ⟨ "slices.medianCmpFunc[shadowbox/query.Pair]", by decide, Try.func54.trans (congrArg some (by kernel_rfl))⟩,
 f57 := ⟨ "slices.order2CmpFunc[shadowbox/query.Pair]", by decide, Try.func55.trans (congrArg some (by kernel_rfl))⟩,
 t0 := Try.underlying0,
 a0 := Try.isAgg0,
 z0 := Try.sizeOf0,
 v0 := Try.zeroValue0,
 t3 := Try.underlying3,
 a3 := Try.isAgg3,
 z3 := Try.sizeOf3,
 v3 := Try.zeroValue3,
 t4 := Try.underlying4,
 a4 := Try.isAgg4,
 z4 := Try.sizeOf4,
 v4 := Try.zeroValue4,
 t5 := Try.underlying5,
 a5 := Try.isAgg5,
 z5 := Try.sizeOf5,
 v5 := Try.zeroValue5,
 t9 := Try.underlying9,
 a9 := Try.isAgg9,
 z9 := Try.sizeOf9,
 v9 := Try.zeroValue9,
 t22 := Try.underlying22,
 a22 := Try.isAgg22,
 z22 := Try.sizeOf22,
 v22 := Try.zeroValue22,
 t25 := Try.underlying47,
 a25 := Try.isAgg47,
 z25 := Try.sizeOf47,
 v25 := Try.zeroValue47,
 t39 := Try.underlying62,
 a39 := Try.isAgg62,
 z39 := Try.sizeOf62,
 v39 := Try.zeroValue62,
 t45 := Try.underlying69,
 a45 := Try.isAgg69,
 z45 := Try.sizeOf69,
 v45 := Try.zeroValue69,
 t46 := Try.underlying70,
 a46 := Try.isAgg70,
 z46 := Try.sizeOf70,
 v46 := Try.zeroValue70,
 t50 := Try.underlying31,
 a50 := Try.isAgg31,
 z50 := Try.sizeOf31,
 v50 := Try.zeroValue31,
 t53 := Try.underlying76,
 a53 := Try.isAgg76,
 z53 := Try.sizeOf76,
 v53 := Try.zeroValue76,
 t55 := Try.underlying78,
 a55 := Try.isAgg78,
 z55 := Try.sizeOf78,
 v55 := Try.zeroValue78,
 t66 := Try.underlying81,
 a66 := Try.isAgg81,
 z66 := Try.sizeOf81,
 v66 := Try.zeroValue81,
 t70 := Try.underlying85,
 a70 := Try.isAgg85,
 z70 := Try.sizeOf85,
 v70 := Try.zeroValue85,
 t76 := Try.underlying87,
 a76 := Try.isAgg87,
 z76 := Try.sizeOf87,
 v76 := Try.zeroValue87,
 t77 := Try.underlying88,
 a77 := Try.isAgg88,
 z77 := Try.sizeOf88,
 v77 := Try.zeroValue88 }
open Go.Lib Go.Sort
theorem cb_rng : ∀ a b : List UInt8, Lib.compareBytes a b = -1 ∨ Lib.compareBytes a b = 0 ∨ Lib.compareBytes a b = 1
 | [], [] => .inr (.inl rfl)
 | [], _ :: _ => .inl rfl
 | _ :: _, [] => .inr (.inr rfl)
 | a :: l, b :: m => by
  rw [Lib.compareBytes]
  split
  ·exact .inl rfl
  ·split
   ·exact .inr (.inr rfl)
   ·exact cb_rng l m
theorem cb_refl : ∀ a : List UInt8, Lib.compareBytes a a = 0
 | [] => rfl
 | a :: l => by
  have h : ¬ a < a := by rw [UInt8.lt_iff_toNat_lt]; omega
  rw [Lib.compareBytes, if_neg h, if_neg h]; exact cb_refl l
theorem cb_eq : ∀ a b : List UInt8, Lib.compareBytes a b = 0 → a = b
 | [], [], _ => rfl
 | [], _ :: _, h => absurd h (by show ¬ (-1 : Int) = 0; decide)
 | _ :: _, [], h => absurd h (by show ¬ (1 : Int) = 0; decide)
 | a :: l, b :: m, h => by
  rw [Lib.compareBytes] at h
  split at h
  ·cases h
  ·split at h
   ·cases h
   ·rename_i h1 h2
    rw [UInt8.lt_iff_toNat_lt] at h1 h2
    rw [cb_eq l m h, UInt8.toNat_inj.1 (show a.toNat = b.toNat by omega)]
theorem cb_anti : ∀ a b : List UInt8, Lib.compareBytes b a = - Lib.compareBytes a b
 | [], [] => rfl
 | [], _ :: _ => rfl
 | _ :: _, [] => rfl
 | a :: l, b :: m => by
  rw [Lib.compareBytes, Lib.compareBytes]
  by_cases h1 : a < b
  ·have h2 : ¬ b < a := by rw [UInt8.lt_iff_toNat_lt] at h1 ⊢; omega
   rw [if_neg h2, if_pos h1, if_pos h1]; rfl
  ·by_cases h2 : b < a
   ·rw [if_pos h2, if_neg h1, if_pos h2]
   ·rw [if_neg h2, if_neg h1, if_neg h1, if_neg h2]; exact cb_anti l m
theorem cb_trans : ∀ a b c : List UInt8, Lib.compareBytes a b ≤ 0 → Lib.compareBytes b c ≤ 0 → Lib.compareBytes a c ≤ 0
 | [], _, [], _, _ => by show (0 : Int) ≤ 0; decide
 | [], _, _ :: _, _, _ => by show (-1 : Int) ≤ 0; decide
 | _ :: _, [], _, h, _ => absurd h (by show ¬ (1 : Int) ≤ 0; decide)
 | _ :: _, _ :: _, [], _, h => absurd h (by show ¬ (1 : Int) ≤ 0; decide)
 | a :: l, b :: m, c :: n, h, h' => by
  rw [Lib.compareBytes] at h h' ⊢
  by_cases k1 : a < b <;> by_cases k2 : b < a <;> by_cases k3 : b < c <;> by_cases k4 : c < b <;> simp only [k1, k2, k3, k4, if_true, if_false] at h h' <;>
   first
   | exact absurd h (by decide)
   | exact absurd h' (by decide)
   | (rw [UInt8.lt_iff_toNat_lt] at k1 k2 k3 k4; have k5 : a < c := (by rw [UInt8.lt_iff_toNat_lt]; omega); rw [if_pos k5]; decide)
   | (rw [UInt8.lt_iff_toNat_lt] at k1 k2 k3 k4; have k5 : ¬ a < c := (by rw [UInt8.lt_iff_toNat_lt]; omega); have k6 : ¬ c < a := (by rw [UInt8.lt_iff_toNat_lt]; omega); rw [if_neg k5, if_neg k6]; exact cb_trans l m n h h')
def pcmp (x y : List UInt8 × List UInt8) : Int := if Lib.compareBytes x.1 y.1 ≠ 0 then Lib.compareBytes x.1 y.1 else Lib.compareBytes x.2 y.2
theorem pcmp_refl (x : List UInt8 × List UInt8) : pcmp x x = 0 := by
 unfold pcmp; rw [cb_refl, if_neg (by decide), cb_refl]
theorem pcmp_anti (x y : List UInt8 × List UInt8) : pcmp y x = - pcmp x y := by
 unfold pcmp
 rw [cb_anti x.1 y.1, cb_anti x.2 y.2]
 by_cases h : Lib.compareBytes x.1 y.1 = 0
 ·rw [h, if_neg (by decide), if_neg (by decide)]
 ·rw [if_pos (by omega), if_pos h]
theorem pcmp_eq (x y : List UInt8 × List UInt8) (h : pcmp x y = 0) : x = y := by
 unfold pcmp at h
 split at h
 ·rename_i k; exact absurd h k
 ·rename_i k
  have k : Lib.compareBytes x.1 y.1 = 0 := Decidable.not_not.1 k
  exact Prod.ext (cb_eq _ _ k) (cb_eq _ _ h)
theorem pcmp_trans (x y z : List UInt8 × List UInt8) (h : pcmp x y ≤ 0) (h' : pcmp y z ≤ 0) : pcmp x z ≤ 0 := by
 unfold pcmp at h h' ⊢
 by_cases a : Lib.compareBytes x.1 y.1 = 0
 ·have e := cb_eq _ _ a
  rw [if_neg (by rw [a]; decide)] at h
  rw [e]
  by_cases b : Lib.compareBytes y.1 z.1 = 0
  ·rw [if_neg (by rw [b]; decide)] at h' ⊢
   exact cb_trans _ _ _ h h'
  ·rw [if_pos b] at h' ⊢; exact h'
 ·rw [if_pos a] at h
  by_cases b : Lib.compareBytes y.1 z.1 = 0
  ·have e := cb_eq _ _ b
   rw [← e, if_pos a]; exact h
  ·rw [if_pos b] at h'
   have t := cb_trans _ _ _ h h'
   have hne : Lib.compareBytes x.1 z.1 ≠ 0 := by
    intro e
    have e := cb_eq _ _ e
    rw [e, cb_anti] at h
    have := cb_rng y.1 z.1
    omega
   rw [if_pos hne]; exact t
def pairLe (x y : List UInt8 × List UInt8) : Bool := !(ltOf pcmp) y x
theorem pairLe_iff (x y : List UInt8 × List UInt8) : pairLe x y = true ↔ pcmp x y ≤ 0 := by
 unfold pairLe ltOf
 rw [pcmp_anti x y, Bool.not_eq_true', decide_eq_false_iff_not]
 omega
theorem pcmp_swo : SWO (ltOf pcmp) := by
 refine ⟨fun x => ?_, fun x y z h1 h2 => ?_, fun x y z h1 h2 => ?_⟩
 ·unfold ltOf; rw [pcmp_refl]; rfl
 ·unfold ltOf at h1 h2 ⊢
  rw [decide_eq_true_eq] at h1 h2 ⊢
  have t := pcmp_trans x y z (by omega) (by omega)
  have hne : pcmp x z ≠ 0 := by
   intro e
   have e := pcmp_eq _ _ e
   rw [e, pcmp_anti] at h1
   omega
  omega
 ·unfold ltOf at h1 h2 ⊢
  rw [decide_eq_false_iff_not] at h1 h2 ⊢
  have t := pcmp_trans z y x (by rw [pcmp_anti]; omega) (by rw [pcmp_anti]; omega)
  rw [pcmp_anti] at t
  omega
def encP (x : List UInt8 × List UInt8) : List Value := [.string (bs x.1), .string (bs x.2)]
theorem alloc2 (w : World) (o1 o2 : Go.Obj) : ∃ q os', (w.alloc o1).alloc o2 = grow (w.drewN q) os' := ⟨0, #[o1, o2], by rw [alloc_eq_grow, alloc_eq_grow, grow_grow]; rfl⟩
section
set_option maxHeartbeats 2000000 in
theorem srt_cmp (x y : List UInt8 × List UInt8) (w : World) :
  Calls Try.prog 18 (#[.agg (encP x).toArray, .agg (encP y).toArray] ++ #[]) w fun e w' => e = .returned (.int .i64 (pcmp x y)) ∧ ∃ q os', w' = grow (w.drewN q) os' := by
 have u9 := Try.underlying9
 have hS : Try.prog.underlying 39 = some (.struct (Try.prog.fieldsOf 39)) := by kernel_rfl
 have hp : Try.prog.stoodInHeld 39 = false := by kernel_rfl
 have hg : Try.prog.eqGuardType Try.prog.depth 39 = false := by kernel_rfl
 have heq : ∀ w, (binOp .eql 39 (.agg #[.string (bs x.1), .string (bs x.2)]) (.agg #[.string (bs y.1), .string (bs y.2)])).run Try.prog w = .ok (.bool (x.1 == y.1 && x.2 == y.2)) w := by
  intro w
  rw [run_eql_struct, show (10000 : Nat) = 9999 + 1 from rfl, run_equalIn_agg w 9999 39 _ _ hS hp]
  simp only [Program.fieldsOf, Try.underlying39]
  go_simp
  by_cases h1 : x.1 = y.1 <;> by_cases h2 : x.2 = y.2 <;> simp [h1, h2]
 have hc := fun a b w => F19_calls a b w
 have hT : ∀ s : List UInt8, (bs s).data.toList = s := fun s => rfl
 simp only [encP, Array.append_empty]
 by_cases hxy : x = y
 ·subst hxy
  have heq' : ∀ w, (binOp .eql 39 (.agg #[.string (bs x.1), .string (bs x.2)]) (.agg #[.string (bs x.1), .string (bs x.2)])).run Try.prog w = .ok (.bool true) w := by
   intro w; rw [heq, beq_self_eq_true, beq_self_eq_true]; rfl
  clear heq
  rw [pcmp_refl]
  go_enter Try.func18, Try.ntmps18
  go_wp2
  go_ret
  exact ⟨rfl, alloc2 w _ _⟩
 ·have hne : (x.1 == y.1 && x.2 == y.2) = false := by
   rw [Bool.and_eq_false_iff, beq_eq_false_iff_ne, beq_eq_false_iff_ne]
   by_cases h1 : x.1 = y.1
   ·exact .inr fun e => hxy (Prod.ext h1 e)
   ·exact .inl h1
  have heq' : ∀ w, (binOp .eql 39 (.agg #[.string (bs x.1), .string (bs x.2)]) (.agg #[.string (bs y.1), .string (bs y.2)])).run Try.prog w = .ok (.bool false) w := by
   intro w; rw [heq, hne]
  clear heq hne
  by_cases hk : Lib.compareBytes x.1 y.1 = 0
  ·have hv : pcmp x y = Lib.compareBytes x.2 y.2 := by unfold pcmp; rw [if_neg (by rw [hk]; decide)]
   rw [hv]
   have hc1 := hc (bs x.1) (bs y.1)
   rw [hT, hT, hk] at hc1
   have hc2 := hc (bs x.2) (bs y.2)
   rw [hT, hT] at hc2
   clear hc
   go_enter Try.func18, Try.ntmps18
   go_wp2_with (first | (refine (hc1 _).mono ?_; rintro e w' ⟨rfl, rfl⟩) | (refine (hc2 _).mono ?_; rintro e w' ⟨rfl, rfl⟩))
   go_ret
   exact ⟨rfl, alloc2 w _ _⟩
  ·have hv : pcmp x y = Lib.compareBytes x.1 y.1 := by unfold pcmp; rw [if_pos hk]
   rw [hv]
   have hc1 := hc (bs x.1) (bs y.1)
   rw [hT, hT] at hc1
   clear hc
   go_enter Try.func18, Try.ntmps18
   go_wp2_with (refine (hc1 _).mono ?_; rintro e w' ⟨rfl, rfl⟩)
   go_ret
   exact ⟨rfl, alloc2 w _ _⟩
end
theorem pair_cells : ∀ (E : Env) (l : List (List UInt8 × List UInt8)) (c : List Value), RepR E 2 (List.map eT38 l) c ↔ c = l.flatMap encP
 | E, [], c => by simp only [List.map_nil, RepR, List.flatMap_nil]
 | E, s :: l, c => by
  have ih := pair_cells E l
  simp only [List.map_cons, RepR, List.flatMap_cons]
  constructor
  ·rintro ⟨u, c', rfl, _, h2, h3⟩
   have h2 : Rep E true (.agg [.imm (.string (bs s.1)), .imm (.string (bs s.2))]) u := h2
   simp only [Rep, RepL] at h2
   obtain ⟨cs, rfl, v, vs', e1, ⟨rfl, _⟩, v2, vs2, rfl, ⟨rfl, _⟩, rfl⟩ := h2
   rw [(ih c').1 h3]
   show cs.toList ++ _ = _
   rw [e1]; rfl
  ·rintro rfl
   refine ⟨.agg (encP s).toArray, l.flatMap encP, rfl, ⟨rfl, ?_⟩, ?_, (ih _).2 rfl⟩
   ·intro v hv
    have hv : v ∈ encP s := hv
    simp only [encP, List.mem_cons, List.not_mem_nil, or_false] at hv
    rcases hv with rfl | rfl <;> rfl
   ·show Rep E true (.agg [.imm (.string (bs s.1)), .imm (.string (bs s.2))]) _
    simp only [Rep, RepL]
    exact ⟨_, rfl, _, _, rfl, ⟨rfl, rfl⟩, _, _, rfl, ⟨rfl, rfl⟩, rfl⟩
def F17 (n : Nat) (a0 : List (List UInt8 × List UInt8)) : Option (List (List UInt8 × List UInt8)) := if a0.length ≤ 1000000000 then some (a0.mergeSort pairLe) else none
theorem F17_ok (n : Nat) (a0 : List (List UInt8 × List UInt8)) (r : List (List UInt8 × List UInt8)) (h : F17 n a0 = some r) : FnI Try.prog 17 39 2 (List.map eT38 a0) (List.map eT38 r) [.fn 18 []] := by
 unfold F17 at h
 split at h
 case isFalse => cases h
 rename_i hh
 obtain rfl := Option.some.inj h
 have hf : Try.lay6_ren.f 6 = 17 := by kernel_rfl
 have ht : Try.lay6_ren.t 24 = 39 := by kernel_rfl
 refine FnI.sorted encP 2 (fun _ => rfl) (by decide) eT38 pair_cells pairLe ⟨Try.f17, Try.func17, by kernel_rfl, rfl⟩ (fun p cap fv w => ?_) (fun blk cap d w hH hlt hd => ?_) a0 hh
 ·have hc := AnyF.slices_SortFunc_none Try.lay6 p cap fv w
  rw [hf] at hc
  exact hc
 ·have hc := AnyQ.slices_SortFunc_total Try.lay6 2 (by rw [ht]; exact Try.isAgg39) (by rw [ht]; exact Try.sizeOf39) encP (fun _ => rfl) (fun x v hv => by simp only [encP, List.mem_cons, List.not_mem_nil, or_false] at hv; rcases hv with rfl | rfl <;> rfl) pcmp pcmp_swo 18 #[] blk 0 cap d w (enters_of Try.func18 (by kernel_rfl) rfl) (fun m os dk _ x y => srt_cmp x y _) hH hlt (by omega) (fun x y h1 h2 => by
   unfold ltOf at h1 h2
   rw [decide_eq_false_iff_not] at h1 h2
   rw [pcmp_anti] at h2
   exact pcmp_eq x y (by omega))
  rw [hf] at hc
  exact hc
end Go.Proofs.YtdaojihnaajfeaaX

set_option linter.unusedVariables false
set_option linter.unusedSimpArgs false
namespace Go.Proofs.YtdaojihnaajfeaaX
open Go Go.RowKit Go.Proofs
set_option maxRecDepth 100000
/-! ### strings.Builder's copyCheck: by hand (an address is stored in its own variable) -/
-- OWN 0 1 uint8
def F34 (n : Nat) (a0 : Bool × List Int) : Option (Bool × List Int) := some (true, a0.2)
theorem bld_store {w w' : World} {b : Nat} {v0 v1 u : Value} {fr : Nat × Nat} (h : w.heap[b]? = some (.cells #[v0, v1] 51 fr)) (hf : w.frozen? ⟨b, 0, none⟩ = false) (hu : leaf u = true)
  (hr : (Instr.storeAt 48 (.pointer (some ⟨b, 0, none⟩)) u).run Try.prog w = .ok () w') : w' = w.setCell ⟨b, 0, none⟩ u := by
 have hc : w.cell? ⟨b, 0, none⟩ = some v0 := by simp [World.cell?, h]
 have e : (Instr.storeAt 48 (.pointer (some ⟨b, 0, none⟩)) u).run Try.prog w = .ok () (w.setCell ⟨b, 0, none⟩ u) := by
  unfold Instr.storeAt
  rw [run_bind (show (Instr.sureAddr (.pointer (some (⟨b, 0, none⟩ : Addr)))).run Try.prog w = .ok (⟨b, 0, none⟩ : Addr) w from rfl)]
  obtain ⟨inf, hinf, hs⟩ : ∃ j, Try.prog.info? 48 = some j ∧ j.size = 1 := Option.map_eq_some_iff.1 (show (Try.prog.info? 48).map (·.size) = some 1 by kernel_rfl)
  have hcs : u.cells = #[u] := by cases u <;> first | rfl | cases hu
  unfold storeVar
  rw [run_bind (run_sizeOf hinf), hs, hcs]
  simp only [List.size_toArray, List.length_cons, List.length_nil, Nat.zero_add, ne_eq, not_true_eq_false, if_false]
  show (storeCells ⟨b, 0, none⟩ [u] 0).run Try.prog w = _
  rw [storeCells, show (⟨b, 0, none⟩ : Addr).add 0 = ⟨b, 0, none⟩ from rfl, run_bind (run_store hc hf hu)]
  rfl
 rw [e] at hr
 injection hr with _ h2
 exact h2.symm
set_option maxHeartbeats 1000000 in
set_option maxRecDepth 100000 in
theorem bld_used (w : World) (b : Nat) (v1 : Value) (fr : Nat × Nat) (h : w.heap[b]? = some (.cells #[.pointer (some ⟨b, 0, none⟩), v1] 51 fr)) :
  Calls Try.prog 34 #[.pointer (some ⟨b, 0, none⟩)] w fun e w' => e = .returned (.tuple #[]) ∧ w' = w := by
 have c0 : w.cell? ⟨b, 0, none⟩ = some (.pointer (some ⟨b, 0, none⟩)) := by simp [World.cell?, h]
 have hp : Try.prog.underlying 48 = some (.pointer 51) := by kernel_rfl
 obtain ⟨j, hj⟩ : ∃ j, Try.prog.info? 51 = some j := Option.isSome_iff_exists.1 (by kernel_rfl)
 go_enter Try.func34, Try.ntmps34
 go_wp2
 rw [Lib.run_neq_ptr_same w _ hp hj]
 go_wp2
 go_end0
 exact ⟨rfl, rfl⟩
set_option maxHeartbeats 1000000 in
set_option maxRecDepth 100000 in
theorem bld_fresh (w : World) (b : Nat) (v1 : Value) (fr : Nat × Nat) (h : w.heap[b]? = some (.cells #[.pointer none, v1] 51 fr)) (hfz : w.frozen? ⟨b, 0, none⟩ = false) :
  Calls Try.prog 34 #[.pointer (some ⟨b, 0, none⟩)] w fun e w' => e = .returned (.tuple #[]) ∧ w' = w.setCell ⟨b, 0, none⟩ (.pointer (some ⟨b, 0, none⟩)) := by
 have h0 : w.cell? ⟨b, 0, none⟩ = some (.pointer none) := by simp [World.cell?, h]
 have hsh : w.shape? b = some (51, 2) := by simp [World.shape?, h]
 have hp : Try.prog.underlying 48 = some (.pointer 51) := by kernel_rfl
 have hup : Try.prog.underlying 79 = some .unsafePointer := by kernel_rfl
 obtain ⟨j, hj, hjs⟩ : ∃ j, Try.prog.info? 51 = some j ∧ j.size = 2 := Option.map_eq_some_iff.1 (show (Try.prog.info? 51).map (·.size) = some 2 by kernel_rfl)
 go_enter Try.func34, Try.ntmps34
 go_wp2
 rw [Lib.run_to_unsafe w ⟨b, 0, none⟩ hp hup hj (by rw [hjs]; decide) hsh (Nat.zero_lt_succ 1)]
 simp only [Result.andThen]
 rw [Oper.upon_value]
 go_wp2
 rw [run_callFunc_extern Try.func49 (by kernel_rfl) (by kernel_rfl) (by kernel_rfl) (e := Extern.AbiNoEscape.same) (by kernel_rfl)]
 rw [Lib.run_noEscape]
 simp only [Result.andThen]
 rw [Oper.upon_value]
 go_wp2
 rw [Lib.run_from_unsafe w ⟨b, 0, none⟩ hup hp hj hsh (by kernel_rfl)]
 simp only [Result.andThen]
 rw [Oper.upon_value]
 go_wp2
 go_end0
 exact ⟨rfl, rfl⟩
def bldO (b : Bool) (l : List Int) : List (Option Own) := [some (.box (4294967296 + 51) (.agg [adT b 0, .rsl 1 1 0 l.length]) false), some (.buf 5 1 (List.map byteT l) 0)]
theorem bldO_at {w : World} {μ : Nat → Option Nat} {ban : Ban} {b : Bool} {l : List Int} (hO : Objs ⟨w, μ, bldO b l, ban⟩) : ∃ (g : Nat) (fr : Nat × Nat) (v1 : Value), μ 0 = some g ∧ w.heap[g]? = some (.cells #[if b = true then .pointer (some ⟨g, 0, none⟩) else .pointer none, v1] 51 fr) ∧ Unf fr 2 ∧ Rep ⟨w, μ, bldO b l, ban⟩ false (.rsl 1 1 0 l.length) v1 := by
 obtain ⟨g, fr, u, h1, h2, h3, h4, h5⟩ := hO.at_ 0 _ rfl
 simp only [Rep] at h4
 obtain ⟨cs, rfl, h4⟩ := h4
 simp only [RepL] at h4
 obtain ⟨v0, vs, e1, q1, v1, vs', e2, q2, e3⟩ := h4
 subst e3; subst e2
 have ec : cs = #[v0, v1] := by rw [← Array.toArray_toList (xs := cs), e1]
 subst ec
 have h1 : μ 0 = some g := h1
 have e0 : v0 = if b = true then .pointer (some ⟨g, 0, none⟩) else .pointer none := by
  cases b with
  | true =>
   have q1 : Rep _ false (.ref 0 7777 0 0) v0 := q1
   simp only [Rep] at q1
   obtain ⟨_, _, g', k1, rfl⟩ := q1
   obtain rfl : g' = g := Option.some.inj (k1.symm.trans h1)
   simp
  | false =>
   have q1 : Rep _ false (.imm (.pointer none)) v0 := q1
   simp only [Rep] at q1
   simp [q1.1]
 subst e0
 exact ⟨g, fr, v1, h1, h2, h3, by simp only [Rep] at q2 ⊢; exact q2⟩
theorem F34_ok (n : Nat) (a0 : Bool × List Int) (r : Bool × List Int) (h : F34 n a0 = some r) : FnR Try.prog 34 [some (.box (4294967296 + 51) (.agg [adT a0.1 0, .rsl 1 1 0 a0.2.length]) false), some (.buf 5 1 (List.map byteT a0.2) 0)] [.ref 0 0 0 0] (.tup []) [some (.box (4294967296 + 51) (.agg [adT r.1 0, .rsl 1 1 0 r.2.length]) false), some (.buf 5 1 (List.map byteT r.2) 0)] := by
 obtain rfl := Option.some.inj h
 obtain ⟨b, l⟩ := a0
 refine ⟨⟨Try.f34, Try.func34, by kernel_rfl, rfl⟩, by simp [rowsOk, refsC, refsCL, adT_refsC, tagM], by simp [sameO], by simp [refsC, refsCL], fun B μ vs hO hOwn hv => ?_⟩
 obtain ⟨g, fr, v1, h1, h2, h3, h4⟩ := bldO_at (b := b) (l := l) hO
 have evs : vs = #[.pointer (some ⟨g, 0, none⟩)] := by
  simp only [RepL, Rep] at hv
  obtain ⟨v, vs', e1, ⟨_, _, g', k1, rfl⟩, rfl⟩ := hv
  have k1 : μ 0 = some g' := k1
  rw [h1] at k1; cases k1
  rw [← Array.toArray_toList (xs := vs), e1]
 have hS : Sat B ⟨[.ref 0 0 0 0], bldO b l⟩ { tmps := vs, defers := [] } B.w μ := ⟨hv, rfl, hO, fun o x k q1 q2 q3 => by
  have q1 : (bldO b l)[o]? = some (some x) := q1
  obtain ⟨lk, hl⟩ : ∃ l, x.lock = some l := by cases x <;> first | exact ⟨_, rfl⟩ | exact absurd rfl q2
  exact .inr ⟨0, lk, (hOwn.1 k 0).2 ⟨rfl, o, (List.getElem?_eq_some_iff.1 q1).1, q3⟩, hl, Nat.zero_le _⟩, ⟨rfl, rfl, rfl, Nat.le_refl _, fun _ _ _ => rfl, fun _ _ _ _ _ => rfl, fun k lk _ c t fr h => ⟨c, fr, h, rfl⟩⟩⟩
 have hfz : B.w.frozen? ⟨g, 0, none⟩ = false := by
  have := h3.out (j := 0) (by omega)
  simp only [World.frozen?, h2]
  simpa using this
 rw [evs]
 cases b with
 | true =>
  refine (bld_used B.w g v1 fr (by simpa using h2)).mono ?_
  rintro e w' ⟨rfl, rfl⟩
  exact ⟨_, μ, rfl, hS.objs, by simp only [Rep, RepL]; exact ⟨#[], rfl, rfl⟩, hS.kept, fun o x k q1 q2 q3 => .inr ((hOwn.1 k 0).2 ⟨rfl, o, (List.getElem?_eq_some_iff.1 q1).1, q3⟩)⟩
 | false =>
  have h2' : B.w.heap[g]? = some (.cells #[.pointer none, v1] 51 fr) := by simpa using h2
  refine (bld_fresh B.w g v1 fr h2' hfz).mono ?_
  rintro e w' ⟨rfl, rfl⟩
  obtain ⟨r, eff, w', hK, hrun, hpost⟩ := store_sound (P := Try.prog) (k := 2) (t := 48) (x := .ref 0 0 0 0) (v := .ref 0 7777 0 0) (look := lookS ⟨[.ref 0 0 0 0], bldO false l⟩) (p := .pointer (some ⟨g, 0, none⟩)) (u := .pointer (some ⟨g, 0, none⟩)) (K := fun r eff => eff = .put 0 (.box (4294967296 + 51) (.agg [.ref 0 7777 0 0, .rsl 1 1 0 l.length]) false)) hS
   (by simp [storeW, bldO, lookS, adT, go_sem]) (by simp only [Rep]; exact ⟨trivial, ⟨_, rfl⟩, g, h1, by simp⟩) (by simp only [Rep]; exact ⟨trivial, ⟨_, rfl⟩, g, h1, by simp⟩) (fun i x hx => lookS_some hx)
  subst hK
  have ew := bld_store h2' hfz rfl hrun
  subst ew
  obtain ⟨μ', hS', _⟩ := hpost
  refine ⟨_, μ', rfl, hS'.objs, by simp only [Rep, RepL]; exact ⟨#[], rfl, rfl⟩, hS'.kept, fun o x k q1 q2 q3 => ?_⟩
  rcases hS'.fresh o x k q1 q2 q3 with h | ⟨lk, lk', q4, _⟩
  ·exact .inl h
  ·have := ((hOwn.1 k lk).1 q4).1
   subst this
   exact .inr q4
end Go.Proofs.YtdaojihnaajfeaaX

set_option linter.unusedVariables false
set_option linter.unusedSimpArgs false
namespace Go.Proofs.YtdaojihnaajfeaaX
open Go Go.RowKit Go.Proofs
set_option maxRecDepth 100000
attribute [local go_sem ↓] stepsK_build stepsK_bs appendS
attribute [local go_sem] String.reduceEq String.reduceNe reduceCtorEq Int.reduceEq Nat.reduceAdd Nat.reduceSub Nat.reduceMul Nat.reduceLT Nat.reduceLeDiff Nat.reduceEqDiff Nat.reduceBEq Int.reduceToNat Int.reduceLT Int.reduceLE Int.reduceGT Int.reduceGE Int.reduceAdd Int.reduceSub Int.reduceMul Int.reduceNeg Int.reduceBEq Int.reduceBNe Int.reducePow Int.reduceDiv Int.reduceMod Int.reduceTDiv Int.reduceTMod Int.reduceNatCast
/-! ### (*strings.Builder).WriteString -/
def F20 (n : Nat) (a0 : (Bool) × (List (Int))) (a1 : List UInt8) : Option ((Int) × (Unit) × ((Bool) × (List (Int)))) := (F34 n (a0.1, a0.2)).bind fun v1 => grd ((v1.2.length + a1.length) ≤ 549755813888) (some ((a1.length : Int), (), (v1.1, (v1.2 ++ (a1.map ofB)))))
set_option maxHeartbeats 4000000 in
theorem F20_ok : ∀ (n : Nat) (a0 : (Bool) × (List (Int))) (a1 : List UInt8) (r : (Int) × (Unit) × ((Bool) × (List (Int)))), F20 n a0 a1 = some r → FnR Try.prog 20 [some (.box 4294967347 (.agg [adT a0.1 0, .rsl 1 1 0 a0.2.length]) false), some (.buf 5 1 (List.map byteT a0.2) 0)] [.ref 0 0 0 0, .imm (.string (bs a1))] (.tup [.imm (.int .i64 r.1), .imm .nilIface]) [some (.box 4294967347 (.agg [adT r.2.2.1 0, .rsl 1 1 0 r.2.2.2.length]) false), some (.buf 5 1 (List.map byteT r.2.2.2) 0)]
 | n, a0, a1, r, h => by
  unfold F20 at h
  refine FnR.goX mixed [4, 5] Try.func20 (by kernel_rfl) rfl (by simp [rowsOk, refsC, refsCL, adT_refsC, tagM]) (by simp [sameO]) (by simp [refsC, refsCL]) ?_
  simp only [Try.ntmps20, List.length_cons, List.length_nil, List.replicate, List.cons_append, List.nil_append, Nat.reduceAdd, Nat.reduceSub]
  refine runX_seq ?_
  refine runX_regionC fun C hC => ?_
  try simp -implicitDefEqProofs (maxSteps := 4000000) (disch := first | omega | decide | (simp only [go_sem]; omega)) only [go_sem, ↓reduceIte]
  repeat (with_reducible refine And.intro (by first | assumption | omega | (simp; done) | (simp; omega)) ?_)
  refine toEnd hC ?_
  refine endX_seq ?_
  refine runX_seq ?_
  refine runX_regionC fun C hC => ?_
  obtain ⟨v1, h1, h⟩ := bnd_some h
  try simp -implicitDefEqProofs (maxSteps := 4000000) (disch := first | omega | decide | (simp only [go_sem]; omega)) only [go_sem, ↓reduceIte]
  repeat (with_reducible refine And.intro (by first | assumption | omega | (simp; done) | (simp; omega)) ?_)
  refine callR_X [0, 1] (F34_ok n (a0.1, a0.2) _ h1) (by decide) (by (try simp -implicitDefEqProofs (maxSteps := 4000000) (disch := first | omega | decide | (simp only [go_sem]; omega)) only [go_sem, ↓reduceIte]); repeat (first | exact trivial | refine And.intro ?_ ?_ | exact fun _ => trivial | exact fun _ _ => trivial | exact fun _ _ h => h | rfl | decide)) (by (try simp -implicitDefEqProofs (maxSteps := 4000000) (disch := first | omega | decide | (simp only [go_sem]; omega)) only [go_sem, ↓reduceIte]); repeat (first | exact leL_refl _ | refine leL_cons (by first | exact leT_refl _ | exact leT_virt | exact leT_junk _ | exact leT_sl | exact leT_sln | exact leT_nil | (refine leT_agg (by repeat (first | exact leL_refl _ | refine leL_cons (by first | exact leT_refl _ | exact leT_sl | exact leT_sln | exact leT_nil) ?_)))) ?_)) ?_
  try simp -implicitDefEqProofs (maxSteps := 4000000) (disch := first | omega | decide | (simp only [go_sem]; omega)) only [go_sem, ↓reduceIte]
  repeat (with_reducible refine And.intro (by first | assumption | omega | (simp; done) | (simp; omega)) ?_)
  refine toEnd hC ?_
  refine endX_seq ?_
  refine runX_seq ?_
  refine runX_regionC fun C hC => ?_
  obtain ⟨g2, h⟩ := grd_some h
  try simp -implicitDefEqProofs (maxSteps := 4000000) (disch := first | omega | decide | (simp only [go_sem]; omega)) only [go_sem, ↓reduceIte]
  repeat (with_reducible refine And.intro (by first | assumption | omega | (simp; done) | (simp; omega)) ?_)
  refine toEnd hC ?_
  refine endX_seq ?_
  refine runX_seq ?_
  refine runX_regionC fun C hC => ?_
  try simp -implicitDefEqProofs (maxSteps := 4000000) (disch := first | omega | decide | (simp only [go_sem]; omega)) only [go_sem, ↓reduceIte]
  repeat (with_reducible refine And.intro (by first | assumption | omega | (simp; done) | (simp; omega)) ?_)
  refine toEnd hC ?_
  refine endX_seq ?_
  refine runX_ret ?_
  refine endX_q ?_
  obtain rfl := Option.some.inj h
  show RetR _ _ _ _ _ _ _ _
  simp only [RetR]
  (try simp -implicitDefEqProofs (maxSteps := 4000000) (disch := first | omega | decide | (simp only [go_sem]; omega)) only [go_sem, ↓reduceIte])
  exact ⟨leOs_refl _, leT_refl _⟩
end Go.Proofs.YtdaojihnaajfeaaX

set_option linter.unusedVariables false
set_option linter.unusedSimpArgs false
namespace Go.Proofs.YtdaojihnaajfeaaX
open Go Go.RowKit Go.Proofs
set_option maxRecDepth 100000
/-! ### strings.Builder's String: by hand (the text shares the bytes: the row is given up) -/
-- OWN 0 1 uint8
-- DEAD 0
def F21 (n : Nat) (a0 : Bool × List Int) : Option (List UInt8 × (Bool × List Int)) := if a0.2.length ≤ 549755813888 ∧ (a0.2.all fun x => decide (0 ≤ x) && decide (x < 256)) = true then some (a0.2.map toB, a0) else none
-- F34
set_option maxHeartbeats 2000000 in
set_option maxRecDepth 100000 in
theorem bst_row (b g cap sz : Nat) (p : Value) (l : List UInt8) (h0 : l ≠ []) (hl : l.length ≤ 549755813888) (w : World) (fr fr' : Nat × Nat) (cur : Array Value) (hbk : w.heap[b]? = some (.cells #[p, .slice (some ⟨g, 0, none⟩) l.length cap] 51 fr)) (hg : w.heap[g]? = some (.cells cur 5 fr')) (hc : cap ≠ 0) (hsz : l.length ≤ cur.size)
  (hcell : ∀ j x, l[j]? = some x → w.cell? ((⟨g, 0, none⟩ : Addr).add j) = some (.int .u8 x.toNat)) :
  Calls Try.prog 21 #[.pointer (some ⟨b, 0, none⟩)] w fun e w' => e = .returned (.string ⟨l.toArray⟩) ∧ w' = w.drew.freeze ⟨g, 0, none⟩ l.length := by
 have c1 : w.drew.cell? ⟨b, 1, none⟩ = some (.slice (some ⟨g, 0, none⟩) l.length cap) := by
  have : w.drew.heap[b]? = some (.cells #[p, .slice (some ⟨g, 0, none⟩) l.length cap] 51 fr) := hbk
  simp [World.cell?, this]
 have hSD : (Builtin.unsafeSliceData_ #[49] 65 #[.slice (some ⟨g, 0, none⟩) l.length cap]).run Try.prog w.drew = .ok (.pointer (some ⟨g, 0, none⟩)) w.drew :=
  Lib.run_unsafeSliceData_row _ _ _ _ _ _ hc
 have hUS : (Builtin.unsafeString_ #[65, 3] 9 #[.pointer (some ⟨g, 0, none⟩), .int .i64 l.length]).run Try.prog w.drew = .ok (.string ⟨l.toArray⟩) (w.drew.freeze ⟨g, 0, none⟩ l.length) := by
  refine Lib.run_unsafeString_row w.drew 65 3 9 5 (by kernel_rfl) (by kernel_rfl) g cur.size (by have hg' : w.drew.heap[g]? = some (.cells cur 5 fr') := hg; simp [World.shape?, hg']) l h0 hsz (by omega) ?_
  intro j x hx
  exact hcell j x hx
 go_enter Try.func21, Try.ntmps21
 go_wp2
 go_region
 all_goals (go_wp2; go_ret; exact ⟨rfl, rfl⟩)
set_option maxHeartbeats 2000000 in
set_option maxRecDepth 100000 in
theorem bst_nil (b : Nat) (p : Value) (w : World) (fr : Nat × Nat) (hbk : w.heap[b]? = some (.cells #[p, .slice none 0 0] 51 fr)) :
  Calls Try.prog 21 #[.pointer (some ⟨b, 0, none⟩)] w fun e w' => e = .returned (.string ⟨#[]⟩) ∧ Below w.heap.size w w' := by
 have hUS : ∀ (W : World) (q : Option Addr), (Builtin.unsafeString_ #[65, 3] 9 #[.pointer q, .int .i64 0]).run Try.prog W = .ok (.string .empty) W := fun W q => Lib.run_unsafeString_none W _ _ _ q
 have c1 : w.drew.cell? ⟨b, 1, none⟩ = some (.slice none 0 0) := by
  have : w.drew.heap[b]? = some (.cells #[p, .slice none 0 0] 51 fr) := hbk
  simp [World.cell?, this]
 have hSD : (Builtin.unsafeSliceData_ #[49] 65 #[.slice none 0 0]).run Try.prog w.drew = .ok (.pointer none) w.drew := rfl
 go_enter Try.func21, Try.ntmps21
 go_wp2
 go_region
 all_goals (go_wp2; go_ret; exact ⟨rfl, Below.drew (Below.refl _ w)⟩)
set_option maxHeartbeats 2000000 in
set_option maxRecDepth 100000 in
theorem bst_noroom (b : Nat) (a : Addr) (p : Value) (w : World) (fr fr' : Nat × Nat) (cur : Array Value) (t : TypeId) (hbk : w.heap[b]? = some (.cells #[p, .slice (some a) 0 0] 51 fr)) (hg : w.heap[a.block]? = some (.cells cur t fr')) :
  Calls Try.prog 21 #[.pointer (some ⟨b, 0, none⟩)] w fun e w' => e = .returned (.string ⟨#[]⟩) ∧ Below w.heap.size w w' := by
 have hUS : ∀ (W : World) (q : Option Addr), (Builtin.unsafeString_ #[65, 3] 9 #[.pointer q, .int .i64 0]).run Try.prog W = .ok (.string .empty) W := fun W q => Lib.run_unsafeString_none W _ _ _ q
 have hlt : b < w.heap.size := (Array.getElem?_eq_some_iff.1 hbk).1
 have c1 : w.drew.cell? ⟨b, 1, none⟩ = some (.slice (some a) 0 0) := by
  have : w.drew.heap[b]? = some (.cells #[p, .slice (some a) 0 0] 51 fr) := hbk
  simp [World.cell?, this]
 have hSD : (Builtin.unsafeSliceData_ #[49] 65 #[.slice (some a) 0 0]).run Try.prog w.drew = .ok (.pointer (some ⟨w.drew.heap.size, 0, none⟩)) (w.drew.alloc (.view a 5)) :=
  Lib.run_unsafeSliceData_zero w.drew _ _ 5 (by kernel_rfl) a 0 (t, cur.size) (by have hg' : w.drew.heap[a.block]? = some (.cells cur t fr') := hg; simp [World.shape?, hg'])
 have c2 : (w.drew.alloc (.view a 5)).cell? ⟨b, 1, none⟩ = some (.slice (some a) 0 0) := by
  have : (w.drew.alloc (.view a 5)).heap[b]? = _ := (Lib.alloc_old w.drew _ b hlt).trans hbk
  simp [World.cell?, this]
 have c3 : (w.alloc (.view a 5)).drew.cell? ⟨b, 1, none⟩ = some (.slice (some a) 0 0) := c2
 have c0 : w.cell? ⟨b, 1, none⟩ = some (.slice (some a) 0 0) := c1
 go_enter Try.func21, Try.ntmps21
 go_wp2
 go_region
 all_goals (go_wp2; go_ret; exact ⟨rfl, (Below.drew (Below.refl _ w)).alloc (Nat.le_refl _) _⟩)
set_option maxHeartbeats 2000000 in
set_option maxRecDepth 100000 in
theorem bst_room (b cap : Nat) (a : Addr) (p : Value) (w : World) (fr : Nat × Nat) (hc0 : cap ≠ 0) (hbk : w.heap[b]? = some (.cells #[p, .slice (some a) 0 cap] 51 fr)) :
  Calls Try.prog 21 #[.pointer (some ⟨b, 0, none⟩)] w fun e w' => e = .returned (.string ⟨#[]⟩) ∧ Below w.heap.size w w' := by
 have hUS : ∀ (W : World) (q : Option Addr), (Builtin.unsafeString_ #[65, 3] 9 #[.pointer q, .int .i64 0]).run Try.prog W = .ok (.string .empty) W := fun W q => Lib.run_unsafeString_none W _ _ _ q
 have c1 : w.drew.cell? ⟨b, 1, none⟩ = some (.slice (some a) 0 cap) := by
  have : w.drew.heap[b]? = some (.cells #[p, .slice (some a) 0 cap] 51 fr) := hbk
  simp [World.cell?, this]
 have hSD : (Builtin.unsafeSliceData_ #[49] 65 #[.slice (some a) 0 cap]).run Try.prog w.drew = .ok (.pointer (some a)) w.drew :=
  Lib.run_unsafeSliceData_row _ _ _ _ _ _ hc0
 clear hc0
 go_enter Try.func21, Try.ntmps21
 go_wp2
 go_region
 all_goals (go_wp2; go_ret; exact ⟨rfl, Below.drew (Below.refl _ w)⟩)
def bldD (b : Bool) : List (Option Own) := [some (.box (4294967296 + 51) (.agg [adT b 0, .junk]) false), some .dead]
theorem bst_objs {w w' : World} {μ : Nat → Option Nat} {ban : Ban} {b : Bool} {l : List Int} {g : Nat} {fr : Nat × Nat} {v1 : Value} (hO : Objs ⟨w, μ, bldO b l, ban⟩) (h1 : μ 0 = some g)
  (h2 : w'.heap[g]? = some (.cells #[if b = true then .pointer (some ⟨g, 0, none⟩) else .pointer none, v1] 51 fr)) (h3 : Unf fr 2) : Objs ⟨w', μ, bldD b, ban⟩ := by
 obtain ⟨g', _, _, k1, _, _, _, _, hp⟩ := hO.at_ 0 _ rfl
 have k1 : μ 0 = some g' := k1
 obtain rfl : g' = g := Option.some.inj (k1.symm.trans h1)
 refine ⟨fun o x hx => ?_, fun o o' x x' q hx hx' hd hd' _ _ => ?_⟩
 ·match o, hx with
  | 0, hx =>
   have hx : some (some (Own.box (4294967296 + 51) (.agg [adT b 0, .junk]) false)) = some (some x) := hx
   injection hx with hx; injection hx with hx; subst hx
   refine ⟨g', fr, .agg #[if b = true then .pointer (some ⟨g', 0, none⟩) else .pointer none, v1], h1, h2, h3, ?_, rfl, hp⟩
   simp only [Rep]
   refine ⟨_, rfl, ?_⟩
   simp only [RepL]
   refine ⟨_, _, rfl, ?_, _, _, rfl, by simp only [Rep], rfl⟩
   cases b with
   | true =>
    show Rep _ false (.ref 0 7777 0 0) _
    simp only [Rep]
    exact ⟨trivial, ⟨_, rfl⟩, g', h1, by simp⟩
   | false =>
    show Rep _ false (.imm (.pointer none)) _
    simp [Rep, flat]
  | 1, hx =>
   have hx : some (some Own.dead) = some (some x) := hx
   injection hx with hx; injection hx with hx; subst hx
   trivial
  | o + 2, hx => exact absurd (show (none : Option (Option Own)) = some (some x) from hx) (by simp)
 ·match o, o', hx, hx' with
  | 0, 0, _, _ => rfl
  | 1, _, hx, _ =>
   have hx : some (some Own.dead) = some (some x) := hx
   injection hx with hx; injection hx with hx; exact absurd hx.symm hd
  | _, 1, _, hx =>
   have hx : some (some Own.dead) = some (some x') := hx
   injection hx with hx; injection hx with hx; exact absurd hx.symm hd'
  | o + 2, _, hx, _ => exact absurd (show (none : Option (Option Own)) = some (some x) from hx) (by simp)
  | 0, o + 2, _, hx => exact absurd (show (none : Option (Option Own)) = some (some x') from hx) (by simp)
theorem bst_bytes (l : List Int) (h : (l.all fun x => decide (0 ≤ x) && decide (x < 256)) = true) (j : Nat) (x : UInt8) (hx : (l.map toB)[j]? = some x) : l[j]? = some (x.toNat : Int) := by
 rw [List.getElem?_map] at hx
 cases hl : l[j]? with
 | none => rw [hl] at hx; cases hx
 | some y =>
  rw [hl] at hx
  have hx : toB y = x := Option.some.inj hx
  obtain ⟨hj, e⟩ := List.getElem?_eq_some_iff.1 hl
  have hy := List.all_eq_true.1 h y (e ▸ List.getElem_mem hj)
  simp only [Bool.and_eq_true, decide_eq_true_eq] at hy
  subst hx
  simp only [toB, Option.some.injEq]
  rw [UInt8.toNat_ofNat', Nat.mod_eq_of_lt (by omega)]
  omega
theorem bst_inj : ∀ l ns : List Int, List.map byteT l = List.map byteT ns → l = ns
 | [], [], _ => rfl
 | [], _ :: _, h => by simp at h
 | _ :: _, [], h => by simp at h
 | x :: l, y :: ns, h => by
  simp only [List.map_cons, List.cons.injEq] at h
  obtain ⟨h1, h2⟩ := h
  have h1 : T.imm (.int .u8 x) = T.imm (.int .u8 y) := h1
  injection h1 with h1; injection h1 with _ h1
  rw [h1, bst_inj l ns h2]
theorem bst_kept {B : Base} {q n : Nat} (h : B.own q 0) (hz : ∀ k lk, B.own k lk → lk = 0) : Kept B (B.w.drew.freeze ⟨q, 0, none⟩ n) := by
 unfold World.freeze
 split
 ·exact Kept.below ⟨rfl, rfl, rfl, Nat.le_refl _, fun _ _ _ => rfl, fun _ _ _ _ _ => rfl, fun k lk _ c t fr h => ⟨c, fr, h, rfl⟩⟩ (Below.drew (Below.refl _ _))
 ·refine ⟨rfl, rfl, rfl, ?_, fun k hk h1 => ?_, fun k lk h1 j hj => ?_, fun k lk h1 c t fr hb => ?_⟩
  ·show _ ≤ (B.w.heap.modify _ _).size
   rw [Array.size_modify]; exact Nat.le_refl _
  ·show (B.w.heap.modify _ _)[k]? = _
   rw [Array.getElem?_modify, if_neg (show ¬ q = k from fun e => h1 0 (e ▸ h))]
  ·rw [hz k lk h1] at hj; omega
  ·show ∃ c' fr', (B.w.heap.modify _ _)[k]? = _ ∧ _
   rw [Array.getElem?_modify]
   split
   ·rw [hb]; exact ⟨c, _, rfl, rfl⟩
   ·exact ⟨c, fr, hb, rfl⟩
theorem F21_ok (n : Nat) (a0 : Bool × List Int) (r : List UInt8 × (Bool × List Int)) (h : F21 n a0 = some r) : FnR Try.prog 21 [some (.box (4294967296 + 51) (.agg [adT a0.1 0, .rsl 1 1 0 a0.2.length]) false), some (.buf 5 1 (List.map byteT a0.2) 0)] [.ref 0 0 0 0] (.imm (.string (bs r.1))) [some (.box (4294967296 + 51) (.agg [adT r.2.1 0, .junk]) false), some .dead] := by
 unfold F21 at h
 split at h
 case isFalse => cases h
 rename_i hl
 obtain ⟨hl, hb⟩ := hl
 obtain rfl := Option.some.inj h
 obtain ⟨b, l⟩ := a0
 dsimp only at hl hb ⊢
 refine ⟨⟨Try.f21, Try.func21, by kernel_rfl, rfl⟩, by simp [rowsOk, refsC, refsCL, adT_refsC, tagM], by simp [sameO], by simp [refsC, refsCL], fun B μ vs hO hOwn hv => ?_⟩
 obtain ⟨g, fr, v1, h1, h2, h3, h4⟩ := bldO_at (b := b) (l := l) hO
 have evs : vs = #[.pointer (some ⟨g, 0, none⟩)] := by
  simp only [RepL, Rep] at hv
  obtain ⟨v, vs', e1, ⟨_, _, g', k1, rfl⟩, rfl⟩ := hv
  have k1 : μ 0 = some g' := k1
  rw [h1] at k1; cases k1
  rw [← Array.toArray_toList (xs := vs), e1]
 have hk0 : Kept B B.w := ⟨rfl, rfl, rfl, Nat.le_refl _, fun _ _ _ => rfl, fun _ _ _ _ _ => rfl, fun k lk _ c t fr h => ⟨c, fr, h, rfl⟩⟩
 have hlt : g < B.w.heap.size := (Array.getElem?_eq_some_iff.1 h2).1
 have hown : ∀ (o : Nat) (x : Own) (q : Nat), (bldD b)[o]? = some (some x) → x ≠ .dead → μ o = some q → B.w.heap.size ≤ q ∨ B.own q 0 := fun o x q q1 q2 q3 =>
  .inr ((hOwn.1 q 0).2 ⟨rfl, o, (List.getElem?_eq_some_iff.1 q1).1, q3⟩)
 have hout : ∀ (e : Ending) (w' : World), l = [] → e = .returned (.string ⟨#[]⟩) ∧ Below B.w.heap.size B.w w' → ∃ u μ', e = .returned u ∧ Objs ⟨w', μ', bldD b, B.ban⟩ ∧ Rep ⟨w', μ', bldD b, B.ban⟩ false (.imm (.string (bs (l.map toB)))) u ∧ Kept B w' ∧
   (∀ (o : Nat) (x : Own) (q : Nat), (bldD b)[o]? = some (some x) → x ≠ .dead → μ' o = some q → B.w.heap.size ≤ q ∨ B.own q 0) := by
  rintro e w' rfl ⟨rfl, hw⟩
  exact ⟨_, μ, rfl, bst_objs hO h1 ((hw.block g hlt).trans h2) h3, by simp only [Rep]; exact ⟨rfl, rfl⟩, hk0.below hw, hown⟩
 rw [evs]
 simp only [Rep] at h4
 obtain ⟨_, _, h4⟩ := h4
 rcases h4 with ⟨_, hl0, _, ⟨a, ha⟩, rfl⟩ | ⟨q, p, cap, c, t, fr', m1, rfl, m2, m3, m4, m5⟩
 ·have e : l = [] := List.eq_nil_of_length_eq_zero hl0
  cases a with
  | none => exact (bst_nil g _ B.w fr h2).mono fun e' w' h' => hout e' w' e h'
  | some a =>
   obtain ⟨c, t, fr', hc⟩ := ha a rfl
   exact (bst_noroom g a _ B.w fr fr' c t h2 hc).mono fun e' w' h' => hout e' w' e h'
 ·by_cases e : l = []
  ·subst e
   by_cases hc : cap = 0
   ·subst hc
    exact (bst_noroom g ⟨q, p, none⟩ _ B.w fr fr' c t h2 m4).mono fun e' w' h' => hout e' w' rfl h'
   ·exact (bst_room g cap ⟨q, p, none⟩ _ B.w fr hc h2).mono fun e' w' h' => hout e' w' rfl h'
  ·have hll : l.length ≠ 0 := fun h => e (List.eq_nil_of_length_eq_zero h)
   have hc : cap ≠ 0 := by omega
   have hp : p = 0 := by rcases m3 with h | h; exact absurd h hc; omega
   subst hp
   obtain ⟨_, hbuf⟩ := hO.at_ 1 _ rfl
   rcases hbuf with ⟨_, h0⟩ | ⟨q', c', fr2, c1, c2, n1, n2, n3, n4, n5⟩
   ·exact absurd (List.map_eq_nil_iff.1 h0) e
   have n1 : μ 1 = some q' := n1
   obtain rfl : q' = q := Option.some.inj (n1.symm.trans m1)
   have n2 : B.w.heap[q']? = some (.cells c' 5 fr2) := n2
   obtain ⟨ns, e1, e2⟩ := bytes_rep n5 (fun x hx => by obtain ⟨y, _, rfl⟩ := List.mem_map.1 hx; rfl)
   obtain rfl := bst_inj _ _ e2
   have hsz : (l.map toB).length ≤ c'.size := by
    rw [← Array.length_toList, n4, e1]; simp
   have hcell : ∀ j x, (l.map toB)[j]? = some x → B.w.cell? ((⟨q', 0, none⟩ : Addr).add j) = some (.int .u8 x.toNat) := by
    intro j x hx
    have hj := bst_bytes l hb j x hx
    have hjl : j < c1.length := by rw [e1, List.length_map]; exact (List.getElem?_eq_some_iff.1 hj).1
    have : c'[j]? = some (.int .u8 x.toNat) := by
     rw [← Array.getElem?_toList, n4, List.getElem?_append_left hjl, e1, List.getElem?_map, hj]; rfl
    have ea : ((⟨q', 0, none⟩ : Addr).add j) = ⟨q', j, none⟩ := by
     unfold Addr.add
     split
     ·subst_vars; rfl
     ·simp
    rw [ea]
    simp only [World.cell?, n2]
    exact this
   have hne : g ≠ q' := fun e' => by
    have := hO.inj 0 1 _ _ g rfl rfl (by simp) (by simp) h1 (e' ▸ n1)
    omega
   have h2' : B.w.heap[g]? = some (.cells #[if b = true then .pointer (some ⟨g, 0, none⟩) else .pointer none, .slice (some ⟨q', 0, none⟩) (l.map toB).length cap] 51 fr) := by rw [List.length_map]; exact h2
   refine (bst_row g q' cap c'.size _ (l.map toB) (by simpa using e) (by rw [List.length_map]; exact hl) B.w fr fr2 c' h2' n2 hc hsz hcell).mono ?_
   rintro e' w' ⟨rfl, rfl⟩
   have hw : (B.w.drew.freeze ⟨q', 0, none⟩ (l.map toB).length).heap[g]? = B.w.heap[g]? := by
    unfold World.freeze
    split
    ·rfl
    ·show (B.w.heap.modify _ _)[g]? = _
     rw [Array.getElem?_modify, if_neg (fun h => hne h.symm)]
   exact ⟨_, μ, rfl, bst_objs hO h1 (hw.trans h2) h3, by simp only [Rep]; exact ⟨rfl, rfl⟩, bst_kept ((hOwn.1 q' 0).2 ⟨rfl, 1, by simp, n1⟩) (fun k lk h => ((hOwn.1 k lk).1 h).1), hown⟩
end Go.Proofs.YtdaojihnaajfeaaX
