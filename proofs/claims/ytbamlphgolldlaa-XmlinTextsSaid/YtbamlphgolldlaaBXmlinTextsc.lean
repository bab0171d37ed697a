/- Part of the proof of XmlinTexts: walks and plain words, merged. -/
import Derived.Test.YtbamlphgolldlaaBXmlinTextsb
import Derived.Test.YtbamlphgolldlaaProg
import Derived.KernelRfl
import Derived.Lib.Builder
import Derived.Laws.Externs
import Derived.Lib.Strings
import Derived.BigRegion
import Derived.Lib.UnsafeStr
import Derived.Lib.Bytealg
set_option linter.unusedVariables false
set_option linter.unusedSimpArgs false

/- A struct that is built: the run stops there. Of no program. -/
set_option linter.unusedVariables false
set_option linter.unusedSimpArgs false
namespace Go.Proofs.YtbamlphgolldlaaX
open Go Go.RowKit

def bldG (P : Program) (Q : Exit → St → Prop) (t : TypeId) (parts : List (Nat × T)) (dst : Option Tmp) (rest : List (Op × Option Tmp × Option (Option Tmp × Bool))) (S : St) (k : Kn) : Prop := buildW P t parts fun v => stepsK P Q rest (S.put dst v) k
theorem stepsK_build (P : Program) (Q : Exit → St → Prop) (S : St) (k : Kn) (t : TypeId) (l : List (Nat × Operand)) (dst : Option Tmp) (rest : List (Op × Option Tmp × Option (Option Tmp × Bool))) :
    stepsK P Q ((.build t ⟨l⟩, dst, none) :: rest) S k = bldG P Q t (l.map fun p => (p.1, evalT S p.2)) dst rest S k := by
  rw [stepsK_cons]
  simp only [opW]
  rfl
theorem stepsK_build0 (P : Program) (Q : Exit → St → Prop) (S : St) (k : Kn) (t : TypeId) (dst : Option Tmp) (rest : List (Op × Option Tmp × Option (Option Tmp × Bool))) :
    stepsK P Q ((.build t #[], dst, none) :: rest) S k = bldG P Q t [] dst rest S k := stepsK_build P Q S k t [] dst rest
theorem bldG_of {P : Program} {Q : Exit → St → Prop} {t : TypeId} {parts : List (Nat × T)} {dst : Option Tmp} {rest : List (Op × Option Tmp × Option (Option Tmp × Bool))} {S : St} {k : Kn} (l : List T) (h : buildL P t parts = some l) (hK : stepsK P Q rest (S.put dst (.agg l)) k) : bldG P Q t parts dst rest S k := buildW_of l h hK
/-- .. and a slice that is built. -/
def bsG (P : Program) (Q : Exit → St → Prop) (t : TypeId) (n : Nat) (parts : List (Nat × T)) (dst : Option Tmp) (rest : List (Op × Option Tmp × Option (Option Tmp × Bool))) (S : St) (k : Kn) : Prop := buildSliceX P S.objs.length t n parts fun v eff => stepsK P Q rest ((S.after eff).put dst v) k
theorem stepsK_bs (P : Program) (Q : Exit → St → Prop) (S : St) (k : Kn) (t : TypeId) (n : Nat) (l : List (Nat × Operand)) (dst : Option Tmp) (rest : List (Op × Option Tmp × Option (Option Tmp × Bool))) :
    stepsK P Q ((.buildSlice t n ⟨l⟩, dst, none) :: rest) S k = bsG P Q t n (l.map fun p => (p.1, evalT S p.2)) dst rest S k := by
  rw [stepsK_cons]
  simp only [opW]
  rfl
theorem stepsK_bs0 (P : Program) (Q : Exit → St → Prop) (S : St) (k : Kn) (t : TypeId) (n : Nat) (dst : Option Tmp) (rest : List (Op × Option Tmp × Option (Option Tmp × Bool))) :
    stepsK P Q ((.buildSlice t n #[], dst, none) :: rest) S k = bsG P Q t n [] dst rest S k := stepsK_bs P Q S k t n [] dst rest
theorem bs_go {P : Program} {Q : Exit → St → Prop} {t : TypeId} {n : Nat} {parts : List (Nat × T)} {dst : Option Tmp} {rest : List (Op × Option Tmp × Option (Option Tmp × Bool))} {S : St} {k : Kn} (h : buildSliceX P S.objs.length t n parts fun v eff => stepsK P Q rest ((S.after eff).put dst v) k) : bsG P Q t n parts dst rest S k := h
theorem closedL_map {α : Type} (e : α → T) (h : ∀ x, closedT (e x) = true) : ∀ l : List α, closedL (List.map e l) = true
  | [] => rfl
  | x :: l => by rw [List.map_cons, closedL, h, closedL_map e h l]; rfl
theorem ppL_map {α : Type} (o : Nat) (y : T) (e : α → T) (h : ∀ x, ppT o y (e x) = e x) : ∀ l : List α, ppL o y (List.map e l) = List.map e l
  | [] => rfl
  | x :: l => by rw [List.map_cons, ppL, h, ppL_map o y e h l]
theorem ppL_s (o : Nat) (y : T) (l : List (List UInt8)) : ppL o y (List.map eS l) = List.map eS l := ppL_map o y _ (fun _ => rfl) l
/-- Elements, one by one. -/
def leE (l l' : List T) : Prop := ∀ (E : Env) (sz : Nat) (c : List Value), RepR E sz l c → RepR E sz l' c
theorem leE_refl (l : List T) : leE l l := fun _ _ _ h => h
theorem leE_cons {x y : T} {l l' : List T} (h : leT anyE x y) (h' : leE l l') : leE (x :: l) (y :: l') := fun E sz c k => by
  simp only [RepR] at k ⊢
  obtain ⟨u, c', e, h1, h2, h3⟩ := k
  exact ⟨u, c', e, h1, h E true u trivial h2, h' E sz c' h3⟩
theorem leT_slX {sz : Nat} {f : Bool} {l l' : List T} (h : leE l l') (hl : l'.length = l.length) : leT anyE (.sl sz f l) (.sl sz false l') := fun E cl v hp k => by
  simp only [Rep] at k ⊢
  obtain ⟨a, cap, c, h1, h2, h3, h4, h5⟩ := k
  exact ⟨a, cap, c, by rw [hl]; exact h1, by rw [hl]; exact h2, (fun h => by cases h), h E sz c h4, h5⟩
end Go.Proofs.YtbamlphgolldlaaX

/- Contracts over rows of the caller's, by a run; and their use. Of no program. -/
set_option linter.unusedVariables false
set_option linter.unusedSimpArgs false
namespace Go.Proofs.YtbamlphgolldlaaX
open Go Go.RowKit

/-! ### At a function's end -/
def lockFr (n : Nat) : Nat → List (Option Own) → List (Option Own)
  | _, [] => []
  | i, x :: l => (if i < n then x else x.map Own.lockAll) :: lockFr n (i + 1) l
theorem lockFr_get (n : Nat) : ∀ (l : List (Option Own)) (i o : Nat), (lockFr n i l)[o]? = (l[o]?).map fun x => if i + o < n then x else x.map Own.lockAll
  | [], i, o => by simp [lockFr]
  | x :: l, i, o => by
    cases o with
    | zero => simp [lockFr]
    | succ o =>
      have := lockFr_get n l (i + 1) o
      rw [show i + 1 + o = i + (o + 1) by omega] at this
      simpa [lockFr] using this
theorem Sat.lockFr {B : Base} {S : St} {a : Act} {w : World} {μ : Nat → Option Nat} (hS : Sat B S a w μ) (n : Nat) : Sat B ⟨S.tmps, Go.Proofs.YtbamlphgolldlaaX.lockFr n 0 S.objs⟩ a w μ := by
  refine hS.relock fun i => ?_
  rw [lockFr_get, Nat.zero_add]
  cases h : S.objs[i]? with
  | none => exact .none
  | some x =>
    rw [Option.map_some]
    by_cases hi : i < n
    · rw [if_pos hi]; exact RL.refl _
    · rw [if_neg hi]
      cases x with
      | none => exact .free
      | some y =>
        cases y with
        | box t x lk => exact .box fun _ => rfl
        | buf t sz l lk => exact .buf (Nat.le_max_left _ _) (fun h => Nat.max_le.2 ⟨h, Nat.le_refl _⟩)
        | dead => exact .dead
def lookFr (n : Nat) (o : List (Option Own)) (i : Nat) : Option Own := if i < n then none else o.getD i none
theorem lookFr_some {n : Nat} {o : List (Option Own)} {i : Nat} {x : Own} (h : lookFr n o i = some x) : o[i]? = some (some x) := by
  unfold lookFr at h
  split at h
  · cases h
  · rw [List.getD_eq_getElem?_getD] at h
    cases hz : o[i]? with
    | none => rw [hz] at h; cases h
    | some z => rw [hz] at h; exact congrArg some h
def Own.snap (look : Nat → Option Own) : Own → Own
  | .box t x lk => .box t (dsnap look x) lk
  | .buf t sz l lk => .buf t sz l lk
  | .dead => .dead
theorem dsnapL_length (look : Nat → Option Own) (l : List T) : (dsnapL look l).length = l.length := by rw [dsnapL_eq]; simp
theorem cells_dsnap (look : Nat → Option Own) (x : T) : (dsnap look x).cells.length = x.cells.length := by
  cases x with
  | agg l => simp only [dsnap, T.cells, dsnapL_length]
  | rsl o sz off len =>
    rw [dsnap]; unfold Go.Proofs.YtbamlphgolldlaaX.snap
    dsimp only
    split
    · split <;> rfl
    · rfl
  | _ => rfl
theorem Own.snap_lock (look : Nat → Option Own) (x : Own) : (x.snap look).lock = x.lock := by
  cases x <;> simp only [Own.snap, Own.lock, cells_dsnap]
theorem Own.snap_dead {look : Nat → Option Own} {x : Own} : x.snap look = .dead ↔ x = .dead := by cases x <;> simp [Own.snap]
theorem Sat.snapR {B : Base} {S : St} {a : Act} {w : World} {μ : Nat → Option Nat} (hS : Sat B S a w μ) {look : Nat → Option Own} (hl : ∀ i x, look i = some x → S.objs[i]? = some (some x)) : Sat B ⟨dsnapL look S.tmps, S.objs.map (Option.map (Own.snap look))⟩ a w μ := by
  have hget : ∀ (o : Nat) (y : Own), (S.objs.map (Option.map (Own.snap look)))[o]? = some (some y) → ∃ x, S.objs[o]? = some (some x) ∧ y = x.snap look := by
    intro o y h
    rw [List.getElem?_map] at h
    cases hz : S.objs[o]? with
    | none => rw [hz] at h; cases h
    | some z =>
      rw [hz] at h
      cases z with
      | none => cases h
      | some z =>
        have h : some (some (z.snap look)) = some (some y) := h
        injection h with h; injection h with h
        exact ⟨z, rfl, h.symm⟩
  have hst : Step [] ⟨w, μ, S.objs, B.ban⟩ ⟨w, μ, S.objs.map (Option.map (Own.snap look)), B.ban⟩ := by
    refine ⟨⟨fun b j v ⟨h1, h2, h3⟩ => ⟨h1, fun lk ⟨o, y, k1, k2, k3⟩ => ?_, h3⟩, fun b c t fr hb => ⟨c, fr, hb, rfl⟩⟩, fun o ⟨x, hx⟩ _ => ⟨x.snap look, ?_⟩, fun _ _ _ => rfl⟩
    · obtain ⟨x, e1, rfl⟩ := hget o y k1
      rw [Own.snap_lock] at k3
      exact h2 lk ⟨o, x, e1, k2, k3⟩
    · have hx : S.objs[o]? = some (some x) := hx
      show (S.objs.map _)[o]? = _
      rw [List.getElem?_map, hx]; rfl
  refine ⟨RepL.step hst (dsnapL_rep hS hl _ _ hS.tmps), hS.defers, ⟨fun o y hy => ?_, fun o o' y y' b h1 h2 hd hd' hb hb' => ?_⟩, fun o y b h1 hd hb => ?_, hS.kept⟩
  · obtain ⟨x, hx, rfl⟩ := hget o y hy
    have := hS.objs.at_ o x hx
    cases x with
    | box t x lk =>
      obtain ⟨b, fr, u, h1, h2, h3, h4, h5⟩ := this
      exact ⟨b, fr, u, h1, h2, h3, Rep.step hst (dsnap_rep hS hl _ _ h4), by rw [cells_dsnap]; exact h5⟩
    | buf t sz l lk =>
      obtain ⟨h0, h1⟩ := this
      exact ⟨h0, h1.imp id fun ⟨b, c, fr, c1, c2, h1, h2, h3, h4, h5⟩ => ⟨b, c, fr, c1, c2, h1, h2, h3, h4, RepR.stepC hst.toStepC _ _ _ h5⟩⟩
    | dead => trivial
  · obtain ⟨x, hx, rfl⟩ := hget o y h1
    obtain ⟨x', hx', rfl⟩ := hget o' y' h2
    exact hS.objs.inj o o' x x' b hx hx' (fun e => hd (Own.snap_dead.2 e)) (fun e => hd' (Own.snap_dead.2 e)) hb hb'
  · obtain ⟨x, hx, rfl⟩ := hget o y h1
    rw [Own.snap_lock]
    exact hS.fresh o x b hx (fun e => hd (Own.snap_dead.2 e)) hb
/-- Rows from a number on are locked, and seen as slices; these temporaries alone are kept. -/
def St.fin (S : St) (n : Nat) (ts : List Nat) : St :=
  (St.keep ⟨dsnapL (lookFr n (lockFr n 0 S.objs)) S.tmps, (lockFr n 0 S.objs).map (Option.map (Own.snap (lookFr n (lockFr n 0 S.objs))))⟩ ts).cut n
theorem Sat.fin {B : Base} {S : St} {a : Act} {w : World} {μ : Nat → Option Nat} (hS : Sat B S a w μ) (n : Nat) (ts : List Nat) : Sat B (S.fin n ts) a w μ :=
  (((hS.lockFr n).snapR (look := lookFr n (Go.Proofs.YtbamlphgolldlaaX.lockFr n 0 S.objs)) fun i x h => lookFr_some h).keep ts).cut n

def RetR (P : Program) (fn : Func) (res : T) (n : Nat) (ts : List Nat) (objs' : List (Option Own)) : Exit → St → Prop
  | .normal, S | .ret, S => leOs anyE (S.fin n ts).objs objs' ∧ resW P ⟨(S.fin n ts).tmps, objs'⟩ fn.results.toList fun l => leT anyE (retT l) res
  | _, _ => False
theorem FnR.ofW {P : Program} {f : FuncId} {fn : Func} {c : Code} {objs objs' : List (Option Own)} {args : List T} {res : T} (ts : List Nat) (hf : P.funcs[f]? = some fn) (hn : (fn.name == "runtime.NumGoroutine") = false) (hb : fn.body = some c)
    (hrows : rowsOk objs.length 0 objs = true) (hsame : sameO objs objs' = true) (hrefs : (refsCL args).all (fun o => decide (o < objs.length)) = true)
    (h : WP P c ⟨args ++ List.replicate (fn.ntmps - args.length) .junk, objs⟩ (RetR P fn res objs.length ts objs')) : FnR P f objs args res objs' := by
  refine ⟨⟨fn, hf, hn, by rw [hb]; rfl⟩, hrows, hsame, hrefs, fun B μ vs hO hOwn hv => ?_⟩
  have hlen := hv.length
  rw [Array.length_toList] at hlen
  have hS : Sat B ⟨args ++ List.replicate (fn.ntmps - args.length) .junk, objs⟩ { tmps := vs ++ Array.replicate (fn.ntmps - vs.size) undef, defers := [] } B.w μ := by
    refine ⟨?_, rfl, hO, fun o x b h1 h2 h3 => ?_, ⟨rfl, rfl, rfl, Nat.le_refl _, fun _ _ _ => rfl, fun _ _ _ _ _ => rfl, fun k lk _ c t fr h => ⟨c, fr, h, rfl⟩⟩⟩
    · have e : (vs ++ Array.replicate (fn.ntmps - vs.size) undef).toList = vs.toList ++ List.replicate (fn.ntmps - args.length) undef := by simp [hlen]
      show RepL _ _ _ (vs ++ Array.replicate (fn.ntmps - vs.size) undef).toList
      rw [e]
      refine RepL.append hv ?_
      generalize fn.ntmps - args.length = n
      induction n with
      | zero => simp [RepL]
      | succ n ih => simp only [List.replicate_succ, RepL]; exact ⟨_, _, rfl, by simp only [Rep], ih⟩
    · have h1 : objs[o]? = some (some x) := h1
      obtain ⟨l, hl⟩ : ∃ l, x.lock = some l := by cases x <;> first | exact ⟨_, rfl⟩ | exact absurd rfl h2
      exact .inr ⟨0, l, (hOwn.1 b 0).2 ⟨rfl, o, (List.getElem?_eq_some_iff.1 h1).1, h3⟩, hl, Nat.zero_le _⟩
  refine calls_of_wp hf hb (wp_mono (h B _ _ _ hS) fun e a w' ⟨S, μ1, hQ, hS'⟩ => ?_)
  have main : (leOs anyE (S.fin objs.length ts).objs objs' ∧ resW P ⟨(S.fin objs.length ts).tmps, objs'⟩ fn.results.toList fun l => leT anyE (retT l) res) → a.defers = [] ∧ ∃ v, (results fn a.tmps).run P w' = .ok v w' ∧ (∃ u μ', Ending.returned v = .returned u ∧ Objs ⟨w', μ', objs', B.ban⟩ ∧ Rep ⟨w', μ', objs', B.ban⟩ false res u ∧ Kept B w' ∧ (∀ (o : Nat) (x : Own) (b : Nat), objs'[o]? = some (some x) → x ≠ .dead → μ' o = some b → B.w.heap.size ≤ b ∨ B.own b 0)) := by
    rintro ⟨hR1, hR2⟩
    have hF : Sat B ⟨(S.fin objs.length ts).tmps, objs'⟩ a w' μ1 := (hS'.fin objs.length ts).le (p := anyE) (leL_refl _) hR1 trivial
    obtain ⟨l, us, h1, h3, h4⟩ := res_sound hF _ _ hR2
    refine ⟨hF.defers, if hh : us.toArray.size = 1 then us.toArray[0] else .tuple us.toArray, ?_, _, μ1, rfl, hF.objs, ?_, hF.kept, fun o x b k1 k2 k3 => ?_⟩
    · have hm : (fn.results.mapM (fun | .tmp t => pure (a.tmps.getD t undef) | .cell c t => do loadVar t (← asAddr (a.tmps.getD c undef)) : ResultVar → Sem Value)).run P w' = .ok us.toArray w' := by
        rw [Array.mapM_eq_mapM_toList, Sem.run_map]
        have : (fun | .tmp t => pure (a.tmps.getD t undef) | .cell c t => do loadVar t (← asAddr (a.tmps.getD c undef)) : ResultVar → Sem Value) = rdRes a.tmps := by
          funext r; cases r <;> rfl
        rw [this, h3]; rfl
      unfold results
      exact run_bind (f := fun vs : Array Value => (pure (if h : vs.size = 1 then vs[0] else Value.tuple vs) : Sem Value)) hm
    · refine h1 _ _ _ trivial ?_
      have hul := h4.length
      by_cases h1' : us.length = 1
      · obtain ⟨u, rfl⟩ := List.length_eq_one_iff.1 h1'
        obtain ⟨x, rfl⟩ := List.length_eq_one_iff.1 (hul.symm.trans h1')
        simp only [RepL] at h4
        obtain ⟨v, vs', e1, e2, e3⟩ := h4
        subst e3
        cases e1
        simpa [retT] using e2
      · rw [dif_neg (by simpa using h1')]
        have e : retT l = .tup l := by
          cases l with
          | nil => rfl
          | cons x l => cases l with
            | nil => exact absurd hul h1'
            | cons y l => rfl
        rw [e]
        simp only [Rep]
        exact ⟨_, rfl, by simpa using h4⟩
    · rcases hF.fresh o x b k1 k2 k3 with h | ⟨lk, lk', q1, _⟩
      · exact .inl h
      · have := ((hOwn.1 b lk).1 q1).1
        subst this
        exact .inr q1
  cases e with
  | normal => exact main hQ
  | ret => exact main hQ
  | _ => exact hQ.elim
theorem FnR.goX {P : Program} (hm : P.follows .mixedOrders = true) (ts : List Nat) {f : FuncId} {fn : Func} {c : Code} {objs objs' : List (Option Own)} {args : List T} {res : T} (hf : P.funcs[f]? = some fn) (hn : (fn.name == "runtime.NumGoroutine") = false) (hb : fn.body = some c)
    (hrows : rowsOk objs.length 0 objs = true) (hsame : sameO objs objs' = true) (hrefs : (refsCL args).all (fun o => decide (o < objs.length)) = true)
    (h : runX P (RetR P fn res objs.length ts objs') c ⟨args ++ List.replicate (fn.ntmps - args.length) .junk, objs⟩ .q) : FnR P f objs args res objs' := FnR.ofW ts hf hn hb hrows hsame hrefs h
section
variable {P : Program} {Q : Exit → St → Prop} {g : FuncId} {args args' : List T} {dst : Option Tmp} {rest : List (Op × Option Tmp × Option (Option Tmp × Bool))} {S : St} {k : Kn} {r : T} {objs objs' : List (Option Own)}
theorem callR_X (σ : List Nat) (h : FnR P g objs args' r objs') (hnd : σ.Nodup) (hrel : relsO σ (lookS S) σ objs) (ha : leL anyE args (renFL σ args')) (h2 : stepsK P Q rest ((S.after (.many (movesO σ objs) (newsO σ (lookS S) σ objs'))).put dst (renF σ r)) k) : callG P Q g args dst rest S k :=
  .inr ⟨σ, objs, args', r, objs', h, hnd, hrel, fun E vs hv => ha E false vs trivial hv, h2⟩
end
theorem renFL_map {α : Type} (f : List Nat) (e : α → T) (h : ∀ x, renF f (e x) = e x) : ∀ l : List α, renFL f (List.map e l) = List.map e l
  | [] => rfl
  | x :: l => by rw [List.map_cons, renFL, h, renFL_map f e h l]

/-! ### A pointer of a variable to itself, or none -/
def adT (b : Bool) (o : Nat) : T := match b with | true => .ref o 7777 0 0 | false => .imm (.pointer none)
theorem adT_refs (b : Bool) (o : Nat) : refsT (adT b o) = [] := by cases b <;> rfl
theorem adT_refsC {b : Bool} {o n : Nat} (h : o < n) : (refsC (adT b o)).all (fun q => decide (q < n)) = true := by cases b <;> simp [adT, refsC, h]
theorem adT_ren (f : List Nat) (b : Bool) (o : Nat) : renF f (adT b o) = adT b (f.getD o 0) := by cases b <;> rfl
theorem adT_kill {ks : List Nat} {b : Bool} {o : Nat} (h : ks.contains o = false) : kill ks (adT b o) = adT b o := by
  cases b
  · rfl
  · show (if ks.contains o = true then _ else _) = _
    rw [h]; rfl
theorem adT_snap (look : Nat → Option Own) (b : Bool) (o : Nat) : dsnap look (adT b o) = adT b o := by cases b <;> rfl
theorem adT_cells (b : Bool) (o : Nat) : (adT b o).cells = [adT b o] := by cases b <;> rfl
attribute [go_sem] adT_refs adT_refsC adT_ren adT_kill adT_snap adT_cells
attribute [go_sem] lockFr lookFr Own.snap St.fin renF renFL movesO newsO newO setsO relsO relO renFL_map
end Go.Proofs.YtbamlphgolldlaaX

/- What the program's types are. -/
set_option linter.unusedVariables false
namespace Go.Proofs.YtbamlphgolldlaaX
open Go Go.RowKit Go.Proofs
theorem small_of {P : Program} {t : TypeId} (h : ((P.info? t).all fun i => decide (i.bytes ≤ 256)) = true) : ∀ i, P.info? t = some i → i.bytes ≤ 256 := fun i hi => by
  rw [hi] at h; simpa using h
theorem notInt_of {d : Option TypeDesc} (h : (match d with | some (.int _) => false | some _ => true | none => false) = true) : notInt d := by
  cases d with
  | none => cases h
  | some d => refine ⟨d, rfl, fun k e => ?_⟩; subst e; cases h
theorem mixed : Try.prog.follows .mixedOrders = true := by kernel_rfl
theorem sz2 : szOf Try.prog 2 = 1 := by kernel_rfl
theorem cz2 : Try.prog.cellsOf 2 = 1 := by kernel_rfl
theorem ok2 : okT Try.prog 2 = true := by kernel_rfl
theorem ze2 : zeroOf Try.prog 2 = .imm (.int .i64 0) := by kernel_rfl
theorem by2 : (∀ i, Try.prog.info? 2 = some i → i.bytes ≤ 256) = True := eq_true (small_of (by kernel_rfl))
theorem sz3 : szOf Try.prog 3 = 1 := by kernel_rfl
theorem cz3 : Try.prog.cellsOf 3 = 1 := by kernel_rfl
theorem ok3 : okT Try.prog 3 = true := by kernel_rfl
theorem ze3 : zeroOf Try.prog 3 = .imm (.int .i64 0) := by kernel_rfl
theorem by3 : (∀ i, Try.prog.info? 3 = some i → i.bytes ≤ 256) = True := eq_true (small_of (by kernel_rfl))
theorem sz4 : szOf Try.prog 4 = 1 := by kernel_rfl
theorem cz4 : Try.prog.cellsOf 4 = 1 := by kernel_rfl
theorem ok4 : okT Try.prog 4 = true := by kernel_rfl
theorem ze4 : zeroOf Try.prog 4 = .imm (.bool false) := by kernel_rfl
theorem by4 : (∀ i, Try.prog.info? 4 = some i → i.bytes ≤ 256) = True := eq_true (small_of (by kernel_rfl))
theorem ni4 : notInt (Try.prog.underlying 4) = True := eq_true (notInt_of (by kernel_rfl))
theorem sz5 : szOf Try.prog 5 = 1 := by kernel_rfl
theorem cz5 : Try.prog.cellsOf 5 = 1 := by kernel_rfl
theorem ok5 : okT Try.prog 5 = true := by kernel_rfl
theorem ze5 : zeroOf Try.prog 5 = .imm (.int .u8 0) := by kernel_rfl
theorem by5 : (∀ i, Try.prog.info? 5 = some i → i.bytes ≤ 256) = True := eq_true (small_of (by kernel_rfl))
theorem sz6 : szOf Try.prog 6 = 1 := by kernel_rfl
theorem cz6 : Try.prog.cellsOf 6 = 1 := by kernel_rfl
theorem ok6 : okT Try.prog 6 = true := by kernel_rfl
theorem ze6 : zeroOf Try.prog 6 = .imm (.int .u8 0) := by kernel_rfl
theorem by6 : (∀ i, Try.prog.info? 6 = some i → i.bytes ≤ 256) = True := eq_true (small_of (by kernel_rfl))
theorem sz7 : szOf Try.prog 7 = 4 := by kernel_rfl
theorem cz7 : Try.prog.cellsOf 7 = 4 := by kernel_rfl
theorem ok7 : okT Try.prog 7 = true := by kernel_rfl
theorem ze7 : zeroOf Try.prog 7 = .agg [.imm (.int .i64 0), .imm (.int .i64 0), .imm (.bool false), .imm (.int .u8 0)] := by kernel_rfl
theorem by7 : (∀ i, Try.prog.info? 7 = some i → i.bytes ≤ 256) = True := eq_true (small_of (by kernel_rfl))
theorem ni7 : notInt (Try.prog.underlying 7) = True := eq_true (notInt_of (by kernel_rfl))
theorem sz8 : szOf Try.prog 8 = 4 := by kernel_rfl
theorem cz8 : Try.prog.cellsOf 8 = 4 := by kernel_rfl
theorem ok8 : okT Try.prog 8 = true := by kernel_rfl
theorem ze8 : zeroOf Try.prog 8 = .agg [.imm (.int .i64 0), .imm (.int .i64 0), .imm (.bool false), .imm (.int .u8 0)] := by kernel_rfl
theorem by8 : (∀ i, Try.prog.info? 8 = some i → i.bytes ≤ 256) = True := eq_true (small_of (by kernel_rfl))
theorem ni8 : notInt (Try.prog.underlying 8) = True := eq_true (notInt_of (by kernel_rfl))
theorem sz9 : szOf Try.prog 9 = 1 := by kernel_rfl
theorem cz9 : Try.prog.cellsOf 9 = 1 := by kernel_rfl
theorem ok9 : okT Try.prog 9 = true := by kernel_rfl
theorem ze9 : zeroOf Try.prog 9 = .imm (.string ByteArray.empty) := by kernel_rfl
theorem by9 : (∀ i, Try.prog.info? 9 = some i → i.bytes ≤ 256) = True := eq_true (small_of (by kernel_rfl))
theorem ni9 : notInt (Try.prog.underlying 9) = True := eq_true (notInt_of (by kernel_rfl))
theorem sz10 : szOf Try.prog 10 = 1 := by kernel_rfl
theorem cz10 : Try.prog.cellsOf 10 = 1 := by kernel_rfl
theorem ok10 : okT Try.prog 10 = true := by kernel_rfl
theorem ze10 : zeroOf Try.prog 10 = .imm (.string ByteArray.empty) := by kernel_rfl
theorem by10 : (∀ i, Try.prog.info? 10 = some i → i.bytes ≤ 256) = True := eq_true (small_of (by kernel_rfl))
theorem ni10 : notInt (Try.prog.underlying 10) = True := eq_true (notInt_of (by kernel_rfl))
theorem sz11 : szOf Try.prog 11 = 1 := by kernel_rfl
theorem cz11 : Try.prog.cellsOf 11 = 1 := by kernel_rfl
theorem ok11 : okT Try.prog 11 = true := by kernel_rfl
theorem ze11 : zeroOf Try.prog 11 = .imm (.string ByteArray.empty) := by kernel_rfl
theorem by11 : (∀ i, Try.prog.info? 11 = some i → i.bytes ≤ 256) = True := eq_true (small_of (by kernel_rfl))
theorem ni11 : notInt (Try.prog.underlying 11) = True := eq_true (notInt_of (by kernel_rfl))
theorem sz12 : szOf Try.prog 12 = 1 := by kernel_rfl
theorem cz12 : Try.prog.cellsOf 12 = 1 := by kernel_rfl
theorem ok12 : okT Try.prog 12 = true := by kernel_rfl
theorem ze12 : zeroOf Try.prog 12 = .imm (.int .u64 0) := by kernel_rfl
theorem by12 : (∀ i, Try.prog.info? 12 = some i → i.bytes ≤ 256) = True := eq_true (small_of (by kernel_rfl))
theorem sz13 : szOf Try.prog 13 = 2 := by kernel_rfl
theorem cz13 : Try.prog.cellsOf 13 = 2 := by kernel_rfl
theorem ok13 : okT Try.prog 13 = true := by kernel_rfl
theorem ze13 : zeroOf Try.prog 13 = .agg [.imm (.string ByteArray.empty), .imm (.int .u64 0)] := by kernel_rfl
theorem by13 : (∀ i, Try.prog.info? 13 = some i → i.bytes ≤ 256) = True := eq_true (small_of (by kernel_rfl))
theorem ni13 : notInt (Try.prog.underlying 13) = True := eq_true (notInt_of (by kernel_rfl))
theorem sz14 : szOf Try.prog 14 = 2 := by kernel_rfl
theorem cz14 : Try.prog.cellsOf 14 = 2 := by kernel_rfl
theorem ok14 : okT Try.prog 14 = true := by kernel_rfl
theorem ze14 : zeroOf Try.prog 14 = .agg [.imm (.string ByteArray.empty), .imm (.int .u64 0)] := by kernel_rfl
theorem by14 : (∀ i, Try.prog.info? 14 = some i → i.bytes ≤ 256) = True := eq_true (small_of (by kernel_rfl))
theorem ni14 : notInt (Try.prog.underlying 14) = True := eq_true (notInt_of (by kernel_rfl))
theorem sz15 : szOf Try.prog 15 = 1 := by kernel_rfl
theorem cz15 : Try.prog.cellsOf 15 = 1 := by kernel_rfl
theorem ok15 : okT Try.prog 15 = true := by kernel_rfl
theorem ze15 : zeroOf Try.prog 15 = .imm (.pointer none) := by kernel_rfl
theorem by15 : (∀ i, Try.prog.info? 15 = some i → i.bytes ≤ 256) = True := eq_true (small_of (by kernel_rfl))
theorem ni15 : notInt (Try.prog.underlying 15) = True := eq_true (notInt_of (by kernel_rfl))
theorem sz16 : szOf Try.prog 16 = 1 := by kernel_rfl
theorem cz16 : Try.prog.cellsOf 16 = 1 := by kernel_rfl
theorem ok16 : okT Try.prog 16 = true := by kernel_rfl
theorem ze16 : zeroOf Try.prog 16 = .imm (.pointer none) := by kernel_rfl
theorem by16 : (∀ i, Try.prog.info? 16 = some i → i.bytes ≤ 256) = True := eq_true (small_of (by kernel_rfl))
theorem ni16 : notInt (Try.prog.underlying 16) = True := eq_true (notInt_of (by kernel_rfl))
theorem sz17 : szOf Try.prog 17 = 1 := by kernel_rfl
theorem cz17 : Try.prog.cellsOf 17 = 1 := by kernel_rfl
theorem ok17 : okT Try.prog 17 = true := by kernel_rfl
theorem ze17 : zeroOf Try.prog 17 = .imm (.pointer none) := by kernel_rfl
theorem by17 : (∀ i, Try.prog.info? 17 = some i → i.bytes ≤ 256) = True := eq_true (small_of (by kernel_rfl))
theorem ni17 : notInt (Try.prog.underlying 17) = True := eq_true (notInt_of (by kernel_rfl))
theorem sz18 : szOf Try.prog 18 = 1 := by kernel_rfl
theorem cz18 : Try.prog.cellsOf 18 = 1 := by kernel_rfl
theorem ok18 : okT Try.prog 18 = true := by kernel_rfl
theorem ze18 : zeroOf Try.prog 18 = .agg [.imm (.pointer none)] := by kernel_rfl
theorem by18 : (∀ i, Try.prog.info? 18 = some i → i.bytes ≤ 256) = True := eq_true (small_of (by kernel_rfl))
theorem ni18 : notInt (Try.prog.underlying 18) = True := eq_true (notInt_of (by kernel_rfl))
theorem sz19 : szOf Try.prog 19 = 1 := by kernel_rfl
theorem cz19 : Try.prog.cellsOf 19 = 1 := by kernel_rfl
theorem ok19 : okT Try.prog 19 = true := by kernel_rfl
theorem ze19 : zeroOf Try.prog 19 = .agg [.imm (.pointer none)] := by kernel_rfl
theorem by19 : (∀ i, Try.prog.info? 19 = some i → i.bytes ≤ 256) = True := eq_true (small_of (by kernel_rfl))
theorem ni19 : notInt (Try.prog.underlying 19) = True := eq_true (notInt_of (by kernel_rfl))
theorem sz20 : szOf Try.prog 20 = 1 := by kernel_rfl
theorem cz20 : Try.prog.cellsOf 20 = 1 := by kernel_rfl
theorem ok20 : okT Try.prog 20 = true := by kernel_rfl
theorem ze20 : zeroOf Try.prog 20 = .imm .nilIface := by kernel_rfl
theorem by20 : (∀ i, Try.prog.info? 20 = some i → i.bytes ≤ 256) = True := eq_true (small_of (by kernel_rfl))
theorem ni20 : notInt (Try.prog.underlying 20) = True := eq_true (notInt_of (by kernel_rfl))
theorem sz21 : szOf Try.prog 21 = 1 := by kernel_rfl
theorem cz21 : Try.prog.cellsOf 21 = 1 := by kernel_rfl
theorem ok21 : okT Try.prog 21 = true := by kernel_rfl
theorem ze21 : zeroOf Try.prog 21 = .imm (.int .i32 0) := by kernel_rfl
theorem by21 : (∀ i, Try.prog.info? 21 = some i → i.bytes ≤ 256) = True := eq_true (small_of (by kernel_rfl))
theorem sz24 : szOf Try.prog 24 = 1 := by kernel_rfl
theorem cz24 : Try.prog.cellsOf 24 = 1 := by kernel_rfl
theorem ok24 : okT Try.prog 24 = true := by kernel_rfl
theorem ze24 : zeroOf Try.prog 24 = .sl 0 true [] := by kernel_rfl
theorem by24 : (∀ i, Try.prog.info? 24 = some i → i.bytes ≤ 256) = True := eq_true (small_of (by kernel_rfl))
theorem ni24 : notInt (Try.prog.underlying 24) = True := eq_true (notInt_of (by kernel_rfl))
theorem sz28 : szOf Try.prog 28 = 2 := by kernel_rfl
theorem cz28 : Try.prog.cellsOf 28 = 2 := by kernel_rfl
theorem ok28 : okT Try.prog 28 = true := by kernel_rfl
theorem ze28 : zeroOf Try.prog 28 = .agg [.imm (.int .i64 0), .imm (.int .i64 0)] := by kernel_rfl
theorem by28 : (∀ i, Try.prog.info? 28 = some i → i.bytes ≤ 256) = True := eq_true (small_of (by kernel_rfl))
theorem eg28 : Try.prog.eqGuardType Try.prog.depth 28 = false := by kernel_rfl
theorem sh28 : Try.prog.stoodInHeld 28 = false := by kernel_rfl
theorem ni28 : notInt (Try.prog.underlying 28) = True := eq_true (notInt_of (by kernel_rfl))
theorem sz29 : szOf Try.prog 29 = 2 := by kernel_rfl
theorem cz29 : Try.prog.cellsOf 29 = 2 := by kernel_rfl
theorem ok29 : okT Try.prog 29 = true := by kernel_rfl
theorem ze29 : zeroOf Try.prog 29 = .agg [.imm (.int .i64 0), .imm (.int .i64 0)] := by kernel_rfl
theorem by29 : (∀ i, Try.prog.info? 29 = some i → i.bytes ≤ 256) = True := eq_true (small_of (by kernel_rfl))
theorem eg29 : Try.prog.eqGuardType Try.prog.depth 29 = false := by kernel_rfl
theorem sh29 : Try.prog.stoodInHeld 29 = false := by kernel_rfl
theorem ni29 : notInt (Try.prog.underlying 29) = True := eq_true (notInt_of (by kernel_rfl))
theorem sz30 : szOf Try.prog 30 = 1 := by kernel_rfl
theorem cz30 : Try.prog.cellsOf 30 = 1 := by kernel_rfl
theorem ok30 : okT Try.prog 30 = true := by kernel_rfl
theorem ze30 : zeroOf Try.prog 30 = .imm (.int .i64 0) := by kernel_rfl
theorem by30 : (∀ i, Try.prog.info? 30 = some i → i.bytes ≤ 256) = True := eq_true (small_of (by kernel_rfl))
theorem sz39 : szOf Try.prog 39 = 1 := by kernel_rfl
theorem cz39 : Try.prog.cellsOf 39 = 1 := by kernel_rfl
theorem ok39 : okT Try.prog 39 = true := by kernel_rfl
theorem ze39 : zeroOf Try.prog 39 = .sl 0 true [] := by kernel_rfl
theorem by39 : (∀ i, Try.prog.info? 39 = some i → i.bytes ≤ 256) = True := eq_true (small_of (by kernel_rfl))
theorem ni39 : notInt (Try.prog.underlying 39) = True := eq_true (notInt_of (by kernel_rfl))
theorem sz40 : szOf Try.prog 40 = 3 := by kernel_rfl
theorem cz40 : Try.prog.cellsOf 40 = 3 := by kernel_rfl
theorem ok40 : okT Try.prog 40 = true := by kernel_rfl
theorem ze40 : zeroOf Try.prog 40 = .agg [.imm (.string ByteArray.empty), .imm (.string ByteArray.empty), .sl 0 true []] := by kernel_rfl
theorem by40 : (∀ i, Try.prog.info? 40 = some i → i.bytes ≤ 256) = True := eq_true (small_of (by kernel_rfl))
theorem ni40 : notInt (Try.prog.underlying 40) = True := eq_true (notInt_of (by kernel_rfl))
theorem sz41 : szOf Try.prog 41 = 3 := by kernel_rfl
theorem cz41 : Try.prog.cellsOf 41 = 3 := by kernel_rfl
theorem ok41 : okT Try.prog 41 = true := by kernel_rfl
theorem ze41 : zeroOf Try.prog 41 = .agg [.imm (.string ByteArray.empty), .imm (.string ByteArray.empty), .sl 0 true []] := by kernel_rfl
theorem by41 : (∀ i, Try.prog.info? 41 = some i → i.bytes ≤ 256) = True := eq_true (small_of (by kernel_rfl))
theorem ni41 : notInt (Try.prog.underlying 41) = True := eq_true (notInt_of (by kernel_rfl))
theorem sz42 : szOf Try.prog 42 = 1 := by kernel_rfl
theorem cz42 : Try.prog.cellsOf 42 = 1 := by kernel_rfl
theorem ok42 : okT Try.prog 42 = true := by kernel_rfl
theorem ze42 : zeroOf Try.prog 42 = .sl 0 true [] := by kernel_rfl
theorem by42 : (∀ i, Try.prog.info? 42 = some i → i.bytes ≤ 256) = True := eq_true (small_of (by kernel_rfl))
theorem ni42 : notInt (Try.prog.underlying 42) = True := eq_true (notInt_of (by kernel_rfl))
theorem sz43 : szOf Try.prog 43 = 3 := by kernel_rfl
theorem cz43 : Try.prog.cellsOf 43 = 3 := by kernel_rfl
theorem ok43 : okT Try.prog 43 = true := by kernel_rfl
theorem ze43 : zeroOf Try.prog 43 = .agg [.imm (.string ByteArray.empty), .imm (.string ByteArray.empty), .sl 0 true []] := by kernel_rfl
theorem by43 : (∀ i, Try.prog.info? 43 = some i → i.bytes ≤ 256) = True := eq_true (small_of (by kernel_rfl))
theorem ni43 : notInt (Try.prog.underlying 43) = True := eq_true (notInt_of (by kernel_rfl))
theorem sz44 : szOf Try.prog 44 = 3 := by kernel_rfl
theorem cz44 : Try.prog.cellsOf 44 = 3 := by kernel_rfl
theorem ok44 : okT Try.prog 44 = true := by kernel_rfl
theorem ze44 : zeroOf Try.prog 44 = .agg [.imm (.string ByteArray.empty), .imm (.string ByteArray.empty), .sl 0 true []] := by kernel_rfl
theorem by44 : (∀ i, Try.prog.info? 44 = some i → i.bytes ≤ 256) = True := eq_true (small_of (by kernel_rfl))
theorem ni44 : notInt (Try.prog.underlying 44) = True := eq_true (notInt_of (by kernel_rfl))
theorem sz47 : szOf Try.prog 47 = 1 := by kernel_rfl
theorem cz47 : Try.prog.cellsOf 47 = 1 := by kernel_rfl
theorem ok47 : okT Try.prog 47 = true := by kernel_rfl
theorem ze47 : zeroOf Try.prog 47 = .sl 0 true [] := by kernel_rfl
theorem by47 : (∀ i, Try.prog.info? 47 = some i → i.bytes ≤ 256) = True := eq_true (small_of (by kernel_rfl))
theorem ni47 : notInt (Try.prog.underlying 47) = True := eq_true (notInt_of (by kernel_rfl))
theorem sz65 : szOf Try.prog 65 = 1 := by kernel_rfl
theorem cz65 : Try.prog.cellsOf 65 = 1 := by kernel_rfl
theorem ok65 : okT Try.prog 65 = true := by kernel_rfl
theorem ze65 : zeroOf Try.prog 65 = .sl 0 true [] := by kernel_rfl
theorem by65 : (∀ i, Try.prog.info? 65 = some i → i.bytes ≤ 256) = True := eq_true (small_of (by kernel_rfl))
theorem ni65 : notInt (Try.prog.underlying 65) = True := eq_true (notInt_of (by kernel_rfl))
theorem sz66 : szOf Try.prog 66 = 16 := by kernel_rfl
theorem cz66 : Try.prog.cellsOf 66 = 16 := by kernel_rfl
theorem ok66 : okT Try.prog 66 = true := by kernel_rfl
theorem ze66 : zeroOf Try.prog 66 = .agg [.imm (.int .u8 0), .imm (.int .u8 0), .imm (.int .u8 0), .imm (.int .u8 0), .imm (.int .u8 0), .imm (.int .u8 0), .imm (.int .u8 0), .imm (.int .u8 0), .imm (.int .u8 0), .imm (.int .u8 0), .imm (.int .u8 0), .imm (.int .u8 0), .imm (.int .u8 0), .imm (.int .u8 0), .imm (.int .u8 0), .imm (.int .u8 0)] := by kernel_rfl
theorem by66 : (∀ i, Try.prog.info? 66 = some i → i.bytes ≤ 256) = True := eq_true (small_of (by kernel_rfl))
theorem eg66 : Try.prog.eqGuardType Try.prog.depth 66 = false := by kernel_rfl
theorem sh66 : Try.prog.stoodInHeld 66 = false := by kernel_rfl
theorem ni66 : notInt (Try.prog.underlying 66) = True := eq_true (notInt_of (by kernel_rfl))
theorem sz69 : szOf Try.prog 69 = 1 := by kernel_rfl
theorem cz69 : Try.prog.cellsOf 69 = 1 := by kernel_rfl
theorem ok69 : okT Try.prog 69 = true := by kernel_rfl
theorem ze69 : zeroOf Try.prog 69 = .imm (.pointer none) := by kernel_rfl
theorem by69 : (∀ i, Try.prog.info? 69 = some i → i.bytes ≤ 256) = True := eq_true (small_of (by kernel_rfl))
theorem ni69 : notInt (Try.prog.underlying 69) = True := eq_true (notInt_of (by kernel_rfl))
theorem sz70 : szOf Try.prog 70 = 2 := by kernel_rfl
theorem cz70 : Try.prog.cellsOf 70 = 2 := by kernel_rfl
theorem ok70 : okT Try.prog 70 = true := by kernel_rfl
theorem ze70 : zeroOf Try.prog 70 = .agg [.imm (.pointer none), .sl 0 true []] := by kernel_rfl
theorem by70 : (∀ i, Try.prog.info? 70 = some i → i.bytes ≤ 256) = True := eq_true (small_of (by kernel_rfl))
theorem ni70 : notInt (Try.prog.underlying 70) = True := eq_true (notInt_of (by kernel_rfl))
theorem sz71 : szOf Try.prog 71 = 2 := by kernel_rfl
theorem cz71 : Try.prog.cellsOf 71 = 2 := by kernel_rfl
theorem ok71 : okT Try.prog 71 = true := by kernel_rfl
theorem ze71 : zeroOf Try.prog 71 = .agg [.imm (.pointer none), .sl 0 true []] := by kernel_rfl
theorem by71 : (∀ i, Try.prog.info? 71 = some i → i.bytes ≤ 256) = True := eq_true (small_of (by kernel_rfl))
theorem ni71 : notInt (Try.prog.underlying 71) = True := eq_true (notInt_of (by kernel_rfl))
theorem sz74 : szOf Try.prog 74 = 1 := by kernel_rfl
theorem cz74 : Try.prog.cellsOf 74 = 1 := by kernel_rfl
theorem ok74 : okT Try.prog 74 = true := by kernel_rfl
theorem ze74 : zeroOf Try.prog 74 = .imm .nilIface := by kernel_rfl
theorem by74 : (∀ i, Try.prog.info? 74 = some i → i.bytes ≤ 256) = True := eq_true (small_of (by kernel_rfl))
theorem ni74 : notInt (Try.prog.underlying 74) = True := eq_true (notInt_of (by kernel_rfl))
theorem sz75 : szOf Try.prog 75 = 1 := by kernel_rfl
theorem cz75 : Try.prog.cellsOf 75 = 1 := by kernel_rfl
theorem ok75 : okT Try.prog 75 = true := by kernel_rfl
theorem ze75 : zeroOf Try.prog 75 = .imm .nilIface := by kernel_rfl
theorem by75 : (∀ i, Try.prog.info? 75 = some i → i.bytes ≤ 256) = True := eq_true (small_of (by kernel_rfl))
theorem ni75 : notInt (Try.prog.underlying 75) = True := eq_true (notInt_of (by kernel_rfl))
theorem sz85 : szOf Try.prog 85 = 1 := by kernel_rfl
theorem cz85 : Try.prog.cellsOf 85 = 1 := by kernel_rfl
theorem ok85 : okT Try.prog 85 = true := by kernel_rfl
theorem ze85 : zeroOf Try.prog 85 = .sl 0 true [] := by kernel_rfl
theorem by85 : (∀ i, Try.prog.info? 85 = some i → i.bytes ≤ 256) = True := eq_true (small_of (by kernel_rfl))
theorem ni85 : notInt (Try.prog.underlying 85) = True := eq_true (notInt_of (by kernel_rfl))
theorem sz86 : szOf Try.prog 86 = 1 := by kernel_rfl
theorem cz86 : Try.prog.cellsOf 86 = 1 := by kernel_rfl
theorem ok86 : okT Try.prog 86 = true := by kernel_rfl
theorem ze86 : zeroOf Try.prog 86 = .agg [.sl 0 true []] := by kernel_rfl
theorem by86 : (∀ i, Try.prog.info? 86 = some i → i.bytes ≤ 256) = True := eq_true (small_of (by kernel_rfl))
theorem ni86 : notInt (Try.prog.underlying 86) = True := eq_true (notInt_of (by kernel_rfl))
theorem sz87 : szOf Try.prog 87 = 1 := by kernel_rfl
theorem cz87 : Try.prog.cellsOf 87 = 1 := by kernel_rfl
theorem ok87 : okT Try.prog 87 = true := by kernel_rfl
theorem ze87 : zeroOf Try.prog 87 = .agg [.sl 0 true []] := by kernel_rfl
theorem by87 : (∀ i, Try.prog.info? 87 = some i → i.bytes ≤ 256) = True := eq_true (small_of (by kernel_rfl))
theorem ni87 : notInt (Try.prog.underlying 87) = True := eq_true (notInt_of (by kernel_rfl))
theorem sz89 : szOf Try.prog 89 = 4 := by kernel_rfl
theorem cz89 : Try.prog.cellsOf 89 = 4 := by kernel_rfl
theorem ok89 : okT Try.prog 89 = true := by kernel_rfl
theorem ze89 : zeroOf Try.prog 89 = .agg [.imm (.string ByteArray.empty), .imm (.string ByteArray.empty), .sl 0 true [], .imm (.int .i64 0)] := by kernel_rfl
theorem by89 : (∀ i, Try.prog.info? 89 = some i → i.bytes ≤ 256) = True := eq_true (small_of (by kernel_rfl))
theorem ni89 : notInt (Try.prog.underlying 89) = True := eq_true (notInt_of (by kernel_rfl))
theorem sz90 : szOf Try.prog 90 = 4 := by kernel_rfl
theorem cz90 : Try.prog.cellsOf 90 = 4 := by kernel_rfl
theorem ok90 : okT Try.prog 90 = true := by kernel_rfl
theorem ze90 : zeroOf Try.prog 90 = .agg [.imm (.string ByteArray.empty), .imm (.string ByteArray.empty), .sl 0 true [], .imm (.int .i64 0)] := by kernel_rfl
theorem by90 : (∀ i, Try.prog.info? 90 = some i → i.bytes ≤ 256) = True := eq_true (small_of (by kernel_rfl))
theorem ni90 : notInt (Try.prog.underlying 90) = True := eq_true (notInt_of (by kernel_rfl))
theorem sz95 : szOf Try.prog 95 = 1 := by kernel_rfl
theorem cz95 : Try.prog.cellsOf 95 = 1 := by kernel_rfl
theorem ok95 : okT Try.prog 95 = true := by kernel_rfl
theorem ze95 : zeroOf Try.prog 95 = .sl 0 true [] := by kernel_rfl
theorem by95 : (∀ i, Try.prog.info? 95 = some i → i.bytes ≤ 256) = True := eq_true (small_of (by kernel_rfl))
theorem ni95 : notInt (Try.prog.underlying 95) = True := eq_true (notInt_of (by kernel_rfl))
theorem sz96 : szOf Try.prog 96 = 1 := by kernel_rfl
theorem cz96 : Try.prog.cellsOf 96 = 1 := by kernel_rfl
theorem ok96 : okT Try.prog 96 = true := by kernel_rfl
theorem ze96 : zeroOf Try.prog 96 = .agg [.sl 0 true []] := by kernel_rfl
theorem by96 : (∀ i, Try.prog.info? 96 = some i → i.bytes ≤ 256) = True := eq_true (small_of (by kernel_rfl))
theorem ni96 : notInt (Try.prog.underlying 96) = True := eq_true (notInt_of (by kernel_rfl))
theorem sz97 : szOf Try.prog 97 = 1 := by kernel_rfl
theorem cz97 : Try.prog.cellsOf 97 = 1 := by kernel_rfl
theorem ok97 : okT Try.prog 97 = true := by kernel_rfl
theorem ze97 : zeroOf Try.prog 97 = .agg [.sl 0 true []] := by kernel_rfl
theorem by97 : (∀ i, Try.prog.info? 97 = some i → i.bytes ≤ 256) = True := eq_true (small_of (by kernel_rfl))
theorem ni97 : notInt (Try.prog.underlying 97) = True := eq_true (notInt_of (by kernel_rfl))
theorem sz105 : szOf Try.prog 105 = 1 := by kernel_rfl
theorem cz105 : Try.prog.cellsOf 105 = 1 := by kernel_rfl
theorem ok105 : okT Try.prog 105 = true := by kernel_rfl
theorem ze105 : zeroOf Try.prog 105 = .imm (.int .u32 0) := by kernel_rfl
theorem by105 : (∀ i, Try.prog.info? 105 = some i → i.bytes ≤ 256) = True := eq_true (small_of (by kernel_rfl))
theorem sz106 : szOf Try.prog 106 = 4 := by kernel_rfl
theorem cz106 : Try.prog.cellsOf 106 = 4 := by kernel_rfl
theorem ok106 : okT Try.prog 106 = true := by kernel_rfl
theorem ze106 : zeroOf Try.prog 106 = .agg [.imm (.int .u32 0), .imm (.int .u32 0), .imm (.int .u32 0), .imm (.int .u32 0)] := by kernel_rfl
theorem by106 : (∀ i, Try.prog.info? 106 = some i → i.bytes ≤ 256) = True := eq_true (small_of (by kernel_rfl))
theorem eg106 : Try.prog.eqGuardType Try.prog.depth 106 = false := by kernel_rfl
theorem sh106 : Try.prog.stoodInHeld 106 = false := by kernel_rfl
theorem ni106 : notInt (Try.prog.underlying 106) = True := eq_true (notInt_of (by kernel_rfl))
theorem sz107 : szOf Try.prog 107 = 1 := by kernel_rfl
theorem cz107 : Try.prog.cellsOf 107 = 1 := by kernel_rfl
theorem ok107 : okT Try.prog 107 = true := by kernel_rfl
theorem ze107 : zeroOf Try.prog 107 = .imm (.int .u64 0) := by kernel_rfl
theorem by107 : (∀ i, Try.prog.info? 107 = some i → i.bytes ≤ 256) = True := eq_true (small_of (by kernel_rfl))
theorem sz108 : szOf Try.prog 108 = 5 := by kernel_rfl
theorem cz108 : Try.prog.cellsOf 108 = 5 := by kernel_rfl
theorem ok108 : okT Try.prog 108 = true := by kernel_rfl
theorem ze108 : zeroOf Try.prog 108 = .agg [.imm (.int .u32 0), .imm (.int .u32 0), .imm (.int .u32 0), .imm (.int .u32 0), .imm (.int .u64 0)] := by kernel_rfl
theorem by108 : (∀ i, Try.prog.info? 108 = some i → i.bytes ≤ 256) = True := eq_true (small_of (by kernel_rfl))
theorem eg108 : Try.prog.eqGuardType Try.prog.depth 108 = false := by kernel_rfl
theorem sh108 : Try.prog.stoodInHeld 108 = false := by kernel_rfl
theorem ni108 : notInt (Try.prog.underlying 108) = True := eq_true (notInt_of (by kernel_rfl))
theorem sz109 : szOf Try.prog 109 = 5 := by kernel_rfl
theorem cz109 : Try.prog.cellsOf 109 = 5 := by kernel_rfl
theorem ok109 : okT Try.prog 109 = true := by kernel_rfl
theorem ze109 : zeroOf Try.prog 109 = .agg [.imm (.int .u32 0), .imm (.int .u32 0), .imm (.int .u32 0), .imm (.int .u32 0), .imm (.int .u64 0)] := by kernel_rfl
theorem by109 : (∀ i, Try.prog.info? 109 = some i → i.bytes ≤ 256) = True := eq_true (small_of (by kernel_rfl))
theorem eg109 : Try.prog.eqGuardType Try.prog.depth 109 = false := by kernel_rfl
theorem sh109 : Try.prog.stoodInHeld 109 = false := by kernel_rfl
theorem ni109 : notInt (Try.prog.underlying 109) = True := eq_true (notInt_of (by kernel_rfl))
theorem sz112 : szOf Try.prog 112 = 64 := by kernel_rfl
theorem cz112 : Try.prog.cellsOf 112 = 64 := by kernel_rfl
theorem ok112 : okT Try.prog 112 = true := by kernel_rfl
theorem ze112 : zeroOf Try.prog 112 = .agg [.imm (.int .u8 0), .imm (.int .u8 0), .imm (.int .u8 0), .imm (.int .u8 0), .imm (.int .u8 0), .imm (.int .u8 0), .imm (.int .u8 0), .imm (.int .u8 0), .imm (.int .u8 0), .imm (.int .u8 0), .imm (.int .u8 0), .imm (.int .u8 0), .imm (.int .u8 0), .imm (.int .u8 0), .imm (.int .u8 0), .imm (.int .u8 0), .imm (.int .u8 0), .imm (.int .u8 0), .imm (.int .u8 0), .imm (.int .u8 0), .imm (.int .u8 0), .imm (.int .u8 0), .imm (.int .u8 0), .imm (.int .u8 0), .imm (.int .u8 0), .imm (.int .u8 0), .imm (.int .u8 0), .imm (.int .u8 0), .imm (.int .u8 0), .imm (.int .u8 0), .imm (.int .u8 0), .imm (.int .u8 0), .imm (.int .u8 0), .imm (.int .u8 0), .imm (.int .u8 0), .imm (.int .u8 0), .imm (.int .u8 0), .imm (.int .u8 0), .imm (.int .u8 0), .imm (.int .u8 0), .imm (.int .u8 0), .imm (.int .u8 0), .imm (.int .u8 0), .imm (.int .u8 0), .imm (.int .u8 0), .imm (.int .u8 0), .imm (.int .u8 0), .imm (.int .u8 0), .imm (.int .u8 0), .imm (.int .u8 0), .imm (.int .u8 0), .imm (.int .u8 0), .imm (.int .u8 0), .imm (.int .u8 0), .imm (.int .u8 0), .imm (.int .u8 0), .imm (.int .u8 0), .imm (.int .u8 0), .imm (.int .u8 0), .imm (.int .u8 0), .imm (.int .u8 0), .imm (.int .u8 0), .imm (.int .u8 0), .imm (.int .u8 0)] := by kernel_rfl
theorem by112 : (∀ i, Try.prog.info? 112 = some i → i.bytes ≤ 256) = True := eq_true (small_of (by kernel_rfl))
theorem eg112 : Try.prog.eqGuardType Try.prog.depth 112 = false := by kernel_rfl
theorem sh112 : Try.prog.stoodInHeld 112 = false := by kernel_rfl
theorem ni112 : notInt (Try.prog.underlying 112) = True := eq_true (notInt_of (by kernel_rfl))
theorem sz113 : szOf Try.prog 113 = 4 := by kernel_rfl
theorem cz113 : Try.prog.cellsOf 113 = 4 := by kernel_rfl
theorem ok113 : okT Try.prog 113 = true := by kernel_rfl
theorem ze113 : zeroOf Try.prog 113 = .agg [.imm (.int .u8 0), .imm (.int .u8 0), .imm (.int .u8 0), .imm (.int .u8 0)] := by kernel_rfl
theorem by113 : (∀ i, Try.prog.info? 113 = some i → i.bytes ≤ 256) = True := eq_true (small_of (by kernel_rfl))
theorem eg113 : Try.prog.eqGuardType Try.prog.depth 113 = false := by kernel_rfl
theorem sh113 : Try.prog.stoodInHeld 113 = false := by kernel_rfl
theorem ni113 : notInt (Try.prog.underlying 113) = True := eq_true (notInt_of (by kernel_rfl))
theorem sz118 : szOf Try.prog 118 = 1 := by kernel_rfl
theorem cz118 : Try.prog.cellsOf 118 = 1 := by kernel_rfl
theorem ok118 : okT Try.prog 118 = true := by kernel_rfl
theorem ze118 : zeroOf Try.prog 118 = .imm (.int .u64 0) := by kernel_rfl
theorem by118 : (∀ i, Try.prog.info? 118 = some i → i.bytes ≤ 256) = True := eq_true (small_of (by kernel_rfl))
theorem sz121 : szOf Try.prog 121 = 1 := by kernel_rfl
theorem cz121 : Try.prog.cellsOf 121 = 1 := by kernel_rfl
theorem ok121 : okT Try.prog 121 = true := by kernel_rfl
theorem ze121 : zeroOf Try.prog 121 = .imm (.pointer none) := by kernel_rfl
theorem by121 : (∀ i, Try.prog.info? 121 = some i → i.bytes ≤ 256) = True := eq_true (small_of (by kernel_rfl))
theorem ni121 : notInt (Try.prog.underlying 121) = True := eq_true (notInt_of (by kernel_rfl))
theorem sz122 : szOf Try.prog 122 = 1 := by kernel_rfl
theorem cz122 : Try.prog.cellsOf 122 = 1 := by kernel_rfl
theorem ok122 : okT Try.prog 122 = true := by kernel_rfl
theorem ze122 : zeroOf Try.prog 122 = .imm (.pointer none) := by kernel_rfl
theorem by122 : (∀ i, Try.prog.info? 122 = some i → i.bytes ≤ 256) = True := eq_true (small_of (by kernel_rfl))
theorem ni122 : notInt (Try.prog.underlying 122) = True := eq_true (notInt_of (by kernel_rfl))
theorem sz123 : szOf Try.prog 123 = 1 := by kernel_rfl
theorem cz123 : Try.prog.cellsOf 123 = 1 := by kernel_rfl
theorem ok123 : okT Try.prog 123 = true := by kernel_rfl
theorem ze123 : zeroOf Try.prog 123 = .imm (.pointer none) := by kernel_rfl
theorem by123 : (∀ i, Try.prog.info? 123 = some i → i.bytes ≤ 256) = True := eq_true (small_of (by kernel_rfl))
theorem ni123 : notInt (Try.prog.underlying 123) = True := eq_true (notInt_of (by kernel_rfl))
theorem sz128 : szOf Try.prog 128 = 5 := by kernel_rfl
theorem cz128 : Try.prog.cellsOf 128 = 5 := by kernel_rfl
theorem ok128 : okT Try.prog 128 = true := by kernel_rfl
theorem ze128 : zeroOf Try.prog 128 = .agg [.imm (.int .u32 0), .imm (.int .u32 0), .imm (.int .u32 0), .imm (.int .u32 0), .imm (.int .u64 0)] := by kernel_rfl
theorem by128 : (∀ i, Try.prog.info? 128 = some i → i.bytes ≤ 256) = True := eq_true (small_of (by kernel_rfl))
theorem eg128 : Try.prog.eqGuardType Try.prog.depth 128 = false := by kernel_rfl
theorem sh128 : Try.prog.stoodInHeld 128 = false := by kernel_rfl
theorem ni128 : notInt (Try.prog.underlying 128) = True := eq_true (notInt_of (by kernel_rfl))
theorem sz133 : szOf Try.prog 133 = 16 := by kernel_rfl
theorem cz133 : Try.prog.cellsOf 133 = 16 := by kernel_rfl
theorem ok133 : okT Try.prog 133 = true := by kernel_rfl
theorem ze133 : zeroOf Try.prog 133 = .agg [.imm (.int .u32 0), .imm (.int .u32 0), .imm (.int .u32 0), .imm (.int .u32 0), .imm (.int .u32 0), .imm (.int .u32 0), .imm (.int .u32 0), .imm (.int .u32 0), .imm (.int .u32 0), .imm (.int .u32 0), .imm (.int .u32 0), .imm (.int .u32 0), .imm (.int .u32 0), .imm (.int .u32 0), .imm (.int .u32 0), .imm (.int .u32 0)] := by kernel_rfl
theorem by133 : (∀ i, Try.prog.info? 133 = some i → i.bytes ≤ 256) = True := eq_true (small_of (by kernel_rfl))
theorem eg133 : Try.prog.eqGuardType Try.prog.depth 133 = false := by kernel_rfl
theorem sh133 : Try.prog.stoodInHeld 133 = false := by kernel_rfl
theorem ni133 : notInt (Try.prog.underlying 133) = True := eq_true (notInt_of (by kernel_rfl))
theorem sz135 : szOf Try.prog 135 = 64 := by kernel_rfl
theorem cz135 : Try.prog.cellsOf 135 = 64 := by kernel_rfl
theorem ok135 : okT Try.prog 135 = true := by kernel_rfl
theorem ze135 : zeroOf Try.prog 135 = .agg [.imm (.int .u32 0), .imm (.int .u32 0), .imm (.int .u32 0), .imm (.int .u32 0), .imm (.int .u32 0), .imm (.int .u32 0), .imm (.int .u32 0), .imm (.int .u32 0), .imm (.int .u32 0), .imm (.int .u32 0), .imm (.int .u32 0), .imm (.int .u32 0), .imm (.int .u32 0), .imm (.int .u32 0), .imm (.int .u32 0), .imm (.int .u32 0), .imm (.int .u32 0), .imm (.int .u32 0), .imm (.int .u32 0), .imm (.int .u32 0), .imm (.int .u32 0), .imm (.int .u32 0), .imm (.int .u32 0), .imm (.int .u32 0), .imm (.int .u32 0), .imm (.int .u32 0), .imm (.int .u32 0), .imm (.int .u32 0), .imm (.int .u32 0), .imm (.int .u32 0), .imm (.int .u32 0), .imm (.int .u32 0), .imm (.int .u32 0), .imm (.int .u32 0), .imm (.int .u32 0), .imm (.int .u32 0), .imm (.int .u32 0), .imm (.int .u32 0), .imm (.int .u32 0), .imm (.int .u32 0), .imm (.int .u32 0), .imm (.int .u32 0), .imm (.int .u32 0), .imm (.int .u32 0), .imm (.int .u32 0), .imm (.int .u32 0), .imm (.int .u32 0), .imm (.int .u32 0), .imm (.int .u32 0), .imm (.int .u32 0), .imm (.int .u32 0), .imm (.int .u32 0), .imm (.int .u32 0), .imm (.int .u32 0), .imm (.int .u32 0), .imm (.int .u32 0), .imm (.int .u32 0), .imm (.int .u32 0), .imm (.int .u32 0), .imm (.int .u32 0), .imm (.int .u32 0), .imm (.int .u32 0), .imm (.int .u32 0), .imm (.int .u32 0)] := by kernel_rfl
theorem by135 : (∀ i, Try.prog.info? 135 = some i → i.bytes ≤ 256) = True := eq_true (small_of (by kernel_rfl))
theorem eg135 : Try.prog.eqGuardType Try.prog.depth 135 = false := by kernel_rfl
theorem sh135 : Try.prog.stoodInHeld 135 = false := by kernel_rfl
theorem ni135 : notInt (Try.prog.underlying 135) = True := eq_true (notInt_of (by kernel_rfl))
theorem sz137 : szOf Try.prog 137 = 4 := by kernel_rfl
theorem cz137 : Try.prog.cellsOf 137 = 4 := by kernel_rfl
theorem ok137 : okT Try.prog 137 = true := by kernel_rfl
theorem ze137 : zeroOf Try.prog 137 = .agg [.imm (.int .i64 0), .imm (.int .i64 0), .imm (.int .i64 0), .imm (.int .i64 0)] := by kernel_rfl
theorem by137 : (∀ i, Try.prog.info? 137 = some i → i.bytes ≤ 256) = True := eq_true (small_of (by kernel_rfl))
theorem eg137 : Try.prog.eqGuardType Try.prog.depth 137 = false := by kernel_rfl
theorem sh137 : Try.prog.stoodInHeld 137 = false := by kernel_rfl
theorem ni137 : notInt (Try.prog.underlying 137) = True := eq_true (notInt_of (by kernel_rfl))
theorem sz138 : szOf Try.prog 138 = 16 := by kernel_rfl
theorem cz138 : Try.prog.cellsOf 138 = 16 := by kernel_rfl
theorem ok138 : okT Try.prog 138 = true := by kernel_rfl
theorem ze138 : zeroOf Try.prog 138 = .agg [.imm (.int .i64 0), .imm (.int .i64 0), .imm (.int .i64 0), .imm (.int .i64 0), .imm (.int .i64 0), .imm (.int .i64 0), .imm (.int .i64 0), .imm (.int .i64 0), .imm (.int .i64 0), .imm (.int .i64 0), .imm (.int .i64 0), .imm (.int .i64 0), .imm (.int .i64 0), .imm (.int .i64 0), .imm (.int .i64 0), .imm (.int .i64 0)] := by kernel_rfl
theorem by138 : (∀ i, Try.prog.info? 138 = some i → i.bytes ≤ 256) = True := eq_true (small_of (by kernel_rfl))
theorem eg138 : Try.prog.eqGuardType Try.prog.depth 138 = false := by kernel_rfl
theorem sh138 : Try.prog.stoodInHeld 138 = false := by kernel_rfl
theorem ni138 : notInt (Try.prog.underlying 138) = True := eq_true (notInt_of (by kernel_rfl))
theorem sz143 : szOf Try.prog 143 = 3 := by kernel_rfl
theorem cz143 : Try.prog.cellsOf 143 = 3 := by kernel_rfl
theorem ok143 : okT Try.prog 143 = true := by kernel_rfl
theorem ze143 : zeroOf Try.prog 143 = .agg [.imm (.int .i32 0), .imm (.int .i32 0), .imm (.int .i32 0)] := by kernel_rfl
theorem by143 : (∀ i, Try.prog.info? 143 = some i → i.bytes ≤ 256) = True := eq_true (small_of (by kernel_rfl))
theorem eg143 : Try.prog.eqGuardType Try.prog.depth 143 = false := by kernel_rfl
theorem sh143 : Try.prog.stoodInHeld 143 = false := by kernel_rfl
theorem ni143 : notInt (Try.prog.underlying 143) = True := eq_true (notInt_of (by kernel_rfl))
theorem sz144 : szOf Try.prog 144 = 1 := by kernel_rfl
theorem cz144 : Try.prog.cellsOf 144 = 1 := by kernel_rfl
theorem ok144 : okT Try.prog 144 = true := by kernel_rfl
theorem ze144 : zeroOf Try.prog 144 = .imm (.pointer none) := by kernel_rfl
theorem by144 : (∀ i, Try.prog.info? 144 = some i → i.bytes ≤ 256) = True := eq_true (small_of (by kernel_rfl))
theorem ni144 : notInt (Try.prog.underlying 144) = True := eq_true (notInt_of (by kernel_rfl))
theorem sz148 : szOf Try.prog 148 = 1 := by kernel_rfl
theorem cz148 : Try.prog.cellsOf 148 = 1 := by kernel_rfl
theorem ok148 : okT Try.prog 148 = true := by kernel_rfl
theorem ze148 : zeroOf Try.prog 148 = .sl 0 true [] := by kernel_rfl
theorem by148 : (∀ i, Try.prog.info? 148 = some i → i.bytes ≤ 256) = True := eq_true (small_of (by kernel_rfl))
theorem ni148 : notInt (Try.prog.underlying 148) = True := eq_true (notInt_of (by kernel_rfl))
theorem sz154 : szOf Try.prog 154 = 4 := by kernel_rfl
theorem cz154 : Try.prog.cellsOf 154 = 4 := by kernel_rfl
theorem ok154 : okT Try.prog 154 = true := by kernel_rfl
theorem ze154 : zeroOf Try.prog 154 = .agg [.imm (.pointer none), .imm (.pointer none), .imm (.pointer none), .imm (.string ByteArray.empty)] := by kernel_rfl
theorem by154 : (∀ i, Try.prog.info? 154 = some i → i.bytes ≤ 256) = True := eq_true (small_of (by kernel_rfl))
theorem ni154 : notInt (Try.prog.underlying 154) = True := eq_true (notInt_of (by kernel_rfl))
theorem sz155 : szOf Try.prog 155 = 4 := by kernel_rfl
theorem cz155 : Try.prog.cellsOf 155 = 4 := by kernel_rfl
theorem ok155 : okT Try.prog 155 = true := by kernel_rfl
theorem ze155 : zeroOf Try.prog 155 = .agg [.imm (.pointer none), .imm (.pointer none), .imm (.pointer none), .imm (.string ByteArray.empty)] := by kernel_rfl
theorem by155 : (∀ i, Try.prog.info? 155 = some i → i.bytes ≤ 256) = True := eq_true (small_of (by kernel_rfl))
theorem ni155 : notInt (Try.prog.underlying 155) = True := eq_true (notInt_of (by kernel_rfl))
theorem sz156 : szOf Try.prog 156 = 0 := by kernel_rfl
theorem cz156 : Try.prog.cellsOf 156 = 0 := by kernel_rfl
theorem ok156 : okT Try.prog 156 = true := by kernel_rfl
theorem ze156 : zeroOf Try.prog 156 = .agg [] := by kernel_rfl
theorem by156 : (∀ i, Try.prog.info? 156 = some i → i.bytes ≤ 256) = True := eq_true (small_of (by kernel_rfl))
theorem ni156 : notInt (Try.prog.underlying 156) = True := eq_true (notInt_of (by kernel_rfl))
theorem sz157 : szOf Try.prog 157 = 0 := by kernel_rfl
theorem cz157 : Try.prog.cellsOf 157 = 0 := by kernel_rfl
theorem ok157 : okT Try.prog 157 = true := by kernel_rfl
theorem ze157 : zeroOf Try.prog 157 = .agg [] := by kernel_rfl
theorem by157 : (∀ i, Try.prog.info? 157 = some i → i.bytes ≤ 256) = True := eq_true (small_of (by kernel_rfl))
theorem ni157 : notInt (Try.prog.underlying 157) = True := eq_true (notInt_of (by kernel_rfl))
theorem sz158 : szOf Try.prog 158 = 0 := by kernel_rfl
theorem cz158 : Try.prog.cellsOf 158 = 0 := by kernel_rfl
theorem ok158 : okT Try.prog 158 = true := by kernel_rfl
theorem ze158 : zeroOf Try.prog 158 = .agg [] := by kernel_rfl
theorem by158 : (∀ i, Try.prog.info? 158 = some i → i.bytes ≤ 256) = True := eq_true (small_of (by kernel_rfl))
theorem ni158 : notInt (Try.prog.underlying 158) = True := eq_true (notInt_of (by kernel_rfl))
theorem sz160 : szOf Try.prog 160 = 1 := by kernel_rfl
theorem cz160 : Try.prog.cellsOf 160 = 1 := by kernel_rfl
theorem ok160 : okT Try.prog 160 = true := by kernel_rfl
theorem ze160 : zeroOf Try.prog 160 = .imm (.int .u8 0) := by kernel_rfl
theorem by160 : (∀ i, Try.prog.info? 160 = some i → i.bytes ≤ 256) = True := eq_true (small_of (by kernel_rfl))
theorem sz161 : szOf Try.prog 161 = 1 := by kernel_rfl
theorem cz161 : Try.prog.cellsOf 161 = 1 := by kernel_rfl
theorem ok161 : okT Try.prog 161 = true := by kernel_rfl
theorem ze161 : zeroOf Try.prog 161 = .imm (.int .u8 0) := by kernel_rfl
theorem by161 : (∀ i, Try.prog.info? 161 = some i → i.bytes ≤ 256) = True := eq_true (small_of (by kernel_rfl))
theorem sz163 : szOf Try.prog 163 = 1 := by kernel_rfl
theorem cz163 : Try.prog.cellsOf 163 = 1 := by kernel_rfl
theorem ok163 : okT Try.prog 163 = true := by kernel_rfl
theorem ze163 : zeroOf Try.prog 163 = .imm (.int .i32 0) := by kernel_rfl
theorem by163 : (∀ i, Try.prog.info? 163 = some i → i.bytes ≤ 256) = True := eq_true (small_of (by kernel_rfl))
theorem sz164 : szOf Try.prog 164 = 1 := by kernel_rfl
theorem cz164 : Try.prog.cellsOf 164 = 1 := by kernel_rfl
theorem ok164 : okT Try.prog 164 = true := by kernel_rfl
theorem ze164 : zeroOf Try.prog 164 = .imm (.int .i32 0) := by kernel_rfl
theorem by164 : (∀ i, Try.prog.info? 164 = some i → i.bytes ≤ 256) = True := eq_true (small_of (by kernel_rfl))
theorem sz165 : szOf Try.prog 165 = 11 := by kernel_rfl
theorem cz165 : Try.prog.cellsOf 165 = 11 := by kernel_rfl
theorem ok165 : okT Try.prog 165 = true := by kernel_rfl
theorem ze165 : zeroOf Try.prog 165 = .agg [.imm (.int .u64 0), .imm (.int .u64 0), .imm (.int .u32 0), .imm (.int .u8 0), .imm (.int .u8 0), .imm (.int .u8 0), .imm (.int .u8 0), .imm .nilFunc, .imm (.pointer none), .imm (.int .i32 0), .imm (.int .i32 0)] := by kernel_rfl
theorem by165 : (∀ i, Try.prog.info? 165 = some i → i.bytes ≤ 256) = True := eq_true (small_of (by kernel_rfl))
theorem ni165 : notInt (Try.prog.underlying 165) = True := eq_true (notInt_of (by kernel_rfl))
theorem sz166 : szOf Try.prog 166 = 11 := by kernel_rfl
theorem cz166 : Try.prog.cellsOf 166 = 11 := by kernel_rfl
theorem ok166 : okT Try.prog 166 = true := by kernel_rfl
theorem ze166 : zeroOf Try.prog 166 = .agg [.imm (.int .u64 0), .imm (.int .u64 0), .imm (.int .u32 0), .imm (.int .u8 0), .imm (.int .u8 0), .imm (.int .u8 0), .imm (.int .u8 0), .imm .nilFunc, .imm (.pointer none), .imm (.int .i32 0), .imm (.int .i32 0)] := by kernel_rfl
theorem by166 : (∀ i, Try.prog.info? 166 = some i → i.bytes ≤ 256) = True := eq_true (small_of (by kernel_rfl))
theorem ni166 : notInt (Try.prog.underlying 166) = True := eq_true (notInt_of (by kernel_rfl))
theorem rs0 : Try.f0.results.toList = [] := by kernel_rfl
theorem rs1 : Try.f1.results.toList = [] := by kernel_rfl
theorem rs2 : Try.f2.results.toList = [] := by kernel_rfl
theorem rs3 : Try.f3.results.toList = [.tmp 2] := by kernel_rfl
theorem rs4 : Try.f4.results.toList = [.tmp 2] := by kernel_rfl
theorem rs5 : Try.f5.results.toList = [.tmp 6] := by kernel_rfl
theorem rs6 : Try.f6.results.toList = [.tmp 4] := by kernel_rfl
theorem rs7 : Try.f7.results.toList = [.tmp 4] := by kernel_rfl
theorem rs8 : Try.f8.results.toList = [.tmp 2] := by kernel_rfl
theorem rs9 : Try.f9.results.toList = [.tmp 2] := by kernel_rfl
theorem rs10 : Try.f10.results.toList = [.tmp 4] := by kernel_rfl
theorem rs11 : Try.f11.results.toList = [.tmp 2] := by kernel_rfl
theorem rs12 : Try.f12.results.toList = [.tmp 2] := by kernel_rfl
theorem rs13 : Try.f13.results.toList = [.tmp 2] := by kernel_rfl
theorem rs14 : Try.f14.results.toList = [.tmp 2, .tmp 3] := by kernel_rfl
theorem rs15 : Try.f15.results.toList = [.tmp 2, .tmp 3] := by kernel_rfl
theorem rs16 : Try.f16.results.toList = [.cell 4 29, .tmp 5, .tmp 6] := by kernel_rfl
theorem rs17 : Try.f17.results.toList = [.tmp 2] := by kernel_rfl
theorem rs18 : Try.f18.results.toList = [.tmp 4, .tmp 5, .tmp 6, .tmp 7] := by kernel_rfl
theorem rs19 : Try.f19.results.toList = [.tmp 2] := by kernel_rfl
theorem rs20 : Try.f20.results.toList = [.tmp 4] := by kernel_rfl
theorem rs21 : Try.f21.results.toList = [.cell 4 44, .tmp 5] := by kernel_rfl
theorem rs22 : Try.f22.results.toList = [.tmp 2] := by kernel_rfl
theorem rs23 : Try.f23.results.toList = [.tmp 2] := by kernel_rfl
theorem rs24 : Try.f24.results.toList = [.tmp 2] := by kernel_rfl
theorem rs25 : Try.f25.results.toList = [.tmp 2] := by kernel_rfl
theorem rs26 : Try.f26.results.toList = [.tmp 2] := by kernel_rfl
theorem rs27 : Try.f27.results.toList = [.tmp 2] := by kernel_rfl
theorem rs28 : Try.f28.results.toList = [.tmp 2] := by kernel_rfl
theorem rs29 : Try.f29.results.toList = [.tmp 2] := by kernel_rfl
theorem rs30 : Try.f30.results.toList = [.tmp 2, .tmp 3] := by kernel_rfl
theorem rs31 : Try.f31.results.toList = [.tmp 2, .tmp 3] := by kernel_rfl
theorem rs32 : Try.f32.results.toList = [.cell 2 44, .tmp 3] := by kernel_rfl
theorem rs33 : Try.f33.results.toList = [.tmp 2, .tmp 3] := by kernel_rfl
theorem rs34 : Try.f34.results.toList = [.tmp 2, .tmp 3] := by kernel_rfl
theorem rs35 : Try.f35.results.toList = [.tmp 2] := by kernel_rfl
theorem rs36 : Try.f36.results.toList = [.tmp 2] := by kernel_rfl
theorem rs37 : Try.f37.results.toList = [.tmp 2] := by kernel_rfl
theorem rs38 : Try.f38.results.toList = [.tmp 2] := by kernel_rfl
theorem rs39 : Try.f39.results.toList = [.tmp 4] := by kernel_rfl
theorem rs40 : Try.f40.results.toList = [.tmp 4] := by kernel_rfl
theorem rs41 : Try.f41.results.toList = [.cell 2 66] := by kernel_rfl
theorem rs42 : Try.f42.results.toList = [.tmp 2] := by kernel_rfl
theorem rs43 : Try.f43.results.toList = [.tmp 2] := by kernel_rfl
theorem rs44 : Try.f44.results.toList = [.tmp 2, .tmp 3] := by kernel_rfl
theorem rs45 : Try.f45.results.toList = [.tmp 4, .tmp 5] := by kernel_rfl
theorem rs46 : Try.f46.results.toList = [.tmp 4] := by kernel_rfl
theorem rs47 : Try.f47.results.toList = [.tmp 2] := by kernel_rfl
theorem rs48 : Try.f48.results.toList = [.tmp 2] := by kernel_rfl
theorem rs49 : Try.f49.results.toList = [.tmp 3] := by kernel_rfl
theorem rs50 : Try.f50.results.toList = [.tmp 2] := by kernel_rfl
theorem rs51 : Try.f51.results.toList = [.tmp 2] := by kernel_rfl
theorem rs52 : Try.f52.results.toList = [.tmp 4, .tmp 5] := by kernel_rfl
theorem rs53 : Try.f53.results.toList = [.tmp 2, .tmp 3, .tmp 4] := by kernel_rfl
theorem rs54 : Try.f54.results.toList = [.tmp 2] := by kernel_rfl
theorem rs55 : Try.f55.results.toList = [.tmp 2, .tmp 3] := by kernel_rfl
theorem rs56 : Try.f56.results.toList = [.tmp 2] := by kernel_rfl
theorem rs57 : Try.f57.results.toList = [] := by kernel_rfl
theorem rs58 : Try.f58.results.toList = [.cell 2 90, .tmp 3] := by kernel_rfl
theorem rs59 : Try.f59.results.toList = [.tmp 4] := by kernel_rfl
theorem rs60 : Try.f60.results.toList = [.tmp 4] := by kernel_rfl
theorem rs61 : Try.f61.results.toList = [] := by kernel_rfl
theorem rs62 : Try.f62.results.toList = [] := by kernel_rfl
theorem rs63 : Try.f63.results.toList = [.tmp 2, .tmp 3] := by kernel_rfl
theorem rs64 : Try.f64.results.toList = [.tmp 2] := by kernel_rfl
theorem rs65 : Try.f65.results.toList = [.tmp 2, .tmp 3] := by kernel_rfl
theorem rs66 : Try.f66.results.toList = [.tmp 2] := by kernel_rfl
theorem rs67 : Try.f67.results.toList = [.tmp 2] := by kernel_rfl
theorem rs68 : Try.f68.results.toList = [.tmp 2] := by kernel_rfl
theorem rs69 : Try.f69.results.toList = [.tmp 4, .tmp 5, .tmp 6] := by kernel_rfl
theorem rs70 : Try.f70.results.toList = [.tmp 2, .tmp 3] := by kernel_rfl
theorem rs71 : Try.f71.results.toList = [.tmp 2, .tmp 3] := by kernel_rfl
theorem rs72 : Try.f72.results.toList = [.tmp 2, .tmp 3] := by kernel_rfl
theorem rs73 : Try.f73.results.toList = [.cell 2 66] := by kernel_rfl
theorem rs74 : Try.f74.results.toList = [.tmp 2, .tmp 3] := by kernel_rfl
theorem rs75 : Try.f75.results.toList = [.tmp 2, .tmp 3] := by kernel_rfl
theorem rs76 : Try.f76.results.toList = [.tmp 2] := by kernel_rfl
theorem rs77 : Try.f77.results.toList = [.cell 0 109] := by kernel_rfl
theorem rs78 : Try.f78.results.toList = [.cell 4 109] := by kernel_rfl
theorem rs79 : Try.f79.results.toList = [.cell 4 66] := by kernel_rfl
theorem rs80 : Try.f80.results.toList = [.cell 2 113] := by kernel_rfl
theorem rs81 : Try.f81.results.toList = [.tmp 4] := by kernel_rfl
theorem rs82 : Try.f82.results.toList = [.tmp 2] := by kernel_rfl
theorem rs83 : Try.f83.results.toList = [.tmp 2] := by kernel_rfl
theorem rs84 : Try.f84.results.toList = [.tmp 2] := by kernel_rfl
theorem rs85 : Try.f85.results.toList = [.tmp 2] := by kernel_rfl
theorem rs86 : Try.f86.results.toList = [.tmp 2] := by kernel_rfl
theorem rs87 : Try.f87.results.toList = [] := by kernel_rfl
theorem rs88 : Try.f88.results.toList = [.tmp 4, .tmp 5] := by kernel_rfl
theorem rs89 : Try.f89.results.toList = [.tmp 3] := by kernel_rfl
theorem rs90 : Try.f90.results.toList = [.tmp 2] := by kernel_rfl
theorem rs91 : Try.f91.results.toList = [.tmp 4] := by kernel_rfl
theorem rs92 : Try.f92.results.toList = [.tmp 5] := by kernel_rfl
theorem rs93 : Try.f93.results.toList = [.tmp 4] := by kernel_rfl
theorem rs94 : Try.f94.results.toList = [.tmp 4, .tmp 5, .tmp 6] := by kernel_rfl
theorem rs95 : Try.f95.results.toList = [.tmp 2, .tmp 3] := by kernel_rfl
theorem rs96 : Try.f96.results.toList = [.cell 0 128] := by kernel_rfl
theorem rs97 : Try.f97.results.toList = [.cell 4 128] := by kernel_rfl
theorem rs98 : Try.f98.results.toList = [.cell 4 66] := by kernel_rfl
theorem rs99 : Try.f99.results.toList = [.tmp 2, .tmp 3] := by kernel_rfl
theorem rs100 : Try.f100.results.toList = [.tmp 2] := by kernel_rfl
theorem rs101 : Try.f101.results.toList = [.cell 2 133] := by kernel_rfl
theorem rs102 : Try.f102.results.toList = [.cell 0 135] := by kernel_rfl
theorem rs103 : Try.f103.results.toList = [.cell 0 138] := by kernel_rfl
theorem rs104 : Try.f104.results.toList = [.tmp 8, .tmp 9] := by kernel_rfl
theorem rs105 : Try.f105.results.toList = [.tmp 4] := by kernel_rfl
theorem rs106 : Try.f106.results.toList = [.tmp 2] := by kernel_rfl
theorem rs107 : Try.f107.results.toList = [] := by kernel_rfl
theorem rs108 : Try.f108.results.toList = [.tmp 4] := by kernel_rfl
theorem rs109 : Try.f109.results.toList = [.tmp 4] := by kernel_rfl
theorem rs110 : Try.f110.results.toList = [.tmp 4] := by kernel_rfl
theorem rs111 : Try.f111.results.toList = [.cell 0 135] := by kernel_rfl
theorem rs112 : Try.f112.results.toList = [.tmp 2] := by kernel_rfl
theorem rs113 : Try.f113.results.toList = [.tmp 4] := by kernel_rfl
theorem rs114 : Try.f114.results.toList = [.tmp 2] := by kernel_rfl
theorem rs115 : Try.f115.results.toList = [] := by kernel_rfl
theorem rs116 : Try.f116.results.toList = [] := by kernel_rfl
theorem rs117 : Try.f117.results.toList = [.tmp 2] := by kernel_rfl
theorem rs118 : Try.f118.results.toList = [.tmp 4] := by kernel_rfl
theorem rs119 : Try.f119.results.toList = [.tmp 2, .tmp 3] := by kernel_rfl
theorem rs120 : Try.f120.results.toList = [] := by kernel_rfl
theorem rs121 : Try.f121.results.toList = [] := by kernel_rfl
theorem rs122 : Try.f122.results.toList = [] := by kernel_rfl
theorem rs123 : Try.f123.results.toList = [] := by kernel_rfl
theorem rs124 : Try.f124.results.toList = [] := by kernel_rfl
theorem rs125 : Try.f125.results.toList = [] := by kernel_rfl
theorem rs126 : Try.f126.results.toList = [] := by kernel_rfl
theorem rs127 : Try.f127.results.toList = [] := by kernel_rfl
theorem rs128 : Try.f128.results.toList = [] := by kernel_rfl
theorem rs129 : Try.f129.results.toList = [] := by kernel_rfl
theorem rs130 : Try.f130.results.toList = [] := by kernel_rfl
theorem rs131 : Try.f131.results.toList = [] := by kernel_rfl
theorem rs132 : Try.f132.results.toList = [] := by kernel_rfl
theorem rs133 : Try.f133.results.toList = [] := by kernel_rfl
theorem rs134 : Try.f134.results.toList = [] := by kernel_rfl
theorem rs135 : Try.f135.results.toList = [] := by kernel_rfl
theorem rs136 : Try.f136.results.toList = [] := by kernel_rfl
theorem rs137 : Try.f137.results.toList = [] := by kernel_rfl
end Go.Proofs.YtbamlphgolldlaaX

/- The laws that a run goes by. -/
namespace Go.Proofs.YtbamlphgolldlaaX
open Go Go.RowKit Go.Proofs
attribute [go_sem ↓] stepsK_call drawK_call opW binXW eqW eqFs eqEs binV intW strW fieldW indexW extractW unW loadW loadP fieldAddrW indexAddrW endsW sliceW buildSliceW makeW convertW storeW newsW appendW elemsW nilW lenW min2W max2W builtinW ifaceW partW boolW_true boolW_false getD_j16 set_j16 rootsP
attribute [go_sem] endK_q endK_seq endK_seq_exit endK_seq_ret endK_blk endK_blk_ret endK_blk_exit roundsK_succ endK_lp endK_lp_exit endK_lp_ret runK_skip runK_exit runK_ret runK_seq runK_block runK_region runK_draw stepsK_nil callK callE stepsK_cons drawK_nil drawK_cons rootsK_nil rootsK_cons loopQ_normal loopQ_exit loopQ_ret loopC_normal loopC_exit loopC_ret loopK_normal loopK_exit loopK_ret St.keep keepL St.gc gcW deadK reachL refsT refsL refsO dropL Int.toNat_natCast St.cut List.range'_zero List.range'_succ lookS_at liteL dstsL gL St.is evalT ofVal ofVals St.after St.put St.upd
attribute [go_sem] St.eff quietE eOp effB trims trim setCells fillT fillE patchT isJunk leafT T.cells oneT RetQ resW retT St.lockAll Own.lockAll dsnap dsnapL snap closedT closedL rootsOf rootsO rootsA rootOf St.frzT St.frzL St.frz kill killL Own.kill aggD List.getD_cons_zero List.getD_cons_succ List.getD_nil List.set_cons_zero List.set_cons_succ List.set_nil List.flatMap_cons List.flatMap_nil List.append_nil List.nil_append List.cons_append List.map_cons List.map_nil List.filterMap_cons List.filterMap_nil List.find?_cons List.find?_nil List.getElem?_cons_zero List.getElem?_cons_succ List.getElem?_nil List.length_cons List.length_nil List.replicate List.contains_cons List.contains_nil
attribute [go_sem] List.take_zero List.drop_zero List.take_succ_cons List.drop_succ_cons List.all_cons List.all_nil List.size_toArray List.getElem?_toArray Array.toList_map List.map_toArray Option.some_beq_some Option.none_beq_some Option.some_beq_none Option.map_some Option.map_none Option.bind_some Option.bind_none Option.some.injEq ne_eq not_false_eq_true not_true_eq_false true_and and_true and_false false_and Bool.false_eq_true Bool.true_eq_false forall_const false_imp_iff true_imp_iff imp_self beq_self_eq_true or_true true_or or_false false_or if_true if_false ite_true ite_false Bool.or_true Bool.true_or Bool.and_true Bool.true_and Bool.false_or Bool.or_false Bool.false_and Bool.and_false Bool.not_true Bool.not_false decide_true decide_false Nat.lt_irrefl Nat.le_refl Nat.zero_add Nat.add_zero Nat.zero_mul Nat.mul_one Nat.mul_zero Nat.zero_le
attribute [go_sem] gt_iff_lt ge_iff_le Int.cast_ofNat_Int Option.isNone_some Option.isNone_none Option.isSome_some Option.isSome_none Nat.zero_max Nat.max_zero Nat.max_self List.take_length List.length_append List.length_map
attribute [go_sem] rs0 rs1 rs2 rs3 rs4 rs5 rs6 rs7 rs8 rs9 rs10 rs11 rs12 rs13 rs14 rs15 rs16 rs17 rs18 rs19 rs20 rs21 rs22 rs23 rs24 rs25 rs26 rs27 rs28 rs29 rs30 rs31 rs32 rs33 rs34 rs35 rs36 rs37 rs38 rs39 rs40 rs41 rs42 rs43 rs44 rs45 rs46 rs47 rs48 rs49 rs50 rs51 rs52 rs53 rs54 rs55 rs56 rs57 rs58 rs59
attribute [go_sem] rs60 rs61 rs62 rs63 rs64 rs65 rs66 rs67 rs68 rs69 rs70 rs71 rs72 rs73 rs74 rs75 rs76 rs77 rs78 rs79 rs80 rs81 rs82 rs83 rs84 rs85 rs86 rs87 rs88 rs89 rs90 rs91 rs92 rs93 rs94 rs95 rs96 rs97 rs98 rs99 rs100 rs101 rs102 rs103 rs104 rs105 rs106 rs107 rs108 rs109 rs110 rs111 rs112 rs113 rs114 rs115 rs116 rs117 rs118 rs119
attribute [go_sem] rs120 rs121 rs122 rs123 rs124 rs125 rs126 rs127 rs128 rs129 rs130 rs131 rs132 rs133 rs134 rs135 rs136 rs137 Try.underlying0 Try.underlying1 Try.underlying2 sz2 cz2 ok2 ze2 by2 Try.underlying3 sz3 cz3 ok3 ze3 by3 Try.underlying4 sz4 cz4 ok4 ze4 by4 ni4 Try.underlying5 sz5 cz5 ok5 ze5 by5 Try.underlying6 sz6 cz6 ok6 ze6 by6 Try.underlying7 sz7 cz7 ok7 ze7 by7 ni7 Try.underlying8 sz8
attribute [go_sem] cz8 ok8 ze8 by8 ni8 Try.underlying9 sz9 cz9 ok9 ze9 by9 ni9 Try.underlying10 sz10 cz10 ok10 ze10 by10 ni10 Try.underlying11 sz11 cz11 ok11 ze11 by11 ni11 Try.underlying12 sz12 cz12 ok12 ze12 by12 Try.underlying13 sz13 cz13 ok13 ze13 by13 ni13 Try.underlying14 sz14 cz14 ok14 ze14 by14 ni14 Try.underlying15 sz15 cz15 ok15 ze15 by15 ni15 Try.underlying16 sz16 cz16 ok16 ze16 by16 ni16
attribute [go_sem] Try.underlying17 sz17 cz17 ok17 ze17 by17 ni17 Try.underlying18 sz18 cz18 ok18 ze18 by18 ni18 Try.underlying19 sz19 cz19 ok19 ze19 by19 ni19 Try.underlying20 sz20 cz20 ok20 ze20 by20 ni20 Try.underlying21 sz21 cz21 ok21 ze21 by21 Try.underlying22 Try.underlying23 Try.underlying24 sz24 cz24 ok24 ze24 by24 ni24 Try.underlying25 Try.underlying26 Try.underlying27 Try.underlying28 sz28 cz28 ok28 ze28 by28 ni28 eg28 sh28 Try.underlying29 sz29 cz29 ok29 ze29
attribute [go_sem] by29 ni29 eg29 sh29 Try.underlying30 sz30 cz30 ok30 ze30 by30 Try.underlying31 Try.underlying32 Try.underlying33 Try.underlying34 Try.underlying35 Try.underlying36 Try.underlying37 Try.underlying38 Try.underlying39 sz39 cz39 ok39 ze39 by39 ni39 Try.underlying40 sz40 cz40 ok40 ze40 by40 ni40 Try.underlying41 sz41 cz41 ok41 ze41 by41 ni41 Try.underlying42 sz42 cz42 ok42 ze42 by42 ni42 Try.underlying43 sz43 cz43 ok43 ze43 by43 ni43 Try.underlying44 sz44 cz44 ok44 ze44 by44 ni44
attribute [go_sem] Try.underlying45 Try.underlying46 Try.underlying47 sz47 cz47 ok47 ze47 by47 ni47 Try.underlying48 Try.underlying49 Try.underlying50 Try.underlying51 Try.underlying52 Try.underlying53 Try.underlying54 Try.underlying55 Try.underlying56 Try.underlying57 Try.underlying58 Try.underlying59 Try.underlying60 Try.underlying61 Try.underlying62 Try.underlying63 Try.underlying64 Try.underlying65 sz65 cz65 ok65 ze65 by65 ni65 Try.underlying66 sz66 cz66 ok66 ze66 by66 ni66 eg66 sh66 Try.underlying67 Try.underlying68 Try.underlying69 sz69 cz69 ok69 ze69 by69 ni69 Try.underlying70 sz70 cz70 ok70 ze70 by70 ni70 Try.underlying71 sz71
attribute [go_sem] cz71 ok71 ze71 by71 ni71 Try.underlying72 Try.underlying73 Try.underlying74 sz74 cz74 ok74 ze74 by74 ni74 Try.underlying75 sz75 cz75 ok75 ze75 by75 ni75 Try.underlying76 Try.underlying77 Try.underlying78 Try.underlying79 Try.underlying80 Try.underlying81 Try.underlying82 Try.underlying83 Try.underlying84 Try.underlying85 sz85 cz85 ok85 ze85 by85 ni85 Try.underlying86 sz86 cz86 ok86 ze86 by86 ni86 Try.underlying87 sz87 cz87 ok87 ze87 by87 ni87 Try.underlying88 Try.underlying89 sz89 cz89 ok89 ze89 by89 ni89 Try.underlying90
attribute [go_sem] sz90 cz90 ok90 ze90 by90 ni90 Try.underlying91 Try.underlying92 Try.underlying93 Try.underlying94 Try.underlying95 sz95 cz95 ok95 ze95 by95 ni95 Try.underlying96 sz96 cz96 ok96 ze96 by96 ni96 Try.underlying97 sz97 cz97 ok97 ze97 by97 ni97 Try.underlying98 Try.underlying99 Try.underlying100 Try.underlying101 Try.underlying102 Try.underlying103 Try.underlying104 Try.underlying105 sz105 cz105 ok105 ze105 by105 Try.underlying106 sz106 cz106 ok106 ze106 by106 ni106 eg106 sh106 Try.underlying107 sz107 cz107 ok107 ze107 by107 Try.underlying108
attribute [go_sem] sz108 cz108 ok108 ze108 by108 ni108 eg108 sh108 Try.underlying109 sz109 cz109 ok109 ze109 by109 ni109 eg109 sh109 Try.underlying110 Try.underlying111 Try.underlying112 sz112 cz112 ok112 ze112 by112 ni112 eg112 sh112 Try.underlying113 sz113 cz113 ok113 ze113 by113 ni113 eg113 sh113 Try.underlying114 Try.underlying115 Try.underlying116 Try.underlying117 Try.underlying118 sz118 cz118 ok118 ze118 by118 Try.underlying119 Try.underlying120 Try.underlying121 sz121 cz121 ok121 ze121 by121 ni121 Try.underlying122 sz122 cz122 ok122
attribute [go_sem] ze122 by122 ni122 Try.underlying123 sz123 cz123 ok123 ze123 by123 ni123 Try.underlying124 Try.underlying125 Try.underlying126 Try.underlying127 Try.underlying128 sz128 cz128 ok128 ze128 by128 ni128 eg128 sh128 Try.underlying129 Try.underlying130 Try.underlying131 Try.underlying132 Try.underlying133 sz133 cz133 ok133 ze133 by133 ni133 eg133 sh133 Try.underlying134 Try.underlying135 sz135 cz135 ok135 ze135 by135 ni135 eg135 sh135 Try.underlying136 Try.underlying137 sz137 cz137 ok137 ze137 by137 ni137 eg137 sh137 Try.underlying138 sz138 cz138 ok138
attribute [go_sem] ze138 by138 ni138 eg138 sh138 Try.underlying139 Try.underlying140 Try.underlying141 Try.underlying142 Try.underlying143 sz143 cz143 ok143 ze143 by143 ni143 eg143 sh143 Try.underlying144 sz144 cz144 ok144 ze144 by144 ni144 Try.underlying145 Try.underlying146 Try.underlying147 Try.underlying148 sz148 cz148 ok148 ze148 by148 ni148 Try.underlying149 Try.underlying150 Try.underlying151 Try.underlying152 Try.underlying153 Try.underlying154 sz154 cz154 ok154 ze154 by154 ni154 Try.underlying155 sz155 cz155 ok155 ze155 by155 ni155 Try.underlying156 sz156 cz156 ok156 ze156 by156
attribute [go_sem] ni156 Try.underlying157 sz157 cz157 ok157 ze157 by157 ni157 Try.underlying158 sz158 cz158 ok158 ze158 by158 ni158 Try.underlying159 Try.underlying160 sz160 cz160 ok160 ze160 by160 Try.underlying161 sz161 cz161 ok161 ze161 by161 Try.underlying162 Try.underlying163 sz163 cz163 ok163 ze163 by163 Try.underlying164 sz164 cz164 ok164 ze164 by164 Try.underlying165 sz165 cz165 ok165 ze165 by165 ni165 Try.underlying166 sz166 cz166 ok166 ze166 by166 ni166
end Go.Proofs.YtbamlphgolldlaaX

/- Words for what functions answer. -/
set_option linter.unusedVariables false
namespace Go.Proofs.YtbamlphgolldlaaX
open Go Go.RowKit Go.Proofs
abbrev i32 (n : Int) : T := .imm (.int .i32 n)
abbrev i64 (n : Int) : T := .imm (.int .i64 n)
abbrev u8 (n : Int) : T := .imm (.int .u8 n)
abbrev u32 (n : Int) : T := .imm (.int .u32 n)
abbrev u64 (n : Int) : T := .imm (.int .u64 n)
abbrev tb (b : Bool) : T := .imm (.bool b)
abbrev ts (s : ByteArray) : T := .imm (.string s)
theorem tb_eq {a b : Bool} (h : a = b) : T.imm (.bool a) = .imm (.bool b) := by rw [h]
theorem tb_iff {p : Prop} [Decidable p] {b : Bool} (h : b = true ↔ p) : T.imm (.bool b) = .imm (.bool (decide p)) := by
  refine tb_eq ?_
  cases b with
  | true => exact (decide_eq_true (h.1 rfl)).symm
  | false => exact (decide_eq_false fun hp => Bool.noConfusion (h.2 hp)).symm
theorem imm_eq {k : IntKind} {a b : Int} (h : a = b) : T.imm (.int k a) = .imm (.int k b) := by rw [h]
theorem str_eq {a b : ByteArray} (h : a = b) : T.imm (.string a) = .imm (.string b) := by rw [h]
theorem sl_eq {sz : Nat} {f : Bool} {a b : List T} (h : a = b) : T.sl sz f a = .sl sz f b := by rw [h]
theorem boolW_mk {b : Bool} {A B : Prop} (h1 : b = true → A) (h2 : b = false → B) : boolW b A B := ⟨h1, h2⟩
theorem boolD_mk {p : Prop} [Decidable p] {A B : Prop} (h1 : p → A) (h2 : ¬ p → B) : boolW (decide p) A B := ⟨fun h => h1 (of_decide_eq_true h), fun h => h2 (of_decide_eq_false h)⟩
theorem wf_of {k : IntKind} {n : Int} (h : (Lit.int k n).wf = true) : k.min ≤ n ∧ n ≤ k.max := by
  simpa [Lit.wf] using h
theorem wf_i32 {n : Int} (h : (Lit.int .i32 n).wf = true) : -2147483648 ≤ n ∧ n ≤ 2147483647 := wf_of h
theorem wf_i64 {n : Int} (h : (Lit.int .i64 n).wf = true) : -9223372036854775808 ≤ n ∧ n ≤ 9223372036854775807 := wf_of h
theorem wf_u8 {n : Int} (h : (Lit.int .u8 n).wf = true) : 0 ≤ n ∧ n ≤ 255 := wf_of h
theorem wf_u32 {n : Int} (h : (Lit.int .u32 n).wf = true) : 0 ≤ n ∧ n ≤ 4294967295 := wf_of h
theorem wf_u64 {n : Int} (h : (Lit.int .u64 n).wf = true) : 0 ≤ n ∧ n ≤ 18446744073709551615 := wf_of h
end Go.Proofs.YtbamlphgolldlaaX

/- Bits of numbers that are not below zero. -/
set_option linter.unusedVariables false
namespace Go.Proofs.YtbamlphgolldlaaX
open Go Go.RowKit Go.Proofs
theorem ofInt_nat (w : Nat) (n : Nat) (h : n < 2 ^ w) : (BitVec.ofInt w (n : Int)).toNat = n := by
  rw [BitVec.ofInt_natCast, BitVec.toNat_ofNat, Nat.mod_eq_of_lt h]
theorem or_low (i a b : Nat) (ha : a % 2 ^ i = 0) (hb : b < 2 ^ i) : a ||| b = a + b := by
  obtain ⟨q, rfl⟩ : ∃ q, a = 2 ^ i * q := ⟨a / 2 ^ i, by have := Nat.div_add_mod a (2 ^ i); omega⟩
  exact (Nat.two_pow_add_eq_or_of_lt hb q).symm
/-- Bits beside others are a sum. -/
theorem or_add (w i : Nat) (x y : Int) (hx : 0 ≤ x) (hxw : x < 2 ^ w) (hd : x % 2 ^ i = 0) (hy : 0 ≤ y) (hyi : y < 2 ^ i) (hiw : i ≤ w) : ((BitVec.ofInt w x ||| BitVec.ofInt w y).toNat : Int) = x + y := by
  obtain ⟨a, rfl⟩ := Int.eq_ofNat_of_zero_le hx
  obtain ⟨b, rfl⟩ := Int.eq_ofNat_of_zero_le hy
  have e : ((2 : Int) ^ i) = ((2 ^ i : Nat) : Int) := by simp
  have e' : ((2 : Int) ^ w) = ((2 ^ w : Nat) : Int) := by simp
  rw [e] at hd hyi
  rw [e'] at hxw
  have hle : 2 ^ i ≤ 2 ^ w := Nat.pow_le_pow_right (by omega) hiw
  rw [BitVec.toNat_or, ofInt_nat w a (by omega), ofInt_nat w b (by omega), or_low i a b (by omega) (by omega)]
  omega
theorem and_low (w i : Nat) (x : Int) (hx : 0 ≤ x) (hxw : x < 2 ^ w) (hiw : i ≤ w) (m : Int) (hm : m = 2 ^ i - 1) : ((BitVec.ofInt w x &&& BitVec.ofInt w m).toNat : Int) = x % 2 ^ i := by
  obtain ⟨a, rfl⟩ := Int.eq_ofNat_of_zero_le hx
  have e : ((2 : Int) ^ i) = ((2 ^ i : Nat) : Int) := by simp
  have e' : ((2 : Int) ^ w) = ((2 ^ w : Nat) : Int) := by simp
  rw [e'] at hxw
  have hle : 2 ^ i ≤ 2 ^ w := Nat.pow_le_pow_right (by omega) hiw
  have hp : 0 < 2 ^ i := Nat.two_pow_pos i
  have hm' : m = ((2 ^ i - 1 : Nat) : Int) := by omega
  subst hm'
  rw [BitVec.toNat_and, ofInt_nat w a (by omega), ofInt_nat w _ (by omega), Nat.and_two_pow_sub_one_eq_mod, e]
  omega
theorem bOr_add (k : IntKind) (i : Nat) (x y : Int) (hx : 0 ≤ x) (hxw : x < 2 ^ k.bits) (hd : x % 2 ^ i = 0) (hy : 0 ≤ y) (hyi : y < 2 ^ i) (hiw : i ≤ k.bits) : bOr k x y = x + y := or_add k.bits i x y hx hxw hd hy hyi hiw
theorem bAnd_low (k : IntKind) (i : Nat) (x : Int) (hx : 0 ≤ x) (hxw : x < 2 ^ k.bits) (hiw : i ≤ k.bits) (m : Int) (hm : m = 2 ^ i - 1) : bAnd k x m = x % 2 ^ i := and_low k.bits i x hx hxw hiw m hm
theorem bShr_div (k : IntKind) (x : Int) (n : Nat) (m : Int) (h : (2 : Int) ^ min n k.bits = m) (hm : 0 ≤ m) : bShr k x n = x / m := by unfold bShr; rw [h, Int.fdiv_eq_ediv_of_nonneg _ hm]
end Go.Proofs.YtbamlphgolldlaaX

set_option linter.unusedVariables false
set_option linter.unusedSimpArgs false
namespace Go.Proofs.YtbamlphgolldlaaX
open Go Go.RowKit Go.Proofs
set_option maxRecDepth 100000
inductive N43 where
  | mk (p0 : List UInt8) (p1 : List UInt8) (p2 : List (N43))
def N43.p0 : N43 → List UInt8
  | .mk y0 _ _ => y0
def N43.p1 : N43 → List UInt8
  | .mk _ y1 _ => y1
def N43.p2 : N43 → List (N43)
  | .mk _ _ y2 => y2
theorem N43.p0_mk (y0 : List UInt8) (y1 : List UInt8) (y2 : List (N43)) : (N43.mk y0 y1 y2).p0 = y0 := rfl
theorem N43.p1_mk (y0 : List UInt8) (y1 : List UInt8) (y2 : List (N43)) : (N43.mk y0 y1 y2).p1 = y1 := rfl
theorem N43.p2_mk (y0 : List UInt8) (y1 : List UInt8) (y2 : List (N43)) : (N43.mk y0 y1 y2).p2 = y2 := rfl
theorem N43.eta (x : N43) : N43.mk x.p0 x.p1 x.p2 = x := by cases x; rfl
attribute [go_sem] N43.eta N43.p0_mk N43.p1_mk N43.p2_mk
instance : Inhabited N43 := ⟨.mk default default default⟩
mutual
def eT43 : N43 → T
  | .mk y0 y1 y2 => .agg [.imm (.string (bs y0)), .imm (.string (bs y1)), .sl 3 false (eTs43 y2)]
def eTs43 : List N43 → List T
  | [] => []
  | x :: l => eT43 x :: eTs43 l
end
theorem eTs43_map : ∀ l : List N43, eTs43 l = List.map eT43 l
  | [] => by rw [eTs43]; rfl
  | x :: l => by rw [eTs43, eTs43_map l]; rfl
theorem eT43_def (x : N43) : eT43 x = .agg [.imm (.string (bs x.p0)), .imm (.string (bs x.p1)), .sl 3 false (List.map eT43 x.p2)] := by cases x; rw [eT43, eTs43_map]; rfl
theorem eT43_closed (x : N43) : closedT (eT43 x) = true := by rw [eT43_def]; rfl
attribute [go_sem] eT43_def eT43_closed
theorem app_T43 (l : List (N43)) (y0 : List UInt8) (y1 : List UInt8) (y2 : List (N43)) (r : List T) : List.map eT43 l ++ (T.agg [.imm (.string (bs y0)), .imm (.string (bs y1)), .sl 3 false (List.map eT43 y2)] :: r) = List.map eT43 (l ++ [(N43.mk y0 y1 y2)]) ++ r := by rw [List.map_append, List.map_cons, List.map_nil, eT43_def, List.append_assoc]; rfl
theorem set_T43 (l : List (N43)) (i : Nat) (y0 : List UInt8) (y1 : List UInt8) (y2 : List (N43)) : (List.map eT43 l).set i (T.agg [.imm (.string (bs y0)), .imm (.string (bs y1)), .sl 3 false (List.map eT43 y2)]) = List.map eT43 (l.set i (N43.mk y0 y1 y2)) := by rw [List.map_set, eT43_def]; rfl
attribute [go_sem] app_T43 set_T43
end Go.Proofs.YtbamlphgolldlaaX

set_option linter.unusedVariables false
set_option linter.unusedSimpArgs false
namespace Go.Proofs.YtbamlphgolldlaaX
open Go Go.RowKit Go.Proofs
set_option maxRecDepth 100000
attribute [local go_sem ↓] stepsK_build stepsK_build0 stepsK_bs stepsK_bs0 appendS
attribute [local go_sem] String.reduceEq String.reduceNe reduceCtorEq Int.reduceEq Nat.reduceAdd Nat.reduceSub Nat.reduceMul Nat.reduceLT Nat.reduceLeDiff Nat.reduceEqDiff Nat.reduceBEq Int.reduceToNat Int.reduceLT Int.reduceLE Int.reduceGT Int.reduceGE Int.reduceAdd Int.reduceSub Int.reduceMul Int.reduceNeg Int.reduceBEq Int.reduceBNe Int.reducePow Int.reduceDiv Int.reduceMod Int.reduceTDiv Int.reduceTMod Int.reduceNatCast
/-! ### utf.length -/
def F82 (n : Nat) (a0 : Int) : Option (Int) := iteB (decide (a0 < (128 : Int))) (some (1 : Int)) (iteB (decide (a0 < (192 : Int))) (some (0 : Int)) (iteB (decide (a0 < (224 : Int))) (some (2 : Int)) (iteB (decide (a0 < (240 : Int))) (some (3 : Int)) (iteB (decide (a0 < (248 : Int))) (some (4 : Int)) (some (0 : Int))))))
set_option maxHeartbeats 4000000 in
theorem F82_ok : ∀ (n : Nat) (a0 : Int) (r : Int), F82 n a0 = some r → FnC Try.prog 82 [.imm (.int .u8 a0)] (.imm (.int .i64 r))
  | n, a0, r, h => by
    unfold F82 at h
    refine FnC.goX mixed Try.func82 (by kernel_rfl) rfl ?_
    simp only [Try.ntmps82, List.length_cons, List.length_nil, List.replicate, List.cons_append, List.nil_append, Nat.reduceAdd, Nat.reduceSub]
    refine runX_seq ?_
    refine runX_regionC fun C hC => ?_
    try simp -implicitDefEqProofs (maxSteps := 4000000) (disch := first | omega | decide | (simp only [go_sem]; omega)) only [go_sem, ↓reduceIte]
    repeat (with_reducible refine And.intro (by first | assumption | omega | (simp; done) | (simp; omega)) ?_)
    refine toEnd hC ?_
    refine endX_seq ?_
    refine runX_seq ?_
    refine runX_block ?_
    refine runX_seq ?_
    refine runX_regionC fun C hC => ?_
    try simp -implicitDefEqProofs (maxSteps := 4000000) (disch := first | omega | decide | (simp only [go_sem]; omega)) only [go_sem, ↓reduceIte]
    repeat (with_reducible refine And.intro (by first | assumption | omega | (simp; done) | (simp; omega)) ?_)
    refine toEnd hC ?_
    refine endX_seq ?_
    rcases iteB_some h with ⟨c1, h⟩ | ⟨c1, h⟩
    · refine runX_condT rfl c1 ?_
      refine runX_seq ?_
      refine runX_regionC fun C hC => ?_
      try simp -implicitDefEqProofs (maxSteps := 4000000) (disch := first | omega | decide | (simp only [go_sem]; omega)) only [go_sem, ↓reduceIte]
      repeat (with_reducible refine And.intro (by first | assumption | omega | (simp; done) | (simp; omega)) ?_)
      refine toEnd hC ?_
      refine endX_seq ?_
      refine runX_ret ?_
      refine endX_blkR ?_
      refine endX_seqR ?_
      refine endX_q ?_
      obtain rfl := Option.some.inj h
      show RetW _ _ _ _ _
      simp only [RetW]
      (try simp -implicitDefEqProofs (maxSteps := 4000000) (disch := first | omega | decide | (simp only [go_sem]; omega)) only [go_sem, ↓reduceIte])
      (try simp (disch := omega) only [if_pos, Nat.sub_zero])
      exact leT_refl _
    · refine runX_condF rfl c1 ?_
      refine runX_seq ?_
      refine runX_regionC fun C hC => ?_
      try simp -implicitDefEqProofs (maxSteps := 4000000) (disch := first | omega | decide | (simp only [go_sem]; omega)) only [go_sem, ↓reduceIte]
      repeat (with_reducible refine And.intro (by first | assumption | omega | (simp; done) | (simp; omega)) ?_)
      refine toEnd hC ?_
      refine endX_seq ?_
      rcases iteB_some h with ⟨c2, h⟩ | ⟨c2, h⟩
      · refine runX_condT rfl c2 ?_
        refine runX_seq ?_
        refine runX_regionC fun C hC => ?_
        try simp -implicitDefEqProofs (maxSteps := 4000000) (disch := first | omega | decide | (simp only [go_sem]; omega)) only [go_sem, ↓reduceIte]
        repeat (with_reducible refine And.intro (by first | assumption | omega | (simp; done) | (simp; omega)) ?_)
        refine toEnd hC ?_
        refine endX_seq ?_
        refine runX_ret ?_
        refine endX_blkR ?_
        refine endX_seqR ?_
        refine endX_q ?_
        obtain rfl := Option.some.inj h
        show RetW _ _ _ _ _
        simp only [RetW]
        (try simp -implicitDefEqProofs (maxSteps := 4000000) (disch := first | omega | decide | (simp only [go_sem]; omega)) only [go_sem, ↓reduceIte])
        (try simp (disch := omega) only [if_pos, Nat.sub_zero])
        exact leT_refl _
      · refine runX_condF rfl c2 ?_
        refine runX_seq ?_
        refine runX_regionC fun C hC => ?_
        try simp -implicitDefEqProofs (maxSteps := 4000000) (disch := first | omega | decide | (simp only [go_sem]; omega)) only [go_sem, ↓reduceIte]
        repeat (with_reducible refine And.intro (by first | assumption | omega | (simp; done) | (simp; omega)) ?_)
        refine toEnd hC ?_
        refine endX_seq ?_
        rcases iteB_some h with ⟨c3, h⟩ | ⟨c3, h⟩
        · refine runX_condT rfl c3 ?_
          refine runX_seq ?_
          refine runX_regionC fun C hC => ?_
          try simp -implicitDefEqProofs (maxSteps := 4000000) (disch := first | omega | decide | (simp only [go_sem]; omega)) only [go_sem, ↓reduceIte]
          repeat (with_reducible refine And.intro (by first | assumption | omega | (simp; done) | (simp; omega)) ?_)
          refine toEnd hC ?_
          refine endX_seq ?_
          refine runX_ret ?_
          refine endX_blkR ?_
          refine endX_seqR ?_
          refine endX_q ?_
          obtain rfl := Option.some.inj h
          show RetW _ _ _ _ _
          simp only [RetW]
          (try simp -implicitDefEqProofs (maxSteps := 4000000) (disch := first | omega | decide | (simp only [go_sem]; omega)) only [go_sem, ↓reduceIte])
          (try simp (disch := omega) only [if_pos, Nat.sub_zero])
          exact leT_refl _
        · refine runX_condF rfl c3 ?_
          refine runX_seq ?_
          refine runX_regionC fun C hC => ?_
          try simp -implicitDefEqProofs (maxSteps := 4000000) (disch := first | omega | decide | (simp only [go_sem]; omega)) only [go_sem, ↓reduceIte]
          repeat (with_reducible refine And.intro (by first | assumption | omega | (simp; done) | (simp; omega)) ?_)
          refine toEnd hC ?_
          refine endX_seq ?_
          rcases iteB_some h with ⟨c4, h⟩ | ⟨c4, h⟩
          · refine runX_condT rfl c4 ?_
            refine runX_seq ?_
            refine runX_regionC fun C hC => ?_
            try simp -implicitDefEqProofs (maxSteps := 4000000) (disch := first | omega | decide | (simp only [go_sem]; omega)) only [go_sem, ↓reduceIte]
            repeat (with_reducible refine And.intro (by first | assumption | omega | (simp; done) | (simp; omega)) ?_)
            refine toEnd hC ?_
            refine endX_seq ?_
            refine runX_ret ?_
            refine endX_blkR ?_
            refine endX_seqR ?_
            refine endX_q ?_
            obtain rfl := Option.some.inj h
            show RetW _ _ _ _ _
            simp only [RetW]
            (try simp -implicitDefEqProofs (maxSteps := 4000000) (disch := first | omega | decide | (simp only [go_sem]; omega)) only [go_sem, ↓reduceIte])
            (try simp (disch := omega) only [if_pos, Nat.sub_zero])
            exact leT_refl _
          · refine runX_condF rfl c4 ?_
            refine runX_seq ?_
            refine runX_regionC fun C hC => ?_
            try simp -implicitDefEqProofs (maxSteps := 4000000) (disch := first | omega | decide | (simp only [go_sem]; omega)) only [go_sem, ↓reduceIte]
            repeat (with_reducible refine And.intro (by first | assumption | omega | (simp; done) | (simp; omega)) ?_)
            refine toEnd hC ?_
            refine endX_seq ?_
            rcases iteB_some h with ⟨c5, h⟩ | ⟨c5, h⟩
            · refine runX_condT rfl c5 ?_
              refine runX_seq ?_
              refine runX_regionC fun C hC => ?_
              try simp -implicitDefEqProofs (maxSteps := 4000000) (disch := first | omega | decide | (simp only [go_sem]; omega)) only [go_sem, ↓reduceIte]
              repeat (with_reducible refine And.intro (by first | assumption | omega | (simp; done) | (simp; omega)) ?_)
              refine toEnd hC ?_
              refine endX_seq ?_
              refine runX_ret ?_
              refine endX_blkR ?_
              refine endX_seqR ?_
              refine endX_q ?_
              obtain rfl := Option.some.inj h
              show RetW _ _ _ _ _
              simp only [RetW]
              (try simp -implicitDefEqProofs (maxSteps := 4000000) (disch := first | omega | decide | (simp only [go_sem]; omega)) only [go_sem, ↓reduceIte])
              (try simp (disch := omega) only [if_pos, Nat.sub_zero])
              exact leT_refl _
            · refine runX_condF rfl c5 ?_
              refine runX_skip ?_
              refine endX_blk ?_
              refine endX_seq ?_
              refine runX_seq ?_
              refine runX_regionC fun C hC => ?_
              try simp -implicitDefEqProofs (maxSteps := 4000000) (disch := first | omega | decide | (simp only [go_sem]; omega)) only [go_sem, ↓reduceIte]
              repeat (with_reducible refine And.intro (by first | assumption | omega | (simp; done) | (simp; omega)) ?_)
              refine toEnd hC ?_
              refine endX_seq ?_
              refine runX_ret ?_
              refine endX_q ?_
              obtain rfl := Option.some.inj h
              show RetW _ _ _ _ _
              simp only [RetW]
              (try simp -implicitDefEqProofs (maxSteps := 4000000) (disch := first | omega | decide | (simp only [go_sem]; omega)) only [go_sem, ↓reduceIte])
              (try simp (disch := omega) only [if_pos, Nat.sub_zero])
              exact leT_refl _
end Go.Proofs.YtbamlphgolldlaaX

set_option linter.unusedVariables false
set_option linter.unusedSimpArgs false
namespace Go.Proofs.YtbamlphgolldlaaX
open Go Go.RowKit Go.Proofs
set_option maxRecDepth 100000
attribute [local go_sem ↓] stepsK_build stepsK_build0 stepsK_bs stepsK_bs0 appendS
attribute [local go_sem] String.reduceEq String.reduceNe reduceCtorEq Int.reduceEq Nat.reduceAdd Nat.reduceSub Nat.reduceMul Nat.reduceLT Nat.reduceLeDiff Nat.reduceEqDiff Nat.reduceBEq Int.reduceToNat Int.reduceLT Int.reduceLE Int.reduceGT Int.reduceGE Int.reduceAdd Int.reduceSub Int.reduceMul Int.reduceNeg Int.reduceBEq Int.reduceBNe Int.reducePow Int.reduceDiv Int.reduceMod Int.reduceTDiv Int.reduceTMod Int.reduceNatCast
/-! ### utf.Next$1 -/
def F83 (n : Nat) (a0 : Int) : Option (Bool) := some ((IntKind.wrap .u8 (bAndNot .u8 a0 (63 : Int))) == (128 : Int))
set_option maxHeartbeats 4000000 in
theorem F83_ok : ∀ (n : Nat) (a0 : Int) (r : Bool), F83 n a0 = some r → FnC Try.prog 83 [.imm (.int .u8 a0)] (.imm (.bool r))
  | n, a0, r, h => by
    unfold F83 at h
    refine FnC.goX mixed Try.func83 (by kernel_rfl) rfl ?_
    simp only [Try.ntmps83, List.length_cons, List.length_nil, List.replicate, List.cons_append, List.nil_append, Nat.reduceAdd, Nat.reduceSub]
    refine runX_seq ?_
    refine runX_regionC fun C hC => ?_
    try simp -implicitDefEqProofs (maxSteps := 4000000) (disch := first | omega | decide | (simp only [go_sem]; omega)) only [go_sem, ↓reduceIte]
    repeat (with_reducible refine And.intro (by first | assumption | omega | (simp; done) | (simp; omega)) ?_)
    refine toEnd hC ?_
    refine endX_seq ?_
    refine runX_seq ?_
    refine runX_regionC fun C hC => ?_
    try simp -implicitDefEqProofs (maxSteps := 4000000) (disch := first | omega | decide | (simp only [go_sem]; omega)) only [go_sem, ↓reduceIte]
    repeat (with_reducible refine And.intro (by first | assumption | omega | (simp; done) | (simp; omega)) ?_)
    refine toEnd hC ?_
    refine endX_seq ?_
    refine runX_ret ?_
    refine endX_q ?_
    obtain rfl := Option.some.inj h
    show RetW _ _ _ _ _
    simp only [RetW]
    (try simp -implicitDefEqProofs (maxSteps := 4000000) (disch := first | omega | decide | (simp only [go_sem]; omega)) only [go_sem, ↓reduceIte])
    (try simp (disch := omega) only [if_pos, Nat.sub_zero])
    exact leT_refl _
end Go.Proofs.YtbamlphgolldlaaX

set_option linter.unusedVariables false
set_option linter.unusedSimpArgs false
namespace Go.Proofs.YtbamlphgolldlaaX
open Go Go.RowKit Go.Proofs
set_option maxRecDepth 100000
attribute [local go_sem ↓] stepsK_build stepsK_build0 stepsK_bs stepsK_bs0 appendS
attribute [local go_sem] String.reduceEq String.reduceNe reduceCtorEq Int.reduceEq Nat.reduceAdd Nat.reduceSub Nat.reduceMul Nat.reduceLT Nat.reduceLeDiff Nat.reduceEqDiff Nat.reduceBEq Int.reduceToNat Int.reduceLT Int.reduceLE Int.reduceGT Int.reduceGE Int.reduceAdd Int.reduceSub Int.reduceMul Int.reduceNeg Int.reduceBEq Int.reduceBNe Int.reducePow Int.reduceDiv Int.reduceMod Int.reduceTDiv Int.reduceTMod Int.reduceNatCast
/-! ### utf.lead -/
def F84 (n : Nat) (a0 : Int) : Option (Int) := iteB (a0 == (1 : Int)) (some (0 : Int)) (grd (0 ≤ (IntKind.wrap .i64 ((8 : Int) - a0))) (some (IntKind.wrap .i32 (bAnd .i32 (IntKind.wrap .i32 (bShl .i32 (255 : Int) ((IntKind.wrap .i64 ((8 : Int) - a0)).toNat))) (255 : Int)))))
set_option maxHeartbeats 4000000 in
theorem F84_ok : ∀ (n : Nat) (a0 : Int) (r : Int), F84 n a0 = some r → FnC Try.prog 84 [.imm (.int .i64 a0)] (.imm (.int .i32 r))
  | n, a0, r, h => by
    unfold F84 at h
    refine FnC.goX mixed Try.func84 (by kernel_rfl) rfl ?_
    simp only [Try.ntmps84, List.length_cons, List.length_nil, List.replicate, List.cons_append, List.nil_append, Nat.reduceAdd, Nat.reduceSub]
    refine runX_seq ?_
    refine runX_regionC fun C hC => ?_
    try simp -implicitDefEqProofs (maxSteps := 4000000) (disch := first | omega | decide | (simp only [go_sem]; omega)) only [go_sem, ↓reduceIte]
    repeat (with_reducible refine And.intro (by first | assumption | omega | (simp; done) | (simp; omega)) ?_)
    refine toEnd hC ?_
    refine endX_seq ?_
    refine runX_seq ?_
    refine runX_seq ?_
    refine runX_regionC fun C hC => ?_
    try simp -implicitDefEqProofs (maxSteps := 4000000) (disch := first | omega | decide | (simp only [go_sem]; omega)) only [go_sem, ↓reduceIte]
    repeat (with_reducible refine And.intro (by first | assumption | omega | (simp; done) | (simp; omega)) ?_)
    refine toEnd hC ?_
    refine endX_seq ?_
    rcases iteB_some h with ⟨c1, h⟩ | ⟨c1, h⟩
    · refine runX_condT rfl c1 ?_
      refine runX_seq ?_
      refine runX_regionC fun C hC => ?_
      try simp -implicitDefEqProofs (maxSteps := 4000000) (disch := first | omega | decide | (simp only [go_sem]; omega)) only [go_sem, ↓reduceIte]
      repeat (with_reducible refine And.intro (by first | assumption | omega | (simp; done) | (simp; omega)) ?_)
      refine toEnd hC ?_
      refine endX_seq ?_
      refine runX_ret ?_
      refine endX_seqR ?_
      refine endX_q ?_
      obtain rfl := Option.some.inj h
      show RetW _ _ _ _ _
      simp only [RetW]
      (try simp -implicitDefEqProofs (maxSteps := 4000000) (disch := first | omega | decide | (simp only [go_sem]; omega)) only [go_sem, ↓reduceIte])
      (try simp (disch := omega) only [if_pos, Nat.sub_zero])
      exact leT_refl _
    · refine runX_condF rfl c1 ?_
      refine runX_skip ?_
      refine endX_seq ?_
      refine runX_seq ?_
      refine runX_regionC fun C hC => ?_
      obtain ⟨g2, h⟩ := grd_some h
      try simp -implicitDefEqProofs (maxSteps := 4000000) (disch := first | omega | decide | (simp only [go_sem]; omega)) only [go_sem, ↓reduceIte]
      repeat (with_reducible refine And.intro (by first | assumption | omega | (simp; done) | (simp; omega)) ?_)
      refine toEnd hC ?_
      refine endX_seq ?_
      refine runX_ret ?_
      refine endX_q ?_
      obtain rfl := Option.some.inj h
      show RetW _ _ _ _ _
      simp only [RetW]
      (try simp -implicitDefEqProofs (maxSteps := 4000000) (disch := first | omega | decide | (simp only [go_sem]; omega)) only [go_sem, ↓reduceIte])
      (try simp (disch := omega) only [if_pos, Nat.sub_zero])
      exact leT_refl _
end Go.Proofs.YtbamlphgolldlaaX

set_option linter.unusedVariables false
set_option linter.unusedSimpArgs false
namespace Go.Proofs.YtbamlphgolldlaaX
open Go Go.RowKit Go.Proofs
set_option maxRecDepth 100000
attribute [local go_sem ↓] stepsK_build stepsK_build0 stepsK_bs stepsK_bs0 appendS
attribute [local go_sem] String.reduceEq String.reduceNe reduceCtorEq Int.reduceEq Nat.reduceAdd Nat.reduceSub Nat.reduceMul Nat.reduceLT Nat.reduceLeDiff Nat.reduceEqDiff Nat.reduceBEq Int.reduceToNat Int.reduceLT Int.reduceLE Int.reduceGT Int.reduceGE Int.reduceAdd Int.reduceSub Int.reduceMul Int.reduceNeg Int.reduceBEq Int.reduceBNe Int.reducePow Int.reduceDiv Int.reduceMod Int.reduceTDiv Int.reduceTMod Int.reduceNatCast
/-! ### utf.right -/
def F85 (n : Nat) (a0 : Int) : Option (Bool) := iteB (decide ((0 : Int) ≤ a0)) (iteB (decide (a0 ≤ (1114111 : Int))) (iteB (decide (a0 < (55296 : Int))) (some true) (some (decide ((57343 : Int) < a0)))) (some false)) (some false)
set_option maxHeartbeats 4000000 in
theorem F85_ok : ∀ (n : Nat) (a0 : Int) (r : Bool), F85 n a0 = some r → FnC Try.prog 85 [.imm (.int .i32 a0)] (.imm (.bool r))
  | n, a0, r, h => by
    unfold F85 at h
    refine FnC.goX mixed Try.func85 (by kernel_rfl) rfl ?_
    simp only [Try.ntmps85, List.length_cons, List.length_nil, List.replicate, List.cons_append, List.nil_append, Nat.reduceAdd, Nat.reduceSub]
    refine runX_seq ?_
    refine runX_regionC fun C hC => ?_
    try simp -implicitDefEqProofs (maxSteps := 4000000) (disch := first | omega | decide | (simp only [go_sem]; omega)) only [go_sem, ↓reduceIte]
    repeat (with_reducible refine And.intro (by first | assumption | omega | (simp; done) | (simp; omega)) ?_)
    refine toEnd hC ?_
    refine endX_seq ?_
    refine runX_seq ?_
    refine runX_regionC fun C hC => ?_
    try simp -implicitDefEqProofs (maxSteps := 4000000) (disch := first | omega | decide | (simp only [go_sem]; omega)) only [go_sem, ↓reduceIte]
    repeat (with_reducible refine And.intro (by first | assumption | omega | (simp; done) | (simp; omega)) ?_)
    rcases iteB_some h with ⟨c1, h⟩ | ⟨c1, h⟩
    · refine guardK_T c1 ?_
      try simp -implicitDefEqProofs (maxSteps := 4000000) (disch := first | omega | decide | (simp only [go_sem]; omega)) only [go_sem, ↓reduceIte]
      repeat (with_reducible refine And.intro (by first | assumption | omega | (simp; done) | (simp; omega)) ?_)
      rcases iteB_some h with ⟨c2, h⟩ | ⟨c2, h⟩
      · refine guardK_T c2 ?_
        try simp -implicitDefEqProofs (maxSteps := 4000000) (disch := first | omega | decide | (simp only [go_sem]; omega)) only [go_sem, ↓reduceIte]
        repeat (with_reducible refine And.intro (by first | assumption | omega | (simp; done) | (simp; omega)) ?_)
        rcases iteB_some h with ⟨c3, h⟩ | ⟨c3, h⟩
        · refine guardK_F c3 ?_
          try simp -implicitDefEqProofs (maxSteps := 4000000) (disch := first | omega | decide | (simp only [go_sem]; omega)) only [go_sem, ↓reduceIte]
          repeat (with_reducible refine And.intro (by first | assumption | omega | (simp; done) | (simp; omega)) ?_)
          refine toEnd hC ?_
          refine endX_seq ?_
          refine runX_ret ?_
          refine endX_q ?_
          obtain rfl := Option.some.inj h
          show RetW _ _ _ _ _
          simp only [RetW]
          (try simp -implicitDefEqProofs (maxSteps := 4000000) (disch := first | omega | decide | (simp only [go_sem]; omega)) only [go_sem, ↓reduceIte])
          (try simp (disch := omega) only [if_pos, Nat.sub_zero])
          exact leT_refl _
        · refine guardK_T c3 ?_
          try simp -implicitDefEqProofs (maxSteps := 4000000) (disch := first | omega | decide | (simp only [go_sem]; omega)) only [go_sem, ↓reduceIte]
          repeat (with_reducible refine And.intro (by first | assumption | omega | (simp; done) | (simp; omega)) ?_)
          refine toEnd hC ?_
          refine endX_seq ?_
          refine runX_ret ?_
          refine endX_q ?_
          obtain rfl := Option.some.inj h
          show RetW _ _ _ _ _
          simp only [RetW]
          (try simp -implicitDefEqProofs (maxSteps := 4000000) (disch := first | omega | decide | (simp only [go_sem]; omega)) only [go_sem, ↓reduceIte])
          (try simp (disch := omega) only [if_pos, Nat.sub_zero])
          exact leT_refl _
      · refine guardK_F c2 ?_
        try simp -implicitDefEqProofs (maxSteps := 4000000) (disch := first | omega | decide | (simp only [go_sem]; omega)) only [go_sem, ↓reduceIte]
        repeat (with_reducible refine And.intro (by first | assumption | omega | (simp; done) | (simp; omega)) ?_)
        refine toEnd hC ?_
        refine endX_seq ?_
        refine runX_ret ?_
        refine endX_q ?_
        obtain rfl := Option.some.inj h
        show RetW _ _ _ _ _
        simp only [RetW]
        (try simp -implicitDefEqProofs (maxSteps := 4000000) (disch := first | omega | decide | (simp only [go_sem]; omega)) only [go_sem, ↓reduceIte])
        (try simp (disch := omega) only [if_pos, Nat.sub_zero])
        exact leT_refl _
    · refine guardK_F c1 ?_
      try simp -implicitDefEqProofs (maxSteps := 4000000) (disch := first | omega | decide | (simp only [go_sem]; omega)) only [go_sem, ↓reduceIte]
      repeat (with_reducible refine And.intro (by first | assumption | omega | (simp; done) | (simp; omega)) ?_)
      refine toEnd hC ?_
      refine endX_seq ?_
      refine runX_ret ?_
      refine endX_q ?_
      obtain rfl := Option.some.inj h
      show RetW _ _ _ _ _
      simp only [RetW]
      (try simp -implicitDefEqProofs (maxSteps := 4000000) (disch := first | omega | decide | (simp only [go_sem]; omega)) only [go_sem, ↓reduceIte])
      (try simp (disch := omega) only [if_pos, Nat.sub_zero])
      exact leT_refl _
end Go.Proofs.YtbamlphgolldlaaX

set_option linter.unusedVariables false
set_option linter.unusedSimpArgs false
namespace Go.Proofs.YtbamlphgolldlaaX
open Go Go.RowKit Go.Proofs
set_option maxRecDepth 100000
attribute [local go_sem ↓] stepsK_build stepsK_build0 stepsK_bs stepsK_bs0 appendS
attribute [local go_sem] String.reduceEq String.reduceNe reduceCtorEq Int.reduceEq Nat.reduceAdd Nat.reduceSub Nat.reduceMul Nat.reduceLT Nat.reduceLeDiff Nat.reduceEqDiff Nat.reduceBEq Int.reduceToNat Int.reduceLT Int.reduceLE Int.reduceGT Int.reduceGE Int.reduceAdd Int.reduceSub Int.reduceMul Int.reduceNeg Int.reduceBEq Int.reduceBNe Int.reducePow Int.reduceDiv Int.reduceMod Int.reduceTDiv Int.reduceTMod Int.reduceNatCast
/-! ### utf.size -/
def F86_S3 (a0 : Int) (x6 : Int) : St := ⟨[.imm (.int .i32 a0), .junk, .junk, .imm (.int .i64 x6), .junk, .junk, .agg [.imm (.int .i32 (128 : Int)), .imm (.int .i32 (2048 : Int)), .imm (.int .i32 (65536 : Int))], .imm (.int .i64 (2 : Int)), .junk, .junk, .junk, .junk, .junk, .junk, .junk, .junk, .junk], []⟩
def F86_S2 (a0 : Int) (x4 : Int) : St := ⟨[.imm (.int .i32 a0), .junk, .junk, .imm (.int .i64 x4), .junk, .junk, .agg [.imm (.int .i32 (128 : Int)), .imm (.int .i32 (2048 : Int)), .imm (.int .i32 (65536 : Int))], .imm (.int .i64 (1 : Int)), .junk, .junk, .junk, .junk, .junk, .junk, .junk, .junk, .junk], []⟩
def F86_S1 (a0 : Int) (x2 : Int) : St := ⟨[.imm (.int .i32 a0), .junk, .junk, .imm (.int .i64 x2), .junk, .junk, .agg [.imm (.int .i32 (128 : Int)), .imm (.int .i32 (2048 : Int)), .imm (.int .i32 (65536 : Int))], .imm (.int .i64 (0 : Int)), .junk, .junk, .junk, .junk, .junk, .junk, .junk, .junk, .junk], []⟩
def F86_J3 (n : Nat) (a0 : Int) (x6 : Int) : Option (Int) := some x6
def F86_J2 (n : Nat) (a0 : Int) (x4 : Int) : Option (Int) := iteB (decide ((65536 : Int) ≤ a0)) (F86_J3 n a0 (IntKind.wrap .i64 (x4 + (1 : Int)))) (F86_J3 n a0 x4)
def F86_J1 (n : Nat) (a0 : Int) (x2 : Int) : Option (Int) := iteB (decide ((2048 : Int) ≤ a0)) (F86_J2 n a0 (IntKind.wrap .i64 (x2 + (1 : Int)))) (F86_J2 n a0 x2)
def F86 (n : Nat) (a0 : Int) : Option (Int) := iteB (decide ((128 : Int) ≤ a0)) (F86_J1 n a0 (2 : Int)) (F86_J1 n a0 (1 : Int))
set_option maxHeartbeats 4000000 in
theorem F86_ok : ∀ (n : Nat) (a0 : Int) (r : Int), F86 n a0 = some r → FnC Try.prog 86 [.imm (.int .i32 a0)] (.imm (.int .i64 r))
  | n, a0, r, h => by
    unfold F86 at h
    refine FnC.goX mixed Try.func86 (by kernel_rfl) rfl ?_
    simp only [Try.ntmps86, List.length_cons, List.length_nil, List.replicate, List.cons_append, List.nil_append, Nat.reduceAdd, Nat.reduceSub]
    refine runX_seq ?_
    refine runX_regionC fun C hC => ?_
    try simp -implicitDefEqProofs (maxSteps := 4000000) (disch := first | omega | decide | (simp only [go_sem]; omega)) only [go_sem, ↓reduceIte]
    repeat (with_reducible refine And.intro (by first | assumption | omega | (simp; done) | (simp; omega)) ?_)
    refine toEnd hC ?_
    refine endX_seq ?_
    refine runX_seq ?_
    refine runX_regionC fun C hC => ?_
    try simp -implicitDefEqProofs (maxSteps := 4000000) (disch := first | omega | decide | (simp only [go_sem]; omega)) only [go_sem, ↓reduceIte]
    repeat (with_reducible refine And.intro (by first | assumption | omega | (simp; done) | (simp; omega)) ?_)
    refine toEnd hC ?_
    refine endX_seq ?_
    refine runX_seq ?_
    refine runX_seq ?_
    refine runX_regionC fun C hC => ?_
    simp only [runK_region, runK_draw, liteL, liteL2, dstsL, gL, List.getD_cons_zero, List.getD_cons_succ]
    try simp -implicitDefEqProofs (maxSteps := 4000000) (disch := first | omega | decide | (simp only [go_sem]; omega)) only [go_sem, ↓reduceIte]
    repeat (with_reducible refine And.intro (by first | assumption | omega | (simp; done) | (simp; omega)) ?_)
    refine bldG_of [.imm (.int .i32 (128 : Int)), .imm (.int .i32 (2048 : Int)), .imm (.int .i32 (65536 : Int))] (by kernel_rfl) ?_
    try simp -implicitDefEqProofs (maxSteps := 4000000) (disch := first | omega | decide | (simp only [go_sem]; omega)) only [go_sem, ↓reduceIte]
    repeat (with_reducible refine And.intro (by first | assumption | omega | (simp; done) | (simp; omega)) ?_)
    refine toEnd hC ?_
    refine endX_seq ?_
    refine runX_block ?_
    refine runX_unroll 3 ?_
    refine runX_seq ?_
    refine runX_regionC fun C hC => ?_
    try simp -implicitDefEqProofs (maxSteps := 4000000) (disch := first | omega | decide | (simp only [go_sem]; omega)) only [go_sem, ↓reduceIte]
    repeat (with_reducible refine And.intro (by first | assumption | omega | (simp; done) | (simp; omega)) ?_)
    refine toEnd hC ?_
    refine endX_seq ?_
    refine runX_seq ?_
    refine runX_condT rfl rfl ?_
    refine runX_skip ?_
    refine endX_seq ?_
    refine runX_meet [0, 3, 6, 7] (fun S => ∃ (x2 : Int), S = F86_S1 a0 x2 ∧ F86_J1 n a0 x2 = some r) ?_ ?_
    · refine runX_block ?_
      refine runX_seq ?_
      refine runX_regionC fun C hC => ?_
      try simp -implicitDefEqProofs (maxSteps := 4000000) (disch := first | omega | decide | (simp only [go_sem]; omega)) only [go_sem, ↓reduceIte]
      repeat (with_reducible refine And.intro (by first | assumption | omega | (simp; done) | (simp; omega)) ?_)
      refine toEnd hC ?_
      refine endX_seq ?_
      refine runX_seq ?_
      refine runX_regionC fun C hC => ?_
      try simp -implicitDefEqProofs (maxSteps := 4000000) (disch := first | omega | decide | (simp only [go_sem]; omega)) only [go_sem, ↓reduceIte]
      repeat (with_reducible refine And.intro (by first | assumption | omega | (simp; done) | (simp; omega)) ?_)
      refine toEnd hC ?_
      refine endX_seq ?_
      rcases iteB_some h with ⟨c1, h⟩ | ⟨c1, h⟩
      · refine runX_condT rfl c1 ?_
        refine runX_regionC fun C hC => ?_
        try simp -implicitDefEqProofs (maxSteps := 4000000) (disch := first | omega | decide | (simp only [go_sem]; omega)) only [go_sem, ↓reduceIte]
        repeat (with_reducible refine And.intro (by first | assumption | omega | (simp; done) | (simp; omega)) ?_)
        refine toEnd hC ?_
        refine endX_blk ?_
        refine endX_q (meetQ_normal ⟨F86_S1 a0 (2 : Int), ?_, (2 : Int), rfl, h⟩)
        simp only [F86_S1]
        (try simp -implicitDefEqProofs (maxSteps := 4000000) (disch := first | omega | decide | (simp only [go_sem]; omega)) only [go_sem, ↓reduceIte])
        first | exact leS_refl _ | (refine leS_le ?_ ?_ <;> first | exact leL_refl _ | exact leOs_refl _ | (repeat (first | exact leL_refl _ | refine leL_cons (by first | exact leT_refl _ | exact leT_virt | exact leT_junk _ | exact leT_sl | exact leT_sln | exact leT_nil | (refine leT_agg (by repeat (first | exact leL_refl _ | refine leL_cons (by first | exact leT_refl _ | exact leT_sl | exact leT_sln | exact leT_nil) ?_)))) ?_)))
      · refine runX_condF rfl c1 ?_
        refine runX_skip ?_
        refine endX_blk ?_
        refine endX_q (meetQ_normal ⟨F86_S1 a0 (1 : Int), ?_, (1 : Int), rfl, h⟩)
        simp only [F86_S1]
        (try simp -implicitDefEqProofs (maxSteps := 4000000) (disch := first | omega | decide | (simp only [go_sem]; omega)) only [go_sem, ↓reduceIte])
        first | exact leS_refl _ | (refine leS_le ?_ ?_ <;> first | exact leL_refl _ | exact leOs_refl _ | (repeat (first | exact leL_refl _ | refine leL_cons (by first | exact leT_refl _ | exact leT_virt | exact leT_junk _ | exact leT_sl | exact leT_sln | exact leT_nil | (refine leT_agg (by repeat (first | exact leL_refl _ | refine leL_cons (by first | exact leT_refl _ | exact leT_sl | exact leT_sln | exact leT_nil) ?_)))) ?_)))
    · clear h
      rintro S ⟨x2, rfl, h⟩
      rw [F86_J1] at h
      simp only [F86_S1]
      refine runX_regionC fun C hC => ?_
      try simp -implicitDefEqProofs (maxSteps := 4000000) (disch := first | omega | decide | (simp only [go_sem]; omega)) only [go_sem, ↓reduceIte]
      repeat (with_reducible refine And.intro (by first | assumption | omega | (simp; done) | (simp; omega)) ?_)
      refine toEnd hC ?_
      refine endX_lp ?_
      refine runX_seq ?_
      refine runX_regionC fun C hC => ?_
      try simp -implicitDefEqProofs (maxSteps := 4000000) (disch := first | omega | decide | (simp only [go_sem]; omega)) only [go_sem, ↓reduceIte]
      repeat (with_reducible refine And.intro (by first | assumption | omega | (simp; done) | (simp; omega)) ?_)
      refine toEnd hC ?_
      refine endX_seq ?_
      refine runX_seq ?_
      refine runX_condT rfl rfl ?_
      refine runX_skip ?_
      refine endX_seq ?_
      refine runX_meet [0, 3, 6, 7] (fun S => ∃ (x4 : Int), S = F86_S2 a0 x4 ∧ F86_J2 n a0 x4 = some r) ?_ ?_
      · refine runX_block ?_
        refine runX_seq ?_
        refine runX_regionC fun C hC => ?_
        try simp -implicitDefEqProofs (maxSteps := 4000000) (disch := first | omega | decide | (simp only [go_sem]; omega)) only [go_sem, ↓reduceIte]
        repeat (with_reducible refine And.intro (by first | assumption | omega | (simp; done) | (simp; omega)) ?_)
        refine toEnd hC ?_
        refine endX_seq ?_
        refine runX_seq ?_
        refine runX_regionC fun C hC => ?_
        try simp -implicitDefEqProofs (maxSteps := 4000000) (disch := first | omega | decide | (simp only [go_sem]; omega)) only [go_sem, ↓reduceIte]
        repeat (with_reducible refine And.intro (by first | assumption | omega | (simp; done) | (simp; omega)) ?_)
        refine toEnd hC ?_
        refine endX_seq ?_
        rcases iteB_some h with ⟨c3, h⟩ | ⟨c3, h⟩
        · refine runX_condT rfl c3 ?_
          refine runX_regionC fun C hC => ?_
          try simp -implicitDefEqProofs (maxSteps := 4000000) (disch := first | omega | decide | (simp only [go_sem]; omega)) only [go_sem, ↓reduceIte]
          repeat (with_reducible refine And.intro (by first | assumption | omega | (simp; done) | (simp; omega)) ?_)
          refine toEnd hC ?_
          refine endX_blk ?_
          refine endX_q (meetQ_normal ⟨F86_S2 a0 (IntKind.wrap .i64 (x2 + (1 : Int))), ?_, (IntKind.wrap .i64 (x2 + (1 : Int))), rfl, h⟩)
          simp only [F86_S2]
          (try simp -implicitDefEqProofs (maxSteps := 4000000) (disch := first | omega | decide | (simp only [go_sem]; omega)) only [go_sem, ↓reduceIte])
          first | exact leS_refl _ | (refine leS_le ?_ ?_ <;> first | exact leL_refl _ | exact leOs_refl _ | (repeat (first | exact leL_refl _ | refine leL_cons (by first | exact leT_refl _ | exact leT_virt | exact leT_junk _ | exact leT_sl | exact leT_sln | exact leT_nil | (refine leT_agg (by repeat (first | exact leL_refl _ | refine leL_cons (by first | exact leT_refl _ | exact leT_sl | exact leT_sln | exact leT_nil) ?_)))) ?_)))
        · refine runX_condF rfl c3 ?_
          refine runX_skip ?_
          refine endX_blk ?_
          refine endX_q (meetQ_normal ⟨F86_S2 a0 x2, ?_, x2, rfl, h⟩)
          simp only [F86_S2]
          (try simp -implicitDefEqProofs (maxSteps := 4000000) (disch := first | omega | decide | (simp only [go_sem]; omega)) only [go_sem, ↓reduceIte])
          first | exact leS_refl _ | (refine leS_le ?_ ?_ <;> first | exact leL_refl _ | exact leOs_refl _ | (repeat (first | exact leL_refl _ | refine leL_cons (by first | exact leT_refl _ | exact leT_virt | exact leT_junk _ | exact leT_sl | exact leT_sln | exact leT_nil | (refine leT_agg (by repeat (first | exact leL_refl _ | refine leL_cons (by first | exact leT_refl _ | exact leT_sl | exact leT_sln | exact leT_nil) ?_)))) ?_)))
      · clear h
        rintro S ⟨x4, rfl, h⟩
        rw [F86_J2] at h
        simp only [F86_S2]
        refine runX_regionC fun C hC => ?_
        try simp -implicitDefEqProofs (maxSteps := 4000000) (disch := first | omega | decide | (simp only [go_sem]; omega)) only [go_sem, ↓reduceIte]
        repeat (with_reducible refine And.intro (by first | assumption | omega | (simp; done) | (simp; omega)) ?_)
        refine toEnd hC ?_
        refine endX_lp ?_
        refine runX_seq ?_
        refine runX_regionC fun C hC => ?_
        try simp -implicitDefEqProofs (maxSteps := 4000000) (disch := first | omega | decide | (simp only [go_sem]; omega)) only [go_sem, ↓reduceIte]
        repeat (with_reducible refine And.intro (by first | assumption | omega | (simp; done) | (simp; omega)) ?_)
        refine toEnd hC ?_
        refine endX_seq ?_
        refine runX_seq ?_
        refine runX_condT rfl rfl ?_
        refine runX_skip ?_
        refine endX_seq ?_
        refine runX_meet [0, 3, 6, 7] (fun S => ∃ (x6 : Int), S = F86_S3 a0 x6 ∧ F86_J3 n a0 x6 = some r) ?_ ?_
        · refine runX_block ?_
          refine runX_seq ?_
          refine runX_regionC fun C hC => ?_
          try simp -implicitDefEqProofs (maxSteps := 4000000) (disch := first | omega | decide | (simp only [go_sem]; omega)) only [go_sem, ↓reduceIte]
          repeat (with_reducible refine And.intro (by first | assumption | omega | (simp; done) | (simp; omega)) ?_)
          refine toEnd hC ?_
          refine endX_seq ?_
          refine runX_seq ?_
          refine runX_regionC fun C hC => ?_
          try simp -implicitDefEqProofs (maxSteps := 4000000) (disch := first | omega | decide | (simp only [go_sem]; omega)) only [go_sem, ↓reduceIte]
          repeat (with_reducible refine And.intro (by first | assumption | omega | (simp; done) | (simp; omega)) ?_)
          refine toEnd hC ?_
          refine endX_seq ?_
          rcases iteB_some h with ⟨c5, h⟩ | ⟨c5, h⟩
          · refine runX_condT rfl c5 ?_
            refine runX_regionC fun C hC => ?_
            try simp -implicitDefEqProofs (maxSteps := 4000000) (disch := first | omega | decide | (simp only [go_sem]; omega)) only [go_sem, ↓reduceIte]
            repeat (with_reducible refine And.intro (by first | assumption | omega | (simp; done) | (simp; omega)) ?_)
            refine toEnd hC ?_
            refine endX_blk ?_
            refine endX_q (meetQ_normal ⟨F86_S3 a0 (IntKind.wrap .i64 (x4 + (1 : Int))), ?_, (IntKind.wrap .i64 (x4 + (1 : Int))), rfl, h⟩)
            simp only [F86_S3]
            (try simp -implicitDefEqProofs (maxSteps := 4000000) (disch := first | omega | decide | (simp only [go_sem]; omega)) only [go_sem, ↓reduceIte])
            first | exact leS_refl _ | (refine leS_le ?_ ?_ <;> first | exact leL_refl _ | exact leOs_refl _ | (repeat (first | exact leL_refl _ | refine leL_cons (by first | exact leT_refl _ | exact leT_virt | exact leT_junk _ | exact leT_sl | exact leT_sln | exact leT_nil | (refine leT_agg (by repeat (first | exact leL_refl _ | refine leL_cons (by first | exact leT_refl _ | exact leT_sl | exact leT_sln | exact leT_nil) ?_)))) ?_)))
          · refine runX_condF rfl c5 ?_
            refine runX_skip ?_
            refine endX_blk ?_
            refine endX_q (meetQ_normal ⟨F86_S3 a0 x4, ?_, x4, rfl, h⟩)
            simp only [F86_S3]
            (try simp -implicitDefEqProofs (maxSteps := 4000000) (disch := first | omega | decide | (simp only [go_sem]; omega)) only [go_sem, ↓reduceIte])
            first | exact leS_refl _ | (refine leS_le ?_ ?_ <;> first | exact leL_refl _ | exact leOs_refl _ | (repeat (first | exact leL_refl _ | refine leL_cons (by first | exact leT_refl _ | exact leT_virt | exact leT_junk _ | exact leT_sl | exact leT_sln | exact leT_nil | (refine leT_agg (by repeat (first | exact leL_refl _ | refine leL_cons (by first | exact leT_refl _ | exact leT_sl | exact leT_sln | exact leT_nil) ?_)))) ?_)))
        · clear h
          rintro S ⟨x6, rfl, h⟩
          rw [F86_J3] at h
          simp only [F86_S3]
          refine runX_regionC fun C hC => ?_
          try simp -implicitDefEqProofs (maxSteps := 4000000) (disch := first | omega | decide | (simp only [go_sem]; omega)) only [go_sem, ↓reduceIte]
          repeat (with_reducible refine And.intro (by first | assumption | omega | (simp; done) | (simp; omega)) ?_)
          refine toEnd hC ?_
          refine endX_lp ?_
          refine runX_seq ?_
          refine runX_regionC fun C hC => ?_
          try simp -implicitDefEqProofs (maxSteps := 4000000) (disch := first | omega | decide | (simp only [go_sem]; omega)) only [go_sem, ↓reduceIte]
          repeat (with_reducible refine And.intro (by first | assumption | omega | (simp; done) | (simp; omega)) ?_)
          refine toEnd hC ?_
          refine endX_seq ?_
          refine runX_seq ?_
          refine runX_condF rfl rfl ?_
          refine runX_exit ?_
          refine endX_seqE ?_
          refine endX_lpE ?_
          refine endX_blkE ?_
          refine endX_seq ?_
          refine runX_seq ?_
          refine runX_regionC fun C hC => ?_
          try simp -implicitDefEqProofs (maxSteps := 4000000) (disch := first | omega | decide | (simp only [go_sem]; omega)) only [go_sem, ↓reduceIte]
          repeat (with_reducible refine And.intro (by first | assumption | omega | (simp; done) | (simp; omega)) ?_)
          refine toEnd hC ?_
          refine endX_seq ?_
          refine runX_ret ?_
          refine endX_q ?_
          obtain rfl := Option.some.inj h
          show RetW _ _ _ _ _
          simp only [RetW]
          (try simp -implicitDefEqProofs (maxSteps := 4000000) (disch := first | omega | decide | (simp only [go_sem]; omega)) only [go_sem, ↓reduceIte])
          (try simp (disch := omega) only [if_pos, Nat.sub_zero])
          exact leT_refl _
end Go.Proofs.YtbamlphgolldlaaX

set_option linter.unusedVariables false
set_option linter.unusedSimpArgs false
namespace Go.Proofs.YtbamlphgolldlaaX
open Go Go.RowKit Go.Proofs
set_option maxRecDepth 100000
attribute [local go_sem ↓] stepsK_build stepsK_build0 stepsK_bs stepsK_bs0 appendS
attribute [local go_sem] String.reduceEq String.reduceNe reduceCtorEq Int.reduceEq Nat.reduceAdd Nat.reduceSub Nat.reduceMul Nat.reduceLT Nat.reduceLeDiff Nat.reduceEqDiff Nat.reduceBEq Int.reduceToNat Int.reduceLT Int.reduceLE Int.reduceGT Int.reduceGE Int.reduceAdd Int.reduceSub Int.reduceMul Int.reduceNeg Int.reduceBEq Int.reduceBNe Int.reducePow Int.reduceDiv Int.reduceMod Int.reduceTDiv Int.reduceTMod Int.reduceNatCast
/-! ### utf.Next -/
def F44_S1 (a0 : List UInt8) (v3 : Int) (x8 : Int) (x9 : Int) : St := ⟨[.imm (.string (bs a0)), .junk, .junk, .junk, .imm (.int .i64 v3), .fn 83 [], .imm (.int .i32 x8), .imm (.int .i64 x9), .junk, .junk, .junk, .junk, .junk, .junk, .junk, .junk, .junk, .junk, .junk, .junk, .junk, .junk, .junk, .junk, .junk, .junk, .junk, .junk, .junk, .junk, .junk, .junk, .junk, .junk, .junk, .junk, .junk, .junk, .junk, .junk, .junk, .junk, .junk, .junk, .junk, .junk, .junk, .junk, .junk, .junk, .junk, .junk, .junk, .junk, .junk, .junk, .junk], []⟩
def F44_L1 : Nat → (List UInt8) → (Int) → (Int) → (Int) → Option ((Int) × (Int))
  | 0, _, _, _, _ => none
  | m1 + 1, a0, v3, x8, x9 => iteB (decide (x9 < v3)) (grd (0 ≤ x9 ∧ x9 < (a0.length : Int)) ((F83 m1 ((a0.getD x9.toNat 0).toNat : Int)).bind fun v12 => iteB (!v12) (some ((0 : Int), (0 : Int))) (grd (0 ≤ x9 ∧ x9 < (a0.length : Int)) (F44_L1 m1 a0 v3 (IntKind.wrap .i32 (bOr .i32 (IntKind.wrap .i32 (bShl .i32 x8 6)) (IntKind.wrap .i32 ((IntKind.wrap .u8 (bAnd .u8 ((a0.getD x9.toNat 0).toNat : Int) (63 : Int))))))) (IntKind.wrap .i64 (x9 + (1 : Int))))))) ((F85 m1 x8).bind fun v15 => iteB (!v15) (some ((0 : Int), (0 : Int))) ((F86 m1 x8).bind fun v17 => iteB (v17 != v3) (some ((0 : Int), (0 : Int))) (some (x8, v3))))
def F44 (n : Nat) (a0 : List UInt8) : Option ((Int) × (Int)) := iteB (a0 == []) (some ((0 : Int), (0 : Int))) (grd ((0 : Int) < (a0.length : Int)) ((F82 n ((a0.getD (0 : Int).toNat 0).toNat : Int)).bind fun v3 => iteB (v3 == (0 : Int)) (some ((0 : Int), (0 : Int))) (iteB (decide ((a0.length : Int) < v3)) (some ((0 : Int), (0 : Int))) (grd ((0 : Int) < (a0.length : Int)) ((F84 n v3).bind fun v7 => F44_L1 n a0 v3 (IntKind.wrap .i32 (bAndNot .i32 (IntKind.wrap .i32 (((a0.getD (0 : Int).toNat 0).toNat : Int))) v7)) (1 : Int))))))
set_option maxHeartbeats 4000000 in
theorem F44_ok : ∀ (n : Nat) (a0 : List UInt8) (r : (Int) × (Int)), F44 n a0 = some r → FnC Try.prog 44 [.imm (.string (bs a0))] (.tup [.imm (.int .i32 r.1), .imm (.int .i64 r.2)])
  | n, a0, r, h => by
    unfold F44 at h
    refine FnC.goX mixed Try.func44 (by kernel_rfl) rfl ?_
    simp only [Try.ntmps44, List.length_cons, List.length_nil, List.replicate, List.cons_append, List.nil_append, Nat.reduceAdd, Nat.reduceSub]
    refine runX_seq ?_
    refine runX_regionC fun C hC => ?_
    try simp -implicitDefEqProofs (maxSteps := 4000000) (disch := first | omega | decide | (simp only [go_sem]; omega)) only [go_sem, ↓reduceIte]
    repeat (with_reducible refine And.intro (by first | assumption | omega | (simp; done) | (simp; omega)) ?_)
    refine toEnd hC ?_
    refine endX_seq ?_
    refine runX_seq ?_
    refine runX_seq ?_
    refine runX_regionC fun C hC => ?_
    try simp -implicitDefEqProofs (maxSteps := 4000000) (disch := first | omega | decide | (simp only [go_sem]; omega)) only [go_sem, ↓reduceIte]
    repeat (with_reducible refine And.intro (by first | assumption | omega | (simp; done) | (simp; omega)) ?_)
    refine toEnd hC ?_
    refine endX_seq ?_
    rcases iteB_some h with ⟨c1, h⟩ | ⟨c1, h⟩
    · refine runX_condT rfl c1 ?_
      refine runX_seq ?_
      refine runX_regionC fun C hC => ?_
      try simp -implicitDefEqProofs (maxSteps := 4000000) (disch := first | omega | decide | (simp only [go_sem]; omega)) only [go_sem, ↓reduceIte]
      repeat (with_reducible refine And.intro (by first | assumption | omega | (simp; done) | (simp; omega)) ?_)
      refine toEnd hC ?_
      refine endX_seq ?_
      refine runX_ret ?_
      refine endX_seqR ?_
      refine endX_q ?_
      obtain rfl := Option.some.inj h
      show RetW _ _ _ _ _
      simp only [RetW]
      (try simp -implicitDefEqProofs (maxSteps := 4000000) (disch := first | omega | decide | (simp only [go_sem]; omega)) only [go_sem, ↓reduceIte])
      (try simp (disch := omega) only [if_pos, Nat.sub_zero])
      exact leT_refl _
    · refine runX_condF rfl c1 ?_
      refine runX_skip ?_
      refine endX_seq ?_
      refine runX_seq ?_
      refine runX_regionC fun C hC => ?_
      obtain ⟨g2, h⟩ := grd_some h
      obtain ⟨v3, h3, h⟩ := bnd_some h
      try simp -implicitDefEqProofs (maxSteps := 4000000) (disch := first | omega | decide | (simp only [go_sem]; omega)) only [go_sem, ↓reduceIte]
      repeat (with_reducible refine And.intro (by first | assumption | omega | (simp; done) | (simp; omega)) ?_)
      refine callG_X (by first | rfl | (simp only [go_sem]; done) | (simp only [closedL, closedT, Bool.and_true]; exact closedL_map _ (fun _ => by first | rfl | (simp only [go_sem]; done)) _)) (F82_ok n ((a0.getD (0 : Int).toNat 0).toNat : Int) _ h3) (by repeat (first | exact leL_refl _ | refine leL_cons (by first | exact leT_refl _ | exact leT_virt | exact leT_junk _ | exact leT_sl | exact leT_sln | exact leT_nil | (refine leT_agg (by repeat (first | exact leL_refl _ | refine leL_cons (by first | exact leT_refl _ | exact leT_sl | exact leT_sln | exact leT_nil) ?_)))) ?_)) ?_
      try simp -implicitDefEqProofs (maxSteps := 4000000) (disch := first | omega | decide | (simp only [go_sem]; omega)) only [go_sem, ↓reduceIte]
      repeat (with_reducible refine And.intro (by first | assumption | omega | (simp; done) | (simp; omega)) ?_)
      refine toEnd hC ?_
      refine endX_seq ?_
      refine runX_seq ?_
      refine runX_seq ?_
      refine runX_regionC fun C hC => ?_
      try simp -implicitDefEqProofs (maxSteps := 4000000) (disch := first | omega | decide | (simp only [go_sem]; omega)) only [go_sem, ↓reduceIte]
      repeat (with_reducible refine And.intro (by first | assumption | omega | (simp; done) | (simp; omega)) ?_)
      rcases iteB_some h with ⟨c4, h⟩ | ⟨c4, h⟩
      · refine guardK_F c4 ?_
        try simp -implicitDefEqProofs (maxSteps := 4000000) (disch := first | omega | decide | (simp only [go_sem]; omega)) only [go_sem, ↓reduceIte]
        repeat (with_reducible refine And.intro (by first | assumption | omega | (simp; done) | (simp; omega)) ?_)
        refine toEnd hC ?_
        refine endX_seq ?_
        refine runX_condT rfl rfl ?_
        refine runX_seq ?_
        refine runX_regionC fun C hC => ?_
        try simp -implicitDefEqProofs (maxSteps := 4000000) (disch := first | omega | decide | (simp only [go_sem]; omega)) only [go_sem, ↓reduceIte]
        repeat (with_reducible refine And.intro (by first | assumption | omega | (simp; done) | (simp; omega)) ?_)
        refine toEnd hC ?_
        refine endX_seq ?_
        refine runX_ret ?_
        refine endX_seqR ?_
        refine endX_q ?_
        obtain rfl := Option.some.inj h
        show RetW _ _ _ _ _
        simp only [RetW]
        (try simp -implicitDefEqProofs (maxSteps := 4000000) (disch := first | omega | decide | (simp only [go_sem]; omega)) only [go_sem, ↓reduceIte])
        (try simp (disch := omega) only [if_pos, Nat.sub_zero])
        exact leT_refl _
      · refine guardK_T c4 ?_
        try simp -implicitDefEqProofs (maxSteps := 4000000) (disch := first | omega | decide | (simp only [go_sem]; omega)) only [go_sem, ↓reduceIte]
        repeat (with_reducible refine And.intro (by first | assumption | omega | (simp; done) | (simp; omega)) ?_)
        refine toEnd hC ?_
        refine endX_seq ?_
        rcases iteB_some h with ⟨c5, h⟩ | ⟨c5, h⟩
        · refine runX_condT rfl c5 ?_
          refine runX_seq ?_
          refine runX_regionC fun C hC => ?_
          try simp -implicitDefEqProofs (maxSteps := 4000000) (disch := first | omega | decide | (simp only [go_sem]; omega)) only [go_sem, ↓reduceIte]
          repeat (with_reducible refine And.intro (by first | assumption | omega | (simp; done) | (simp; omega)) ?_)
          refine toEnd hC ?_
          refine endX_seq ?_
          refine runX_ret ?_
          refine endX_seqR ?_
          refine endX_q ?_
          obtain rfl := Option.some.inj h
          show RetW _ _ _ _ _
          simp only [RetW]
          (try simp -implicitDefEqProofs (maxSteps := 4000000) (disch := first | omega | decide | (simp only [go_sem]; omega)) only [go_sem, ↓reduceIte])
          (try simp (disch := omega) only [if_pos, Nat.sub_zero])
          exact leT_refl _
        · refine runX_condF rfl c5 ?_
          refine runX_skip ?_
          refine endX_seq ?_
          refine runX_seq ?_
          refine runX_regionC fun C hC => ?_
          try simp -implicitDefEqProofs (maxSteps := 4000000) (disch := first | omega | decide | (simp only [go_sem]; omega)) only [go_sem, ↓reduceIte]
          repeat (with_reducible refine And.intro (by first | assumption | omega | (simp; done) | (simp; omega)) ?_)
          refine toEnd hC ?_
          refine endX_seq ?_
          refine runX_seq ?_
          refine runX_drawC mixed (by kernel_rfl) fun C hC => ?_
          obtain ⟨g6, h⟩ := grd_some h
          obtain ⟨v7, h7, h⟩ := bnd_some h
          try simp -implicitDefEqProofs (maxSteps := 4000000) (disch := first | omega | decide | (simp only [go_sem]; omega)) only [go_sem, ↓reduceIte]
          repeat (with_reducible refine And.intro (by first | assumption | omega | (simp; done) | (simp; omega)) ?_)
          refine callD_X (F84_ok n v3 _ h7) (by repeat (first | exact leL_refl _ | refine leL_cons (by first | exact leT_refl _ | exact leT_virt | exact leT_junk _ | exact leT_sl | exact leT_sln | exact leT_nil | (refine leT_agg (by repeat (first | exact leL_refl _ | refine leL_cons (by first | exact leT_refl _ | exact leT_sl | exact leT_sln | exact leT_nil) ?_)))) ?_)) ?_
          try simp -implicitDefEqProofs (maxSteps := 4000000) (disch := first | omega | decide | (simp only [go_sem]; omega)) only [go_sem, ↓reduceIte]
          repeat (with_reducible refine And.intro (by first | assumption | omega | (simp; done) | (simp; omega)) ?_)
          refine toEnd hC ?_
          refine endX_seq ?_
          refine runX_seq ?_
          refine runX_seq ?_
          refine runX_regionC fun C hC => ?_
          try simp -implicitDefEqProofs (maxSteps := 4000000) (disch := first | omega | decide | (simp only [go_sem]; omega)) only [go_sem, ↓reduceIte]
          repeat (with_reducible refine And.intro (by first | assumption | omega | (simp; done) | (simp; omega)) ?_)
          refine toEnd hC ?_
          refine endX_seq ?_
          refine runX_block ?_
          refine runX_loop [0, 4, 5, 6, 7] (fun m S => ∃ (x8 : Int) (x9 : Int), S = F44_S1 a0 v3 x8 x9 ∧ m ≤ n ∧ F44_L1 m a0 v3 x8 x9 = some r) n ⟨F44_S1 a0 v3 (IntKind.wrap .i32 (bAndNot .i32 (IntKind.wrap .i32 (((a0.getD (0 : Int).toNat 0).toNat : Int))) v7)) (1 : Int), ?_, (IntKind.wrap .i32 (bAndNot .i32 (IntKind.wrap .i32 (((a0.getD (0 : Int).toNat 0).toNat : Int))) v7)), (1 : Int), rfl, Nat.le_refl _, h⟩ ?_
          · simp only [F44_S1]
            (try simp -implicitDefEqProofs (maxSteps := 4000000) (disch := first | omega | decide | (simp only [go_sem]; omega)) only [go_sem, ↓reduceIte])
            first | exact leS_refl _ | (refine leS_le ?_ ?_ <;> first | exact leL_refl _ | exact leOs_refl _ | (repeat (first | exact leL_refl _ | refine leL_cons (by first | exact leT_refl _ | exact leT_virt | exact leT_junk _ | exact leT_sl | exact leT_sln | exact leT_nil | (refine leT_agg (by repeat (first | exact leL_refl _ | refine leL_cons (by first | exact leT_refl _ | exact leT_sl | exact leT_sln | exact leT_nil) ?_)))) ?_)))
          · clear h
            rintro m1 S ⟨x8, x9, rfl, hm1, h⟩
            cases m1 with
            | zero => first | cases (show (none : Option _) = some _ from h) | (rw [F44_L1] at h; cases h)
            | succ m1 =>
              rw [F44_L1] at h
              simp only [F44_S1]
              refine runX_seq ?_
              refine runX_seq ?_
              refine runX_regionC fun C hC => ?_
              try simp -implicitDefEqProofs (maxSteps := 4000000) (disch := first | omega | decide | (simp only [go_sem]; omega)) only [go_sem, ↓reduceIte]
              repeat (with_reducible refine And.intro (by first | assumption | omega | (simp; done) | (simp; omega)) ?_)
              refine toEnd hC ?_
              refine endX_seq ?_
              rcases iteB_some h with ⟨c10, h⟩ | ⟨c10, h⟩
              · refine runX_condT rfl c10 ?_
                refine runX_skip ?_
                refine endX_seq ?_
                refine runX_seq ?_
                refine runX_block ?_
                refine runX_seq ?_
                refine runX_seq ?_
                refine runX_regionC fun C hC => ?_
                obtain ⟨g11, h⟩ := grd_some h
                obtain ⟨v12, h12, h⟩ := bnd_some h
                try simp -implicitDefEqProofs (maxSteps := 4000000) (disch := first | omega | decide | (simp only [go_sem]; omega)) only [go_sem, ↓reduceIte]
                repeat (with_reducible refine And.intro (by first | assumption | omega | (simp; done) | (simp; omega)) ?_)
                refine callG_X (by first | rfl | (simp only [go_sem]; done) | (simp only [closedL, closedT, Bool.and_true]; exact closedL_map _ (fun _ => by first | rfl | (simp only [go_sem]; done)) _)) (F83_ok m1 ((a0.getD x9.toNat 0).toNat : Int) _ h12) (by repeat (first | exact leL_refl _ | refine leL_cons (by first | exact leT_refl _ | exact leT_virt | exact leT_junk _ | exact leT_sl | exact leT_sln | exact leT_nil | (refine leT_agg (by repeat (first | exact leL_refl _ | refine leL_cons (by first | exact leT_refl _ | exact leT_sl | exact leT_sln | exact leT_nil) ?_)))) ?_)) ?_
                try simp -implicitDefEqProofs (maxSteps := 4000000) (disch := first | omega | decide | (simp only [go_sem]; omega)) only [go_sem, ↓reduceIte]
                repeat (with_reducible refine And.intro (by first | assumption | omega | (simp; done) | (simp; omega)) ?_)
                refine toEnd hC ?_
                refine endX_seq ?_
                rcases iteB_some h with ⟨c13, h⟩ | ⟨c13, h⟩
                · refine runX_condT rfl c13 ?_
                  refine runX_seq ?_
                  refine runX_regionC fun C hC => ?_
                  try simp -implicitDefEqProofs (maxSteps := 4000000) (disch := first | omega | decide | (simp only [go_sem]; omega)) only [go_sem, ↓reduceIte]
                  repeat (with_reducible refine And.intro (by first | assumption | omega | (simp; done) | (simp; omega)) ?_)
                  refine toEnd hC ?_
                  refine endX_seq ?_
                  refine runX_ret ?_
                  refine endX_seqR ?_
                  refine endX_blkR ?_
                  refine endX_seqR ?_
                  refine endX_q (roundQ_ret ?_)
                  refine endX_blkR ?_
                  refine endX_seqR ?_
                  refine endX_q ?_
                  obtain rfl := Option.some.inj h
                  show RetW _ _ _ _ _
                  simp only [RetW]
                  (try simp -implicitDefEqProofs (maxSteps := 4000000) (disch := first | omega | decide | (simp only [go_sem]; omega)) only [go_sem, ↓reduceIte])
                  (try simp (disch := omega) only [if_pos, Nat.sub_zero])
                  exact leT_refl _
                · refine runX_condF rfl c13 ?_
                  refine runX_skip ?_
                  refine endX_seq ?_
                  refine runX_regionC fun C hC => ?_
                  obtain ⟨g14, h⟩ := grd_some h
                  try simp -implicitDefEqProofs (maxSteps := 4000000) (disch := first | omega | decide | (simp only [go_sem]; omega)) only [go_sem, ↓reduceIte]
                  repeat (with_reducible refine And.intro (by first | assumption | omega | (simp; done) | (simp; omega)) ?_)
                  refine toEnd hC ?_
                  refine endX_blk ?_
                  refine endX_seq ?_
                  refine runX_regionC fun C hC => ?_
                  try simp -implicitDefEqProofs (maxSteps := 4000000) (disch := first | omega | decide | (simp only [go_sem]; omega)) only [go_sem, ↓reduceIte]
                  repeat (with_reducible refine And.intro (by first | assumption | omega | (simp; done) | (simp; omega)) ?_)
                  refine toEnd hC ?_
                  refine endX_q (roundQ_normal ⟨m1, by omega, F44_S1 a0 v3 (IntKind.wrap .i32 (bOr .i32 (IntKind.wrap .i32 (bShl .i32 x8 6)) (IntKind.wrap .i32 ((IntKind.wrap .u8 (bAnd .u8 ((a0.getD x9.toNat 0).toNat : Int) (63 : Int))))))) (IntKind.wrap .i64 (x9 + (1 : Int))), ?_, (IntKind.wrap .i32 (bOr .i32 (IntKind.wrap .i32 (bShl .i32 x8 6)) (IntKind.wrap .i32 ((IntKind.wrap .u8 (bAnd .u8 ((a0.getD x9.toNat 0).toNat : Int) (63 : Int))))))), (IntKind.wrap .i64 (x9 + (1 : Int))), rfl, by omega, h⟩)
                  simp only [F44_S1]
                  (try simp -implicitDefEqProofs (maxSteps := 4000000) (disch := first | omega | decide | (simp only [go_sem]; omega)) only [go_sem, ↓reduceIte])
                  first | exact leS_refl _ | (refine leS_le ?_ ?_ <;> first | exact leL_refl _ | exact leOs_refl _ | (repeat (first | exact leL_refl _ | refine leL_cons (by first | exact leT_refl _ | exact leT_virt | exact leT_junk _ | exact leT_sl | exact leT_sln | exact leT_nil | (refine leT_agg (by repeat (first | exact leL_refl _ | refine leL_cons (by first | exact leT_refl _ | exact leT_sl | exact leT_sln | exact leT_nil) ?_)))) ?_)))
              · refine runX_condF rfl c10 ?_
                refine runX_exit ?_
                refine endX_seqE ?_
                refine endX_q (roundQ_exit ?_)
                refine endX_blkE ?_
                refine endX_seq ?_
                refine runX_seq ?_
                refine runX_seq ?_
                refine runX_regionC fun C hC => ?_
                obtain ⟨v15, h15, h⟩ := bnd_some h
                try simp -implicitDefEqProofs (maxSteps := 4000000) (disch := first | omega | decide | (simp only [go_sem]; omega)) only [go_sem, ↓reduceIte]
                repeat (with_reducible refine And.intro (by first | assumption | omega | (simp; done) | (simp; omega)) ?_)
                refine callG_X (by first | rfl | (simp only [go_sem]; done) | (simp only [closedL, closedT, Bool.and_true]; exact closedL_map _ (fun _ => by first | rfl | (simp only [go_sem]; done)) _)) (F85_ok m1 x8 _ h15) (by repeat (first | exact leL_refl _ | refine leL_cons (by first | exact leT_refl _ | exact leT_virt | exact leT_junk _ | exact leT_sl | exact leT_sln | exact leT_nil | (refine leT_agg (by repeat (first | exact leL_refl _ | refine leL_cons (by first | exact leT_refl _ | exact leT_sl | exact leT_sln | exact leT_nil) ?_)))) ?_)) ?_
                try simp -implicitDefEqProofs (maxSteps := 4000000) (disch := first | omega | decide | (simp only [go_sem]; omega)) only [go_sem, ↓reduceIte]
                repeat (with_reducible refine And.intro (by first | assumption | omega | (simp; done) | (simp; omega)) ?_)
                rcases iteB_some h with ⟨c16, h⟩ | ⟨c16, h⟩
                · refine guardK_F c16 ?_
                  try simp -implicitDefEqProofs (maxSteps := 4000000) (disch := first | omega | decide | (simp only [go_sem]; omega)) only [go_sem, ↓reduceIte]
                  repeat (with_reducible refine And.intro (by first | assumption | omega | (simp; done) | (simp; omega)) ?_)
                  refine toEnd hC ?_
                  refine endX_seq ?_
                  refine runX_condT rfl rfl ?_
                  refine runX_seq ?_
                  refine runX_regionC fun C hC => ?_
                  try simp -implicitDefEqProofs (maxSteps := 4000000) (disch := first | omega | decide | (simp only [go_sem]; omega)) only [go_sem, ↓reduceIte]
                  repeat (with_reducible refine And.intro (by first | assumption | omega | (simp; done) | (simp; omega)) ?_)
                  refine toEnd hC ?_
                  refine endX_seq ?_
                  refine runX_ret ?_
                  refine endX_seqR ?_
                  refine endX_q ?_
                  obtain rfl := Option.some.inj h
                  show RetW _ _ _ _ _
                  simp only [RetW]
                  (try simp -implicitDefEqProofs (maxSteps := 4000000) (disch := first | omega | decide | (simp only [go_sem]; omega)) only [go_sem, ↓reduceIte])
                  (try simp (disch := omega) only [if_pos, Nat.sub_zero])
                  exact leT_refl _
                · refine guardK_T c16 ?_
                  obtain ⟨v17, h17, h⟩ := bnd_some h
                  try simp -implicitDefEqProofs (maxSteps := 4000000) (disch := first | omega | decide | (simp only [go_sem]; omega)) only [go_sem, ↓reduceIte]
                  repeat (with_reducible refine And.intro (by first | assumption | omega | (simp; done) | (simp; omega)) ?_)
                  refine callG_X (by first | rfl | (simp only [go_sem]; done) | (simp only [closedL, closedT, Bool.and_true]; exact closedL_map _ (fun _ => by first | rfl | (simp only [go_sem]; done)) _)) (F86_ok m1 x8 _ h17) (by repeat (first | exact leL_refl _ | refine leL_cons (by first | exact leT_refl _ | exact leT_virt | exact leT_junk _ | exact leT_sl | exact leT_sln | exact leT_nil | (refine leT_agg (by repeat (first | exact leL_refl _ | refine leL_cons (by first | exact leT_refl _ | exact leT_sl | exact leT_sln | exact leT_nil) ?_)))) ?_)) ?_
                  try simp -implicitDefEqProofs (maxSteps := 4000000) (disch := first | omega | decide | (simp only [go_sem]; omega)) only [go_sem, ↓reduceIte]
                  repeat (with_reducible refine And.intro (by first | assumption | omega | (simp; done) | (simp; omega)) ?_)
                  refine toEnd hC ?_
                  refine endX_seq ?_
                  rcases iteB_some h with ⟨c18, h⟩ | ⟨c18, h⟩
                  · refine runX_condT rfl c18 ?_
                    refine runX_seq ?_
                    refine runX_regionC fun C hC => ?_
                    try simp -implicitDefEqProofs (maxSteps := 4000000) (disch := first | omega | decide | (simp only [go_sem]; omega)) only [go_sem, ↓reduceIte]
                    repeat (with_reducible refine And.intro (by first | assumption | omega | (simp; done) | (simp; omega)) ?_)
                    refine toEnd hC ?_
                    refine endX_seq ?_
                    refine runX_ret ?_
                    refine endX_seqR ?_
                    refine endX_q ?_
                    obtain rfl := Option.some.inj h
                    show RetW _ _ _ _ _
                    simp only [RetW]
                    (try simp -implicitDefEqProofs (maxSteps := 4000000) (disch := first | omega | decide | (simp only [go_sem]; omega)) only [go_sem, ↓reduceIte])
                    (try simp (disch := omega) only [if_pos, Nat.sub_zero])
                    exact leT_refl _
                  · refine runX_condF rfl c18 ?_
                    refine runX_skip ?_
                    refine endX_seq ?_
                    refine runX_seq ?_
                    refine runX_regionC fun C hC => ?_
                    try simp -implicitDefEqProofs (maxSteps := 4000000) (disch := first | omega | decide | (simp only [go_sem]; omega)) only [go_sem, ↓reduceIte]
                    repeat (with_reducible refine And.intro (by first | assumption | omega | (simp; done) | (simp; omega)) ?_)
                    refine toEnd hC ?_
                    refine endX_seq ?_
                    refine runX_ret ?_
                    refine endX_q ?_
                    obtain rfl := Option.some.inj h
                    show RetW _ _ _ _ _
                    simp only [RetW]
                    (try simp -implicitDefEqProofs (maxSteps := 4000000) (disch := first | omega | decide | (simp only [go_sem]; omega)) only [go_sem, ↓reduceIte])
                    (try simp (disch := omega) only [if_pos, Nat.sub_zero])
                    exact leT_refl _
end Go.Proofs.YtbamlphgolldlaaX

set_option linter.unusedVariables false
set_option linter.unusedSimpArgs false
namespace Go.Proofs.YtbamlphgolldlaaX
open Go Go.RowKit Go.Proofs
set_option maxRecDepth 100000
attribute [local go_sem ↓] stepsK_build stepsK_build0 stepsK_bs stepsK_bs0 appendS
attribute [local go_sem] String.reduceEq String.reduceNe reduceCtorEq Int.reduceEq Nat.reduceAdd Nat.reduceSub Nat.reduceMul Nat.reduceLT Nat.reduceLeDiff Nat.reduceEqDiff Nat.reduceBEq Int.reduceToNat Int.reduceLT Int.reduceLE Int.reduceGT Int.reduceGE Int.reduceAdd Int.reduceSub Int.reduceMul Int.reduceNeg Int.reduceBEq Int.reduceBNe Int.reducePow Int.reduceDiv Int.reduceMod Int.reduceTDiv Int.reduceTMod Int.reduceNatCast
/-! ### utf.Put -/
def F81_S1 (a1 : Int) (x8 : Int) (x9 : List (Int)) : St := ⟨[.junk, .imm (.int .i32 a1), .junk, .junk, .junk, .rsl 0 1 0 x9.length, .junk, .imm (.int .i64 x8), .junk, .junk, .junk, .junk, .junk, .junk, .junk, .junk, .junk, .junk, .junk, .junk, .junk, .junk, .junk, .junk, .junk, .junk, .junk, .junk, .junk, .junk, .junk, .junk, .junk, .junk, .junk, .junk, .junk, .junk, .junk, .junk, .junk, .junk, .junk, .junk, .junk, .junk], [some (.buf 5 1 (List.map byteT x9) 0)]⟩
def F81_L1 : Nat → (Int) → (Int) → (List (Int)) → Option (List (Int))
  | 0, _, _, _ => none
  | m1 + 1, a1, x8, x9 => iteB (decide ((0 : Int) ≤ x8)) (grd (0 ≤ (IntKind.wrap .i64 ((6 : Int) * x8))) (grd ((x9.length + 1) ≤ 549755813888) (F81_L1 m1 a1 (IntKind.wrap .i64 (x8 - (1 : Int))) (x9 ++ [(IntKind.wrap .u8 ((IntKind.wrap .i32 (bOr .i32 (128 : Int) (IntKind.wrap .i32 (bAnd .i32 (bShr .i32 a1 ((IntKind.wrap .i64 ((6 : Int) * x8)).toNat)) (63 : Int)))))))])))) (some x9)
def F81 (n : Nat) (a0 : List (Int)) (a1 : Int) : Option (List (Int)) := grd (a0.length ≤ 549755813888) ((F85 n a1).bind fun v2 => iteB (!v2) (some a0) ((F86 n a1).bind fun v4 => (F84 n v4).bind fun v5 => grd (0 ≤ (IntKind.wrap .i64 ((6 : Int) * (IntKind.wrap .i64 (v4 - (1 : Int)))))) (grd ((a0.length + 1) ≤ 549755813888) (F81_L1 n a1 (IntKind.wrap .i64 (v4 - (2 : Int))) (a0 ++ [(IntKind.wrap .u8 ((IntKind.wrap .i32 (bOr .i32 v5 (bShr .i32 a1 ((IntKind.wrap .i64 ((6 : Int) * (IntKind.wrap .i64 (v4 - (1 : Int))))).toNat))))))])))))
set_option maxHeartbeats 4000000 in
theorem F81_ok : ∀ (n : Nat) (a0 : List (Int)) (a1 : Int) (r : List (Int)), F81 n a0 a1 = some r → FnC Try.prog 81 [.sl 1 false (List.map byteT a0), .imm (.int .i32 a1)] (.sl 1 false (List.map byteT r))
  | n, a0, a1, r, h => by
    unfold F81 at h
    refine FnC.goX mixed Try.func81 (by kernel_rfl) rfl ?_
    simp only [Try.ntmps81, List.length_cons, List.length_nil, List.replicate, List.cons_append, List.nil_append, Nat.reduceAdd, Nat.reduceSub]
    refine runX_seq ?_
    refine runX_regionC fun C hC => ?_
    try simp -implicitDefEqProofs (maxSteps := 4000000) (disch := first | omega | decide | (simp only [go_sem]; omega)) only [go_sem, ↓reduceIte]
    repeat (with_reducible refine And.intro (by first | assumption | omega | (simp; done) | (simp; omega)) ?_)
    refine toEnd hC ?_
    refine endX_seq ?_
    refine runX_seq ?_
    refine runX_regionC fun C hC => ?_
    simp only [runK_region, runK_draw, liteL, liteL2, dstsL, gL, List.getD_cons_zero, List.getD_cons_succ]
    try simp -implicitDefEqProofs (maxSteps := 4000000) (disch := first | omega | decide | (simp only [go_sem]; omega)) only [go_sem, ↓reduceIte]
    repeat (with_reducible refine And.intro (by first | assumption | omega | (simp; done) | (simp; omega)) ?_)
    refine bs_go <| buildX_val ?_
    obtain ⟨g1, h⟩ := grd_some h
    try simp -implicitDefEqProofs (maxSteps := 4000000) (disch := first | omega | decide | (simp only [go_sem]; omega)) only [go_sem, ↓reduceIte]
    repeat (with_reducible refine And.intro (by first | assumption | omega | (simp; done) | (simp; omega)) ?_)
    refine toEnd hC ?_
    refine endX_seq ?_
    refine runX_seq ?_
    refine runX_seq ?_
    refine runX_regionC fun C hC => ?_
    obtain ⟨v2, h2, h⟩ := bnd_some h
    try simp -implicitDefEqProofs (maxSteps := 4000000) (disch := first | omega | decide | (simp only [go_sem]; omega)) only [go_sem, ↓reduceIte]
    repeat (with_reducible refine And.intro (by first | assumption | omega | (simp; done) | (simp; omega)) ?_)
    refine callG_X (by first | rfl | (simp only [go_sem]; done) | (simp only [closedL, closedT, Bool.and_true]; exact closedL_map _ (fun _ => by first | rfl | (simp only [go_sem]; done)) _)) (F85_ok n a1 _ h2) (by repeat (first | exact leL_refl _ | refine leL_cons (by first | exact leT_refl _ | exact leT_virt | exact leT_junk _ | exact leT_sl | exact leT_sln | exact leT_nil | (refine leT_agg (by repeat (first | exact leL_refl _ | refine leL_cons (by first | exact leT_refl _ | exact leT_sl | exact leT_sln | exact leT_nil) ?_)))) ?_)) ?_
    try simp -implicitDefEqProofs (maxSteps := 4000000) (disch := first | omega | decide | (simp only [go_sem]; omega)) only [go_sem, ↓reduceIte]
    repeat (with_reducible refine And.intro (by first | assumption | omega | (simp; done) | (simp; omega)) ?_)
    refine toEnd hC ?_
    refine endX_seq ?_
    rcases iteB_some h with ⟨c3, h⟩ | ⟨c3, h⟩
    · refine runX_condT rfl c3 ?_
      refine runX_seq ?_
      refine runX_regionC fun C hC => ?_
      try simp -implicitDefEqProofs (maxSteps := 4000000) (disch := first | omega | decide | (simp only [go_sem]; omega)) only [go_sem, ↓reduceIte]
      repeat (with_reducible refine And.intro (by first | assumption | omega | (simp; done) | (simp; omega)) ?_)
      refine toEnd hC ?_
      refine endX_seq ?_
      refine runX_ret ?_
      refine endX_seqR ?_
      refine endX_q ?_
      obtain rfl := Option.some.inj h
      show RetW _ _ _ _ _
      simp only [RetW]
      (try simp -implicitDefEqProofs (maxSteps := 4000000) (disch := first | omega | decide | (simp only [go_sem]; omega)) only [go_sem, ↓reduceIte])
      (try simp (disch := omega) only [if_pos, Nat.sub_zero])
      exact leT_refl _
    · refine runX_condF rfl c3 ?_
      refine runX_skip ?_
      refine endX_seq ?_
      refine runX_seq ?_
      refine runX_regionC fun C hC => ?_
      obtain ⟨v4, h4, h⟩ := bnd_some h
      try simp -implicitDefEqProofs (maxSteps := 4000000) (disch := first | omega | decide | (simp only [go_sem]; omega)) only [go_sem, ↓reduceIte]
      repeat (with_reducible refine And.intro (by first | assumption | omega | (simp; done) | (simp; omega)) ?_)
      refine callG_X (by first | rfl | (simp only [go_sem]; done) | (simp only [closedL, closedT, Bool.and_true]; exact closedL_map _ (fun _ => by first | rfl | (simp only [go_sem]; done)) _)) (F86_ok n a1 _ h4) (by repeat (first | exact leL_refl _ | refine leL_cons (by first | exact leT_refl _ | exact leT_virt | exact leT_junk _ | exact leT_sl | exact leT_sln | exact leT_nil | (refine leT_agg (by repeat (first | exact leL_refl _ | refine leL_cons (by first | exact leT_refl _ | exact leT_sl | exact leT_sln | exact leT_nil) ?_)))) ?_)) ?_
      try simp -implicitDefEqProofs (maxSteps := 4000000) (disch := first | omega | decide | (simp only [go_sem]; omega)) only [go_sem, ↓reduceIte]
      repeat (with_reducible refine And.intro (by first | assumption | omega | (simp; done) | (simp; omega)) ?_)
      refine toEnd hC ?_
      refine endX_seq ?_
      refine runX_seq ?_
      refine runX_drawC mixed (by kernel_rfl) fun C hC => ?_
      obtain ⟨v5, h5, h⟩ := bnd_some h
      try simp -implicitDefEqProofs (maxSteps := 4000000) (disch := first | omega | decide | (simp only [go_sem]; omega)) only [go_sem, ↓reduceIte]
      repeat (with_reducible refine And.intro (by first | assumption | omega | (simp; done) | (simp; omega)) ?_)
      refine callD_X (F84_ok n v4 _ h5) (by repeat (first | exact leL_refl _ | refine leL_cons (by first | exact leT_refl _ | exact leT_virt | exact leT_junk _ | exact leT_sl | exact leT_sln | exact leT_nil | (refine leT_agg (by repeat (first | exact leL_refl _ | refine leL_cons (by first | exact leT_refl _ | exact leT_sl | exact leT_sln | exact leT_nil) ?_)))) ?_)) ?_
      obtain ⟨g6, h⟩ := grd_some h
      try simp -implicitDefEqProofs (maxSteps := 4000000) (disch := first | omega | decide | (simp only [go_sem]; omega)) only [go_sem, ↓reduceIte]
      repeat (with_reducible refine And.intro (by first | assumption | omega | (simp; done) | (simp; omega)) ?_)
      refine buildX_val ?_
      obtain ⟨g7, h⟩ := grd_some h
      try simp -implicitDefEqProofs (maxSteps := 4000000) (disch := first | omega | decide | (simp only [go_sem]; omega)) only [go_sem, ↓reduceIte]
      repeat (with_reducible refine And.intro (by first | assumption | omega | (simp; done) | (simp; omega)) ?_)
      refine toEnd hC ?_
      refine endX_seq ?_
      refine runX_seq ?_
      refine runX_seq ?_
      refine runX_regionC fun C hC => ?_
      try simp -implicitDefEqProofs (maxSteps := 4000000) (disch := first | omega | decide | (simp only [go_sem]; omega)) only [go_sem, ↓reduceIte]
      repeat (with_reducible refine And.intro (by first | assumption | omega | (simp; done) | (simp; omega)) ?_)
      refine toEnd hC ?_
      refine endX_seq ?_
      refine runX_block ?_
      refine runX_loop [1, 5, 7] (fun m S => ∃ (x8 : Int) (x9 : List (Int)), S = F81_S1 a1 x8 x9 ∧ m ≤ n ∧ F81_L1 m a1 x8 x9 = some r) n ⟨F81_S1 a1 (IntKind.wrap .i64 (v4 - (2 : Int))) (a0 ++ [(IntKind.wrap .u8 ((IntKind.wrap .i32 (bOr .i32 v5 (bShr .i32 a1 ((IntKind.wrap .i64 ((6 : Int) * (IntKind.wrap .i64 (v4 - (1 : Int))))).toNat))))))]), ?_, (IntKind.wrap .i64 (v4 - (2 : Int))), (a0 ++ [(IntKind.wrap .u8 ((IntKind.wrap .i32 (bOr .i32 v5 (bShr .i32 a1 ((IntKind.wrap .i64 ((6 : Int) * (IntKind.wrap .i64 (v4 - (1 : Int))))).toNat))))))]), rfl, Nat.le_refl _, h⟩ ?_
      · simp only [F81_S1]
        (try simp -implicitDefEqProofs (maxSteps := 4000000) (disch := first | omega | decide | (simp only [go_sem]; omega)) only [go_sem, ↓reduceIte])
        first | exact leS_refl _ | (refine leS_le ?_ ?_ <;> first | exact leL_refl _ | exact leOs_refl _ | (repeat (first | exact leL_refl _ | refine leL_cons (by first | exact leT_refl _ | exact leT_virt | exact leT_junk _ | exact leT_sl | exact leT_sln | exact leT_nil | (refine leT_agg (by repeat (first | exact leL_refl _ | refine leL_cons (by first | exact leT_refl _ | exact leT_sl | exact leT_sln | exact leT_nil) ?_)))) ?_)))
      · clear h
        rintro m1 S ⟨x8, x9, rfl, hm1, h⟩
        cases m1 with
        | zero => first | cases (show (none : Option _) = some _ from h) | (rw [F81_L1] at h; cases h)
        | succ m1 =>
          rw [F81_L1] at h
          simp only [F81_S1]
          refine runX_seq ?_
          refine runX_seq ?_
          refine runX_regionC fun C hC => ?_
          try simp -implicitDefEqProofs (maxSteps := 4000000) (disch := first | omega | decide | (simp only [go_sem]; omega)) only [go_sem, ↓reduceIte]
          repeat (with_reducible refine And.intro (by first | assumption | omega | (simp; done) | (simp; omega)) ?_)
          refine toEnd hC ?_
          refine endX_seq ?_
          rcases iteB_some h with ⟨c10, h⟩ | ⟨c10, h⟩
          · refine runX_condT rfl c10 ?_
            refine runX_skip ?_
            refine endX_seq ?_
            refine runX_seq ?_
            refine runX_block ?_
            refine runX_regionC fun C hC => ?_
            obtain ⟨g11, h⟩ := grd_some h
            try simp -implicitDefEqProofs (maxSteps := 4000000) (disch := first | omega | decide | (simp only [go_sem]; omega)) only [go_sem, ↓reduceIte]
            repeat (with_reducible refine And.intro (by first | assumption | omega | (simp; done) | (simp; omega)) ?_)
            refine bs_go <| buildX_val ?_
            obtain ⟨g12, h⟩ := grd_some h
            try simp -implicitDefEqProofs (maxSteps := 4000000) (disch := first | omega | decide | (simp only [go_sem]; omega)) only [go_sem, ↓reduceIte]
            repeat (with_reducible refine And.intro (by first | assumption | omega | (simp; done) | (simp; omega)) ?_)
            refine toEnd hC ?_
            refine endX_blk ?_
            refine endX_seq ?_
            refine runX_regionC fun C hC => ?_
            try simp -implicitDefEqProofs (maxSteps := 4000000) (disch := first | omega | decide | (simp only [go_sem]; omega)) only [go_sem, ↓reduceIte]
            repeat (with_reducible refine And.intro (by first | assumption | omega | (simp; done) | (simp; omega)) ?_)
            refine toEnd hC ?_
            refine endX_q (roundQ_normal ⟨m1, by omega, F81_S1 a1 (IntKind.wrap .i64 (x8 - (1 : Int))) (x9 ++ [(IntKind.wrap .u8 ((IntKind.wrap .i32 (bOr .i32 (128 : Int) (IntKind.wrap .i32 (bAnd .i32 (bShr .i32 a1 ((IntKind.wrap .i64 ((6 : Int) * x8)).toNat)) (63 : Int)))))))]), ?_, (IntKind.wrap .i64 (x8 - (1 : Int))), (x9 ++ [(IntKind.wrap .u8 ((IntKind.wrap .i32 (bOr .i32 (128 : Int) (IntKind.wrap .i32 (bAnd .i32 (bShr .i32 a1 ((IntKind.wrap .i64 ((6 : Int) * x8)).toNat)) (63 : Int)))))))]), rfl, by omega, h⟩)
            simp only [F81_S1]
            (try simp -implicitDefEqProofs (maxSteps := 4000000) (disch := first | omega | decide | (simp only [go_sem]; omega)) only [go_sem, ↓reduceIte])
            first | exact leS_refl _ | (refine leS_le ?_ ?_ <;> first | exact leL_refl _ | exact leOs_refl _ | (repeat (first | exact leL_refl _ | refine leL_cons (by first | exact leT_refl _ | exact leT_virt | exact leT_junk _ | exact leT_sl | exact leT_sln | exact leT_nil | (refine leT_agg (by repeat (first | exact leL_refl _ | refine leL_cons (by first | exact leT_refl _ | exact leT_sl | exact leT_sln | exact leT_nil) ?_)))) ?_)))
          · refine runX_condF rfl c10 ?_
            refine runX_exit ?_
            refine endX_seqE ?_
            refine endX_q (roundQ_exit ?_)
            refine endX_blkE ?_
            refine endX_seq ?_
            refine runX_seq ?_
            refine runX_regionC fun C hC => ?_
            try simp -implicitDefEqProofs (maxSteps := 4000000) (disch := first | omega | decide | (simp only [go_sem]; omega)) only [go_sem, ↓reduceIte]
            repeat (with_reducible refine And.intro (by first | assumption | omega | (simp; done) | (simp; omega)) ?_)
            refine toEnd hC ?_
            refine endX_seq ?_
            refine runX_ret ?_
            refine endX_q ?_
            obtain rfl := Option.some.inj h
            show RetW _ _ _ _ _
            simp only [RetW]
            (try simp -implicitDefEqProofs (maxSteps := 4000000) (disch := first | omega | decide | (simp only [go_sem]; omega)) only [go_sem, ↓reduceIte])
            (try simp (disch := omega) only [if_pos, Nat.sub_zero])
            exact leT_refl _
end Go.Proofs.YtbamlphgolldlaaX

set_option linter.unusedVariables false
set_option linter.unusedSimpArgs false
namespace Go.Proofs.YtbamlphgolldlaaX
open Go Go.RowKit Go.Proofs
set_option maxRecDepth 100000
attribute [local go_sem ↓] stepsK_build stepsK_build0 stepsK_bs stepsK_bs0 appendS
attribute [local go_sem] String.reduceEq String.reduceNe reduceCtorEq Int.reduceEq Nat.reduceAdd Nat.reduceSub Nat.reduceMul Nat.reduceLT Nat.reduceLeDiff Nat.reduceEqDiff Nat.reduceBEq Int.reduceToNat Int.reduceLT Int.reduceLE Int.reduceGT Int.reduceGE Int.reduceAdd Int.reduceSub Int.reduceMul Int.reduceNeg Int.reduceBEq Int.reduceBNe Int.reducePow Int.reduceDiv Int.reduceMod Int.reduceTDiv Int.reduceTMod Int.reduceNatCast
/-! ### utf.Clean -/
def F43_S2 (x1 : List UInt8) (x2 : List (Int)) (x6 : Int) (x7 : Int) : St := ⟨[.imm (.string (bs x1)), .junk, .junk, .sl 1 false (List.map byteT x2), .imm (.int .i32 x6), .imm (.int .i64 x7), .junk, .junk, .junk, .junk, .junk, .junk, .junk, .junk, .junk, .junk, .junk, .junk, .junk, .junk, .junk, .junk, .junk], []⟩
def F43_S1 (x1 : List UInt8) (x2 : List (Int)) : St := ⟨[.imm (.string (bs x1)), .junk, .junk, .sl 1 false (List.map byteT x2), .junk, .junk, .junk, .junk, .junk, .junk, .junk, .junk, .junk, .junk, .junk, .junk, .junk, .junk, .junk, .junk, .junk, .junk, .junk], []⟩
mutual
def F43_J2 (m1 : Nat) (x1 : List UInt8) (x2 : List (Int)) (x6 : Int) (x7 : Int) : Option (List UInt8) := (F81 m1 x2 x6).bind fun v8 => grd (0 ≤ x7 ∧ x7 ≤ (x1.length : Int)) (F43_L1 m1 (x1.drop x7.toNat) v8)
def F43_L1 : Nat → (List UInt8) → (List (Int)) → Option (List UInt8)
  | 0, _, _ => none
  | m1 + 1, x1, x2 => iteB (!(x1 == [])) ((F44 m1 x1).bind fun v4 => iteB (v4.2 == (0 : Int)) (F43_J2 m1 x1 x2 (65533 : Int) (1 : Int)) (F43_J2 m1 x1 x2 v4.1 v4.2)) (some (x2.map toB))
end
def F43 (n : Nat) (a0 : List UInt8) : Option (List UInt8) := F43_L1 n a0 []
set_option maxHeartbeats 4000000 in
theorem F43_ok : ∀ (n : Nat) (a0 : List UInt8) (r : List UInt8), F43 n a0 = some r → FnC Try.prog 43 [.imm (.string (bs a0))] (.imm (.string (bs r)))
  | n, a0, r, h => by
    unfold F43 at h
    refine FnC.goX mixed Try.func43 (by kernel_rfl) rfl ?_
    simp only [Try.ntmps43, List.length_cons, List.length_nil, List.replicate, List.cons_append, List.nil_append, Nat.reduceAdd, Nat.reduceSub]
    refine runX_seq ?_
    refine runX_regionC fun C hC => ?_
    try simp -implicitDefEqProofs (maxSteps := 4000000) (disch := first | omega | decide | (simp only [go_sem]; omega)) only [go_sem, ↓reduceIte]
    repeat (with_reducible refine And.intro (by first | assumption | omega | (simp; done) | (simp; omega)) ?_)
    refine toEnd hC ?_
    refine endX_seq ?_
    refine runX_seq ?_
    refine runX_regionC fun C hC => ?_
    try simp -implicitDefEqProofs (maxSteps := 4000000) (disch := first | omega | decide | (simp only [go_sem]; omega)) only [go_sem, ↓reduceIte]
    repeat (with_reducible refine And.intro (by first | assumption | omega | (simp; done) | (simp; omega)) ?_)
    refine toEnd hC ?_
    refine endX_seq ?_
    refine runX_seq ?_
    refine runX_block ?_
    refine runX_loop [0, 3] (fun m S => ∃ (x1 : List UInt8) (x2 : List (Int)), S = F43_S1 x1 x2 ∧ m ≤ n ∧ F43_L1 m x1 x2 = some r) n ⟨F43_S1 a0 [], ?_, a0, [], rfl, Nat.le_refl _, h⟩ ?_
    · simp only [F43_S1]
      (try simp -implicitDefEqProofs (maxSteps := 4000000) (disch := first | omega | decide | (simp only [go_sem]; omega)) only [go_sem, ↓reduceIte])
      first | exact leS_refl _ | (refine leS_le ?_ ?_ <;> first | exact leL_refl _ | exact leOs_refl _ | (repeat (first | exact leL_refl _ | refine leL_cons (by first | exact leT_refl _ | exact leT_virt | exact leT_junk _ | exact leT_sl | exact leT_sln | exact leT_nil | (refine leT_agg (by repeat (first | exact leL_refl _ | refine leL_cons (by first | exact leT_refl _ | exact leT_sl | exact leT_sln | exact leT_nil) ?_)))) ?_)))
    · clear h
      rintro m1 S ⟨x1, x2, rfl, hm1, h⟩
      cases m1 with
      | zero => first | cases (show (none : Option _) = some _ from h) | (rw [F43_L1] at h; cases h)
      | succ m1 =>
        rw [F43_L1] at h
        simp only [F43_S1]
        refine runX_seq ?_
        refine runX_seq ?_
        refine runX_regionC fun C hC => ?_
        try simp -implicitDefEqProofs (maxSteps := 4000000) (disch := first | omega | decide | (simp only [go_sem]; omega)) only [go_sem, ↓reduceIte]
        repeat (with_reducible refine And.intro (by first | assumption | omega | (simp; done) | (simp; omega)) ?_)
        refine toEnd hC ?_
        refine endX_seq ?_
        rcases iteB_some h with ⟨c3, h⟩ | ⟨c3, h⟩
        · refine runX_condT rfl c3 ?_
          refine runX_skip ?_
          refine endX_seq ?_
          refine runX_block ?_
          refine runX_seq ?_
          refine runX_regionC fun C hC => ?_
          obtain ⟨v4, h4, h⟩ := bnd_some h
          try simp -implicitDefEqProofs (maxSteps := 4000000) (disch := first | omega | decide | (simp only [go_sem]; omega)) only [go_sem, ↓reduceIte]
          repeat (with_reducible refine And.intro (by first | assumption | omega | (simp; done) | (simp; omega)) ?_)
          refine callG_X (by first | rfl | (simp only [go_sem]; done) | (simp only [closedL, closedT, Bool.and_true]; exact closedL_map _ (fun _ => by first | rfl | (simp only [go_sem]; done)) _)) (F44_ok m1 x1 _ h4) (by repeat (first | exact leL_refl _ | refine leL_cons (by first | exact leT_refl _ | exact leT_virt | exact leT_junk _ | exact leT_sl | exact leT_sln | exact leT_nil | (refine leT_agg (by repeat (first | exact leL_refl _ | refine leL_cons (by first | exact leT_refl _ | exact leT_sl | exact leT_sln | exact leT_nil) ?_)))) ?_)) ?_
          try simp -implicitDefEqProofs (maxSteps := 4000000) (disch := first | omega | decide | (simp only [go_sem]; omega)) only [go_sem, ↓reduceIte]
          repeat (with_reducible refine And.intro (by first | assumption | omega | (simp; done) | (simp; omega)) ?_)
          refine toEnd hC ?_
          refine endX_seq ?_
          refine runX_meet [0, 3, 4, 5] (fun S => ∃ (x6 : Int) (x7 : Int), S = F43_S2 x1 x2 x6 x7 ∧ F43_J2 m1 x1 x2 x6 x7 = some r) ?_ ?_
          · refine runX_seq ?_
            refine runX_regionC fun C hC => ?_
            try simp -implicitDefEqProofs (maxSteps := 4000000) (disch := first | omega | decide | (simp only [go_sem]; omega)) only [go_sem, ↓reduceIte]
            repeat (with_reducible refine And.intro (by first | assumption | omega | (simp; done) | (simp; omega)) ?_)
            refine toEnd hC ?_
            refine endX_seq ?_
            rcases iteB_some h with ⟨c5, h⟩ | ⟨c5, h⟩
            · refine runX_condT rfl c5 ?_
              refine runX_regionC fun C hC => ?_
              try simp -implicitDefEqProofs (maxSteps := 4000000) (disch := first | omega | decide | (simp only [go_sem]; omega)) only [go_sem, ↓reduceIte]
              repeat (with_reducible refine And.intro (by first | assumption | omega | (simp; done) | (simp; omega)) ?_)
              refine toEnd hC ?_
              refine endX_q (meetQ_normal ⟨F43_S2 x1 x2 (65533 : Int) (1 : Int), ?_, (65533 : Int), (1 : Int), rfl, h⟩)
              simp only [F43_S2]
              (try simp -implicitDefEqProofs (maxSteps := 4000000) (disch := first | omega | decide | (simp only [go_sem]; omega)) only [go_sem, ↓reduceIte])
              first | exact leS_refl _ | (refine leS_le ?_ ?_ <;> first | exact leL_refl _ | exact leOs_refl _ | (repeat (first | exact leL_refl _ | refine leL_cons (by first | exact leT_refl _ | exact leT_virt | exact leT_junk _ | exact leT_sl | exact leT_sln | exact leT_nil | (refine leT_agg (by repeat (first | exact leL_refl _ | refine leL_cons (by first | exact leT_refl _ | exact leT_sl | exact leT_sln | exact leT_nil) ?_)))) ?_)))
            · refine runX_condF rfl c5 ?_
              refine runX_skip ?_
              refine endX_q (meetQ_normal ⟨F43_S2 x1 x2 v4.1 v4.2, ?_, v4.1, v4.2, rfl, h⟩)
              simp only [F43_S2]
              (try simp -implicitDefEqProofs (maxSteps := 4000000) (disch := first | omega | decide | (simp only [go_sem]; omega)) only [go_sem, ↓reduceIte])
              first | exact leS_refl _ | (refine leS_le ?_ ?_ <;> first | exact leL_refl _ | exact leOs_refl _ | (repeat (first | exact leL_refl _ | refine leL_cons (by first | exact leT_refl _ | exact leT_virt | exact leT_junk _ | exact leT_sl | exact leT_sln | exact leT_nil | (refine leT_agg (by repeat (first | exact leL_refl _ | refine leL_cons (by first | exact leT_refl _ | exact leT_sl | exact leT_sln | exact leT_nil) ?_)))) ?_)))
          · clear h
            rintro S ⟨x6, x7, rfl, h⟩
            rw [F43_J2] at h
            simp only [F43_S2]
            refine runX_seq ?_
            refine runX_regionC fun C hC => ?_
            obtain ⟨v8, h8, h⟩ := bnd_some h
            try simp -implicitDefEqProofs (maxSteps := 4000000) (disch := first | omega | decide | (simp only [go_sem]; omega)) only [go_sem, ↓reduceIte]
            repeat (with_reducible refine And.intro (by first | assumption | omega | (simp; done) | (simp; omega)) ?_)
            refine callG_X (by first | rfl | (simp only [go_sem]; done) | (simp only [closedL, closedT, Bool.and_true]; exact closedL_map _ (fun _ => by first | rfl | (simp only [go_sem]; done)) _)) (F81_ok m1 x2 x6 _ h8) (by repeat (first | exact leL_refl _ | refine leL_cons (by first | exact leT_refl _ | exact leT_virt | exact leT_junk _ | exact leT_sl | exact leT_sln | exact leT_nil | (refine leT_agg (by repeat (first | exact leL_refl _ | refine leL_cons (by first | exact leT_refl _ | exact leT_sl | exact leT_sln | exact leT_nil) ?_)))) ?_)) ?_
            try simp -implicitDefEqProofs (maxSteps := 4000000) (disch := first | omega | decide | (simp only [go_sem]; omega)) only [go_sem, ↓reduceIte]
            repeat (with_reducible refine And.intro (by first | assumption | omega | (simp; done) | (simp; omega)) ?_)
            refine toEnd hC ?_
            refine endX_seq ?_
            refine runX_regionC fun C hC => ?_
            obtain ⟨g9, h⟩ := grd_some h
            try simp -implicitDefEqProofs (maxSteps := 4000000) (disch := first | omega | decide | (simp only [go_sem]; omega)) only [go_sem, ↓reduceIte]
            repeat (with_reducible refine And.intro (by first | assumption | omega | (simp; done) | (simp; omega)) ?_)
            refine toEnd hC ?_
            refine endX_blk ?_
            refine endX_q (roundQ_normal ⟨m1, by omega, F43_S1 (x1.drop x7.toNat) v8, ?_, (x1.drop x7.toNat), v8, rfl, by omega, h⟩)
            simp only [F43_S1]
            (try simp -implicitDefEqProofs (maxSteps := 4000000) (disch := first | omega | decide | (simp only [go_sem]; omega)) only [go_sem, ↓reduceIte])
            first | exact leS_refl _ | (refine leS_le ?_ ?_ <;> first | exact leL_refl _ | exact leOs_refl _ | (repeat (first | exact leL_refl _ | refine leL_cons (by first | exact leT_refl _ | exact leT_virt | exact leT_junk _ | exact leT_sl | exact leT_sln | exact leT_nil | (refine leT_agg (by repeat (first | exact leL_refl _ | refine leL_cons (by first | exact leT_refl _ | exact leT_sl | exact leT_sln | exact leT_nil) ?_)))) ?_)))
        · refine runX_condF rfl c3 ?_
          refine runX_exit ?_
          refine endX_seqE ?_
          refine endX_q (roundQ_exit ?_)
          refine endX_blkE ?_
          refine endX_seq ?_
          refine runX_seq ?_
          refine runX_regionC fun C hC => ?_
          try simp -implicitDefEqProofs (maxSteps := 4000000) (disch := first | omega | decide | (simp only [go_sem]; omega)) only [go_sem, ↓reduceIte]
          repeat (with_reducible refine And.intro (by first | assumption | omega | (simp; done) | (simp; omega)) ?_)
          refine toEnd hC ?_
          refine endX_seq ?_
          refine runX_ret ?_
          refine endX_q ?_
          obtain rfl := Option.some.inj h
          show RetW _ _ _ _ _
          simp only [RetW]
          (try simp -implicitDefEqProofs (maxSteps := 4000000) (disch := first | omega | decide | (simp only [go_sem]; omega)) only [go_sem, ↓reduceIte])
          (try simp (disch := omega) only [if_pos, Nat.sub_zero])
          exact leT_refl _
end Go.Proofs.YtbamlphgolldlaaX

set_option linter.unusedVariables false
set_option linter.unusedSimpArgs false
namespace Go.Proofs.YtbamlphgolldlaaX
open Go Go.RowKit Go.Proofs
set_option maxRecDepth 100000
/-! ### strings.Builder's copyCheck: by hand (an address is stored in its own variable) -/
-- OWN 0 1 uint8
def F87 (n : Nat) (a0 : Bool × List Int) : Option (Bool × List Int) := some (true, a0.2)
theorem bld_store {w w' : World} {b : Nat} {v0 v1 u : Value} {fr : Nat × Nat} (h : w.heap[b]? = some (.cells #[v0, v1] 71 fr)) (hf : w.frozen? ⟨b, 0, none⟩ = false) (hu : leaf u = true)
    (hr : (Instr.storeAt 69 (.pointer (some ⟨b, 0, none⟩)) u).run Try.prog w = .ok () w') : w' = w.setCell ⟨b, 0, none⟩ u := by
  have hc : w.cell? ⟨b, 0, none⟩ = some v0 := by simp [World.cell?, h]
  have e : (Instr.storeAt 69 (.pointer (some ⟨b, 0, none⟩)) u).run Try.prog w = .ok () (w.setCell ⟨b, 0, none⟩ u) := by
    unfold Instr.storeAt
    rw [run_bind (show (Instr.sureAddr (.pointer (some (⟨b, 0, none⟩ : Addr)))).run Try.prog w = .ok (⟨b, 0, none⟩ : Addr) w from rfl)]
    obtain ⟨inf, hinf, hs⟩ : ∃ j, Try.prog.info? 69 = some j ∧ j.size = 1 := Option.map_eq_some_iff.1 (show (Try.prog.info? 69).map (·.size) = some 1 by kernel_rfl)
    have hcs : u.cells = #[u] := by cases u <;> first | rfl | cases hu
    unfold storeVar
    rw [run_bind (run_sizeOf hinf), hs, hcs]
    simp only [List.size_toArray, List.length_cons, List.length_nil, Nat.zero_add, ne_eq, not_true_eq_false, if_false]
    show (storeCells ⟨b, 0, none⟩ [u] 0).run Try.prog w = _
    rw [storeCells, show (⟨b, 0, none⟩ : Addr).add 0 = ⟨b, 0, none⟩ from rfl, run_bind (run_store hc hf hu)]
    rfl
  rw [e] at hr
  injection hr with _ h2
  exact h2.symm
set_option maxHeartbeats 1000000 in
set_option maxRecDepth 100000 in
theorem bld_used (w : World) (b : Nat) (v1 : Value) (fr : Nat × Nat) (h : w.heap[b]? = some (.cells #[.pointer (some ⟨b, 0, none⟩), v1] 71 fr)) :
    Calls Try.prog 87 #[.pointer (some ⟨b, 0, none⟩)] w fun e w' => e = .returned (.tuple #[]) ∧ w' = w := by
  have c0 : w.cell? ⟨b, 0, none⟩ = some (.pointer (some ⟨b, 0, none⟩)) := by simp [World.cell?, h]
  have hp : Try.prog.underlying 69 = some (.pointer 71) := by kernel_rfl
  obtain ⟨j, hj⟩ : ∃ j, Try.prog.info? 71 = some j := Option.isSome_iff_exists.1 (by kernel_rfl)
  go_enter Try.func87, Try.ntmps87
  go_wp2
  rw [Lib.run_neq_ptr_same w _ hp hj]
  go_wp2
  go_end0
  exact ⟨rfl, rfl⟩
set_option maxHeartbeats 1000000 in
set_option maxRecDepth 100000 in
theorem bld_fresh (w : World) (b : Nat) (v1 : Value) (fr : Nat × Nat) (h : w.heap[b]? = some (.cells #[.pointer none, v1] 71 fr)) (hfz : w.frozen? ⟨b, 0, none⟩ = false) :
    Calls Try.prog 87 #[.pointer (some ⟨b, 0, none⟩)] w fun e w' => e = .returned (.tuple #[]) ∧ w' = w.setCell ⟨b, 0, none⟩ (.pointer (some ⟨b, 0, none⟩)) := by
  have h0 : w.cell? ⟨b, 0, none⟩ = some (.pointer none) := by simp [World.cell?, h]
  have hsh : w.shape? b = some (71, 2) := by simp [World.shape?, h]
  have hp : Try.prog.underlying 69 = some (.pointer 71) := by kernel_rfl
  have hup : Try.prog.underlying 144 = some .unsafePointer := by kernel_rfl
  obtain ⟨j, hj, hjs⟩ : ∃ j, Try.prog.info? 71 = some j ∧ j.size = 2 := Option.map_eq_some_iff.1 (show (Try.prog.info? 71).map (·.size) = some 2 by kernel_rfl)
  go_enter Try.func87, Try.ntmps87
  go_wp2
  rw [Lib.run_to_unsafe w ⟨b, 0, none⟩ hp hup hj (by rw [hjs]; decide) hsh (Nat.zero_lt_succ 1)]
  simp only [Result.andThen]
  rw [Oper.upon_value]
  go_wp2
  rw [run_callFunc_extern Try.func107 (by kernel_rfl) (by kernel_rfl) (by kernel_rfl) (e := Extern.AbiNoEscape.same) (by kernel_rfl)]
  rw [Lib.run_noEscape]
  simp only [Result.andThen]
  rw [Oper.upon_value]
  go_wp2
  rw [Lib.run_from_unsafe w ⟨b, 0, none⟩ hup hp hj hsh (by kernel_rfl)]
  simp only [Result.andThen]
  rw [Oper.upon_value]
  go_wp2
  go_end0
  exact ⟨rfl, rfl⟩
/-- What the rows of a builder are. -/
def bldO (b : Bool) (l : List Int) : List (Option Own) := [some (.box (4294967296 + 71) (.agg [adT b 0, .rsl 1 1 0 l.length]) false), some (.buf 5 1 (List.map byteT l) 0)]
theorem bld_len {L : Nat} : L = L := rfl
theorem bldO_at {w : World} {μ : Nat → Option Nat} {ban : Ban} {b : Bool} {l : List Int} (hO : Objs ⟨w, μ, bldO b l, ban⟩) : ∃ (g : Nat) (fr : Nat × Nat) (v1 : Value), μ 0 = some g ∧ w.heap[g]? = some (.cells #[if b = true then .pointer (some ⟨g, 0, none⟩) else .pointer none, v1] 71 fr) ∧ Unf fr 2 ∧ Rep ⟨w, μ, bldO b l, ban⟩ false (.rsl 1 1 0 l.length) v1 := by
  obtain ⟨g, fr, u, h1, h2, h3, h4, h5⟩ := hO.at_ 0 _ rfl
  simp only [Rep] at h4
  obtain ⟨cs, rfl, h4⟩ := h4
  simp only [RepL] at h4
  obtain ⟨v0, vs, e1, q1, v1, vs', e2, q2, e3⟩ := h4
  subst e3; subst e2
  have ec : cs = #[v0, v1] := by rw [← Array.toArray_toList (xs := cs), e1]
  subst ec
  have h1 : μ 0 = some g := h1
  have e0 : v0 = if b = true then .pointer (some ⟨g, 0, none⟩) else .pointer none := by
    cases b with
    | true =>
      have q1 : Rep _ false (.ref 0 7777 0 0) v0 := q1
      simp only [Rep] at q1
      obtain ⟨_, _, g', k1, rfl⟩ := q1
      obtain rfl : g' = g := Option.some.inj (k1.symm.trans h1)
      simp
    | false =>
      have q1 : Rep _ false (.imm (.pointer none)) v0 := q1
      simp only [Rep] at q1
      simp [q1.1]
  subst e0
  exact ⟨g, fr, v1, h1, h2, h3, by simp only [Rep] at q2 ⊢; exact q2⟩
theorem F87_ok (n : Nat) (a0 : Bool × List Int) (r : Bool × List Int) (h : F87 n a0 = some r) : FnR Try.prog 87 [some (.box (4294967296 + 71) (.agg [adT a0.1 0, .rsl 1 1 0 a0.2.length]) false), some (.buf 5 1 (List.map byteT a0.2) 0)] [.ref 0 0 0 0] (.tup []) [some (.box (4294967296 + 71) (.agg [adT r.1 0, .rsl 1 1 0 r.2.length]) false), some (.buf 5 1 (List.map byteT r.2) 0)] := by
  obtain rfl := Option.some.inj h
  obtain ⟨b, l⟩ := a0
  refine ⟨⟨Try.f87, Try.func87, by kernel_rfl, rfl⟩, by simp [rowsOk, refsC, refsCL, adT_refsC, tagM], by simp [sameO], by simp [refsC, refsCL], fun B μ vs hO hOwn hv => ?_⟩
  obtain ⟨g, fr, v1, h1, h2, h3, h4⟩ := bldO_at (b := b) (l := l) hO
  have evs : vs = #[.pointer (some ⟨g, 0, none⟩)] := by
    simp only [RepL, Rep] at hv
    obtain ⟨v, vs', e1, ⟨_, _, g', k1, rfl⟩, rfl⟩ := hv
    have k1 : μ 0 = some g' := k1
    rw [h1] at k1; cases k1
    rw [← Array.toArray_toList (xs := vs), e1]
  have hS : Sat B ⟨[.ref 0 0 0 0], bldO b l⟩ { tmps := vs, defers := [] } B.w μ := ⟨hv, rfl, hO, fun o x k q1 q2 q3 => by
    have q1 : (bldO b l)[o]? = some (some x) := q1
    obtain ⟨lk, hl⟩ : ∃ l, x.lock = some l := by cases x <;> first | exact ⟨_, rfl⟩ | exact absurd rfl q2
    exact .inr ⟨0, lk, (hOwn.1 k 0).2 ⟨rfl, o, (List.getElem?_eq_some_iff.1 q1).1, q3⟩, hl, Nat.zero_le _⟩, ⟨rfl, rfl, rfl, Nat.le_refl _, fun _ _ _ => rfl, fun _ _ _ _ _ => rfl, fun k lk _ c t fr h => ⟨c, fr, h, rfl⟩⟩⟩
  have hfz : B.w.frozen? ⟨g, 0, none⟩ = false := by
    have := h3 0 (by omega)
    simp only [World.frozen?, h2]
    simpa using this
  rw [evs]
  cases b with
  | true =>
    refine (bld_used B.w g v1 fr (by simpa using h2)).mono ?_
    rintro e w' ⟨rfl, rfl⟩
    exact ⟨_, μ, rfl, hS.objs, by simp only [Rep, RepL]; exact ⟨#[], rfl, rfl⟩, hS.kept, fun o x k q1 q2 q3 => .inr ((hOwn.1 k 0).2 ⟨rfl, o, (List.getElem?_eq_some_iff.1 q1).1, q3⟩)⟩
  | false =>
    have h2' : B.w.heap[g]? = some (.cells #[.pointer none, v1] 71 fr) := by simpa using h2
    refine (bld_fresh B.w g v1 fr h2' hfz).mono ?_
    rintro e w' ⟨rfl, rfl⟩
    obtain ⟨r, eff, w', hK, hrun, hpost⟩ := store_sound (P := Try.prog) (k := 2) (t := 69) (x := .ref 0 0 0 0) (v := .ref 0 7777 0 0) (look := lookS ⟨[.ref 0 0 0 0], bldO false l⟩) (p := .pointer (some ⟨g, 0, none⟩)) (u := .pointer (some ⟨g, 0, none⟩)) (K := fun r eff => eff = .put 0 (.box (4294967296 + 71) (.agg [.ref 0 7777 0 0, .rsl 1 1 0 l.length]) false)) hS
      (by simp [storeW, bldO, lookS, adT, go_sem]) (by simp only [Rep]; exact ⟨trivial, ⟨_, rfl⟩, g, h1, by simp⟩) (by simp only [Rep]; exact ⟨trivial, ⟨_, rfl⟩, g, h1, by simp⟩) (fun i x hx => lookS_some hx)
    subst hK
    have ew := bld_store h2' hfz rfl hrun
    subst ew
    obtain ⟨μ', hS', _⟩ := hpost
    refine ⟨_, μ', rfl, hS'.objs, by simp only [Rep, RepL]; exact ⟨#[], rfl, rfl⟩, hS'.kept, fun o x k q1 q2 q3 => ?_⟩
    rcases hS'.fresh o x k q1 q2 q3 with h | ⟨lk, lk', q4, _⟩
    · exact .inl h
    · have := ((hOwn.1 k lk).1 q4).1
      subst this
      exact .inr q4

end Go.Proofs.YtbamlphgolldlaaX

set_option linter.unusedVariables false
set_option linter.unusedSimpArgs false
namespace Go.Proofs.YtbamlphgolldlaaX
open Go Go.RowKit Go.Proofs
set_option maxRecDepth 100000
attribute [local go_sem ↓] stepsK_build stepsK_build0 stepsK_bs stepsK_bs0 appendS
attribute [local go_sem] String.reduceEq String.reduceNe reduceCtorEq Int.reduceEq Nat.reduceAdd Nat.reduceSub Nat.reduceMul Nat.reduceLT Nat.reduceLeDiff Nat.reduceEqDiff Nat.reduceBEq Int.reduceToNat Int.reduceLT Int.reduceLE Int.reduceGT Int.reduceGE Int.reduceAdd Int.reduceSub Int.reduceMul Int.reduceNeg Int.reduceBEq Int.reduceBNe Int.reducePow Int.reduceDiv Int.reduceMod Int.reduceTDiv Int.reduceTMod Int.reduceNatCast
/-! ### (*strings.Builder).WriteString -/
def F45 (n : Nat) (a0 : (Bool) × (List (Int))) (a1 : List UInt8) : Option ((Int) × (Unit) × ((Bool) × (List (Int)))) := (F87 n (a0.1, a0.2)).bind fun v1 => grd ((v1.2.length + a1.length) ≤ 549755813888) (some ((a1.length : Int), (), (v1.1, (v1.2 ++ (a1.map ofB)))))
set_option maxHeartbeats 4000000 in
theorem F45_ok : ∀ (n : Nat) (a0 : (Bool) × (List (Int))) (a1 : List UInt8) (r : (Int) × (Unit) × ((Bool) × (List (Int)))), F45 n a0 a1 = some r → FnR Try.prog 45 [some (.box 4294967367 (.agg [adT a0.1 0, .rsl 1 1 0 a0.2.length]) false), some (.buf 5 1 (List.map byteT a0.2) 0)] [.ref 0 0 0 0, .imm (.string (bs a1))] (.tup [.imm (.int .i64 r.1), .imm .nilIface]) [some (.box 4294967367 (.agg [adT r.2.2.1 0, .rsl 1 1 0 r.2.2.2.length]) false), some (.buf 5 1 (List.map byteT r.2.2.2) 0)]
  | n, a0, a1, r, h => by
    unfold F45 at h
    refine FnR.goX mixed [4, 5] Try.func45 (by kernel_rfl) rfl (by simp [rowsOk, refsC, refsCL, adT_refsC, tagM]) (by simp [sameO]) (by simp [refsC, refsCL]) ?_
    simp only [Try.ntmps45, List.length_cons, List.length_nil, List.replicate, List.cons_append, List.nil_append, Nat.reduceAdd, Nat.reduceSub]
    refine runX_seq ?_
    refine runX_regionC fun C hC => ?_
    try simp -implicitDefEqProofs (maxSteps := 4000000) (disch := first | omega | decide | (simp only [go_sem]; omega)) only [go_sem, ↓reduceIte]
    repeat (with_reducible refine And.intro (by first | assumption | omega | (simp; done) | (simp; omega)) ?_)
    refine toEnd hC ?_
    refine endX_seq ?_
    refine runX_seq ?_
    refine runX_regionC fun C hC => ?_
    obtain ⟨v1, h1, h⟩ := bnd_some h
    try simp -implicitDefEqProofs (maxSteps := 4000000) (disch := first | omega | decide | (simp only [go_sem]; omega)) only [go_sem, ↓reduceIte]
    repeat (with_reducible refine And.intro (by first | assumption | omega | (simp; done) | (simp; omega)) ?_)
    refine callR_X [0, 1] (F87_ok n (a0.1, a0.2) _ h1) (by decide) (by (try simp -implicitDefEqProofs (maxSteps := 4000000) (disch := first | omega | decide | (simp only [go_sem]; omega)) only [go_sem, ↓reduceIte]); repeat (first | exact trivial | refine And.intro ?_ ?_ | exact fun _ => trivial | exact fun _ _ => trivial | exact fun _ _ h => h | rfl | decide)) (by (try simp -implicitDefEqProofs (maxSteps := 4000000) (disch := first | omega | decide | (simp only [go_sem]; omega)) only [go_sem, ↓reduceIte]); repeat (first | exact leL_refl _ | refine leL_cons (by first | exact leT_refl _ | exact leT_virt | exact leT_junk _ | exact leT_sl | exact leT_sln | exact leT_nil | (refine leT_agg (by repeat (first | exact leL_refl _ | refine leL_cons (by first | exact leT_refl _ | exact leT_sl | exact leT_sln | exact leT_nil) ?_)))) ?_)) ?_
    try simp -implicitDefEqProofs (maxSteps := 4000000) (disch := first | omega | decide | (simp only [go_sem]; omega)) only [go_sem, ↓reduceIte]
    repeat (with_reducible refine And.intro (by first | assumption | omega | (simp; done) | (simp; omega)) ?_)
    refine toEnd hC ?_
    refine endX_seq ?_
    refine runX_seq ?_
    refine runX_regionC fun C hC => ?_
    obtain ⟨g2, h⟩ := grd_some h
    try simp -implicitDefEqProofs (maxSteps := 4000000) (disch := first | omega | decide | (simp only [go_sem]; omega)) only [go_sem, ↓reduceIte]
    repeat (with_reducible refine And.intro (by first | assumption | omega | (simp; done) | (simp; omega)) ?_)
    refine toEnd hC ?_
    refine endX_seq ?_
    refine runX_seq ?_
    refine runX_regionC fun C hC => ?_
    try simp -implicitDefEqProofs (maxSteps := 4000000) (disch := first | omega | decide | (simp only [go_sem]; omega)) only [go_sem, ↓reduceIte]
    repeat (with_reducible refine And.intro (by first | assumption | omega | (simp; done) | (simp; omega)) ?_)
    refine toEnd hC ?_
    refine endX_seq ?_
    refine runX_ret ?_
    refine endX_q ?_
    obtain rfl := Option.some.inj h
    show RetR _ _ _ _ _ _ _ _
    simp only [RetR]
    (try simp -implicitDefEqProofs (maxSteps := 4000000) (disch := first | omega | decide | (simp only [go_sem]; omega)) only [go_sem, ↓reduceIte])
    exact ⟨leOs_refl _, leT_refl _⟩
end Go.Proofs.YtbamlphgolldlaaX

set_option linter.unusedVariables false
set_option linter.unusedSimpArgs false
namespace Go.Proofs.YtbamlphgolldlaaX
open Go Go.RowKit Go.Proofs
set_option maxRecDepth 100000
attribute [local go_sem ↓] stepsK_build stepsK_build0 stepsK_bs stepsK_bs0 appendS
attribute [local go_sem] String.reduceEq String.reduceNe reduceCtorEq Int.reduceEq Nat.reduceAdd Nat.reduceSub Nat.reduceMul Nat.reduceLT Nat.reduceLeDiff Nat.reduceEqDiff Nat.reduceBEq Int.reduceToNat Int.reduceLT Int.reduceLE Int.reduceGT Int.reduceGE Int.reduceAdd Int.reduceSub Int.reduceMul Int.reduceNeg Int.reduceBEq Int.reduceBNe Int.reducePow Int.reduceDiv Int.reduceMod Int.reduceTDiv Int.reduceTMod Int.reduceNatCast
/-! ### xmlout.sign -/
def F46_S1 (a0 : Int) (a1 : List UInt8) (x7 : Bool) : St := ⟨[.imm (.int .i32 a0), .imm (.string (bs a1)), .junk, .junk, .junk, .imm (.int .i32 a0), .junk, .junk, .junk, .junk, .junk, .junk, .junk, .junk, .junk, .junk, .imm (.bool x7), .junk, .junk, .junk, .junk, .junk, .junk, .junk, .junk, .junk], []⟩
def F46_J1 (n : Nat) (a0 : Int) (a1 : List UInt8) (x7 : Bool) : Option (List UInt8) := iteB x7 (some a1) (iteB (a0 == (65534 : Int)) (iteB (a0 == (65534 : Int)) (some ([239, 191, 189] : List UInt8)) (iteB (decide (a0 < (32 : Int))) (some ([239, 191, 189] : List UInt8)) (some a1))) (iteB (a0 == (65535 : Int)) (some ([239, 191, 189] : List UInt8)) (iteB (decide (a0 < (32 : Int))) (some ([239, 191, 189] : List UInt8)) (some a1))))
def F46 (n : Nat) (a0 : Int) (a1 : List UInt8) : Option (List UInt8) := iteB (a0 == (60 : Int)) (some ([38, 108, 116, 59] : List UInt8)) (iteB (a0 == (62 : Int)) (some ([38, 103, 116, 59] : List UInt8)) (iteB (a0 == (38 : Int)) (some ([38, 97, 109, 112, 59] : List UInt8)) (iteB (a0 == (34 : Int)) (some ([38, 113, 117, 111, 116, 59] : List UInt8)) (iteB (a0 == (13 : Int)) (some ([38, 35, 49, 51, 59] : List UInt8)) (iteB (a0 == (9 : Int)) (F46_J1 n a0 a1 (a0 == (9 : Int))) (F46_J1 n a0 a1 (a0 == (10 : Int))))))))
set_option maxHeartbeats 4000000 in
theorem F46_ok : ∀ (n : Nat) (a0 : Int) (a1 : List UInt8) (r : List UInt8), F46 n a0 a1 = some r → FnC Try.prog 46 [.imm (.int .i32 a0), .imm (.string (bs a1))] (.imm (.string (bs r)))
  | n, a0, a1, r, h => by
    unfold F46 at h
    refine FnC.goX mixed Try.func46 (by kernel_rfl) rfl ?_
    simp only [Try.ntmps46, List.length_cons, List.length_nil, List.replicate, List.cons_append, List.nil_append, Nat.reduceAdd, Nat.reduceSub]
    refine runX_seq ?_
    refine runX_regionC fun C hC => ?_
    try simp -implicitDefEqProofs (maxSteps := 4000000) (disch := first | omega | decide | (simp only [go_sem]; omega)) only [go_sem, ↓reduceIte]
    repeat (with_reducible refine And.intro (by first | assumption | omega | (simp; done) | (simp; omega)) ?_)
    refine toEnd hC ?_
    refine endX_seq ?_
    refine runX_seq ?_
    refine runX_seq ?_
    refine runX_regionC fun C hC => ?_
    try simp -implicitDefEqProofs (maxSteps := 4000000) (disch := first | omega | decide | (simp only [go_sem]; omega)) only [go_sem, ↓reduceIte]
    repeat (with_reducible refine And.intro (by first | assumption | omega | (simp; done) | (simp; omega)) ?_)
    refine toEnd hC ?_
    refine endX_seq ?_
    refine runX_block ?_
    refine runX_seq ?_
    refine runX_regionC fun C hC => ?_
    try simp -implicitDefEqProofs (maxSteps := 4000000) (disch := first | omega | decide | (simp only [go_sem]; omega)) only [go_sem, ↓reduceIte]
    repeat (with_reducible refine And.intro (by first | assumption | omega | (simp; done) | (simp; omega)) ?_)
    refine toEnd hC ?_
    refine endX_seq ?_
    rcases iteB_some h with ⟨c1, h⟩ | ⟨c1, h⟩
    · refine runX_condT rfl c1 ?_
      refine runX_seq ?_
      refine runX_regionC fun C hC => ?_
      try simp -implicitDefEqProofs (maxSteps := 4000000) (disch := first | omega | decide | (simp only [go_sem]; omega)) only [go_sem, ↓reduceIte]
      repeat (with_reducible refine And.intro (by first | assumption | omega | (simp; done) | (simp; omega)) ?_)
      refine toEnd hC ?_
      refine endX_seq ?_
      refine runX_ret ?_
      refine endX_blkR ?_
      refine endX_seqR ?_
      refine endX_q ?_
      obtain rfl := Option.some.inj h
      show RetW _ _ _ _ _
      simp only [RetW]
      (try simp -implicitDefEqProofs (maxSteps := 4000000) (disch := first | omega | decide | (simp only [go_sem]; omega)) only [go_sem, ↓reduceIte])
      (try simp (disch := omega) only [if_pos, Nat.sub_zero])
      exact leT_refl _
    · refine runX_condF rfl c1 ?_
      refine runX_seq ?_
      refine runX_regionC fun C hC => ?_
      try simp -implicitDefEqProofs (maxSteps := 4000000) (disch := first | omega | decide | (simp only [go_sem]; omega)) only [go_sem, ↓reduceIte]
      repeat (with_reducible refine And.intro (by first | assumption | omega | (simp; done) | (simp; omega)) ?_)
      refine toEnd hC ?_
      refine endX_seq ?_
      rcases iteB_some h with ⟨c2, h⟩ | ⟨c2, h⟩
      · refine runX_condT rfl c2 ?_
        refine runX_seq ?_
        refine runX_regionC fun C hC => ?_
        try simp -implicitDefEqProofs (maxSteps := 4000000) (disch := first | omega | decide | (simp only [go_sem]; omega)) only [go_sem, ↓reduceIte]
        repeat (with_reducible refine And.intro (by first | assumption | omega | (simp; done) | (simp; omega)) ?_)
        refine toEnd hC ?_
        refine endX_seq ?_
        refine runX_ret ?_
        refine endX_blkR ?_
        refine endX_seqR ?_
        refine endX_q ?_
        obtain rfl := Option.some.inj h
        show RetW _ _ _ _ _
        simp only [RetW]
        (try simp -implicitDefEqProofs (maxSteps := 4000000) (disch := first | omega | decide | (simp only [go_sem]; omega)) only [go_sem, ↓reduceIte])
        (try simp (disch := omega) only [if_pos, Nat.sub_zero])
        exact leT_refl _
      · refine runX_condF rfl c2 ?_
        refine runX_seq ?_
        refine runX_regionC fun C hC => ?_
        try simp -implicitDefEqProofs (maxSteps := 4000000) (disch := first | omega | decide | (simp only [go_sem]; omega)) only [go_sem, ↓reduceIte]
        repeat (with_reducible refine And.intro (by first | assumption | omega | (simp; done) | (simp; omega)) ?_)
        refine toEnd hC ?_
        refine endX_seq ?_
        rcases iteB_some h with ⟨c3, h⟩ | ⟨c3, h⟩
        · refine runX_condT rfl c3 ?_
          refine runX_seq ?_
          refine runX_regionC fun C hC => ?_
          try simp -implicitDefEqProofs (maxSteps := 4000000) (disch := first | omega | decide | (simp only [go_sem]; omega)) only [go_sem, ↓reduceIte]
          repeat (with_reducible refine And.intro (by first | assumption | omega | (simp; done) | (simp; omega)) ?_)
          refine toEnd hC ?_
          refine endX_seq ?_
          refine runX_ret ?_
          refine endX_blkR ?_
          refine endX_seqR ?_
          refine endX_q ?_
          obtain rfl := Option.some.inj h
          show RetW _ _ _ _ _
          simp only [RetW]
          (try simp -implicitDefEqProofs (maxSteps := 4000000) (disch := first | omega | decide | (simp only [go_sem]; omega)) only [go_sem, ↓reduceIte])
          (try simp (disch := omega) only [if_pos, Nat.sub_zero])
          exact leT_refl _
        · refine runX_condF rfl c3 ?_
          refine runX_seq ?_
          refine runX_regionC fun C hC => ?_
          try simp -implicitDefEqProofs (maxSteps := 4000000) (disch := first | omega | decide | (simp only [go_sem]; omega)) only [go_sem, ↓reduceIte]
          repeat (with_reducible refine And.intro (by first | assumption | omega | (simp; done) | (simp; omega)) ?_)
          refine toEnd hC ?_
          refine endX_seq ?_
          rcases iteB_some h with ⟨c4, h⟩ | ⟨c4, h⟩
          · refine runX_condT rfl c4 ?_
            refine runX_seq ?_
            refine runX_regionC fun C hC => ?_
            try simp -implicitDefEqProofs (maxSteps := 4000000) (disch := first | omega | decide | (simp only [go_sem]; omega)) only [go_sem, ↓reduceIte]
            repeat (with_reducible refine And.intro (by first | assumption | omega | (simp; done) | (simp; omega)) ?_)
            refine toEnd hC ?_
            refine endX_seq ?_
            refine runX_ret ?_
            refine endX_blkR ?_
            refine endX_seqR ?_
            refine endX_q ?_
            obtain rfl := Option.some.inj h
            show RetW _ _ _ _ _
            simp only [RetW]
            (try simp -implicitDefEqProofs (maxSteps := 4000000) (disch := first | omega | decide | (simp only [go_sem]; omega)) only [go_sem, ↓reduceIte])
            (try simp (disch := omega) only [if_pos, Nat.sub_zero])
            exact leT_refl _
          · refine runX_condF rfl c4 ?_
            refine runX_seq ?_
            refine runX_regionC fun C hC => ?_
            try simp -implicitDefEqProofs (maxSteps := 4000000) (disch := first | omega | decide | (simp only [go_sem]; omega)) only [go_sem, ↓reduceIte]
            repeat (with_reducible refine And.intro (by first | assumption | omega | (simp; done) | (simp; omega)) ?_)
            refine toEnd hC ?_
            refine endX_seq ?_
            rcases iteB_some h with ⟨c5, h⟩ | ⟨c5, h⟩
            · refine runX_condT rfl c5 ?_
              refine runX_seq ?_
              refine runX_regionC fun C hC => ?_
              try simp -implicitDefEqProofs (maxSteps := 4000000) (disch := first | omega | decide | (simp only [go_sem]; omega)) only [go_sem, ↓reduceIte]
              repeat (with_reducible refine And.intro (by first | assumption | omega | (simp; done) | (simp; omega)) ?_)
              refine toEnd hC ?_
              refine endX_seq ?_
              refine runX_ret ?_
              refine endX_blkR ?_
              refine endX_seqR ?_
              refine endX_q ?_
              obtain rfl := Option.some.inj h
              show RetW _ _ _ _ _
              simp only [RetW]
              (try simp -implicitDefEqProofs (maxSteps := 4000000) (disch := first | omega | decide | (simp only [go_sem]; omega)) only [go_sem, ↓reduceIte])
              (try simp (disch := omega) only [if_pos, Nat.sub_zero])
              exact leT_refl _
            · refine runX_condF rfl c5 ?_
              refine runX_meet [0, 1, 5, 16] (fun S => ∃ (x7 : Bool), S = F46_S1 a0 a1 x7 ∧ F46_J1 n a0 a1 x7 = some r) ?_ ?_
              · refine runX_seq ?_
                refine runX_regionC fun C hC => ?_
                try simp -implicitDefEqProofs (maxSteps := 4000000) (disch := first | omega | decide | (simp only [go_sem]; omega)) only [go_sem, ↓reduceIte]
                repeat (with_reducible refine And.intro (by first | assumption | omega | (simp; done) | (simp; omega)) ?_)
                refine toEnd hC ?_
                refine endX_seq ?_
                rcases iteB_some h with ⟨c6, h⟩ | ⟨c6, h⟩
                · refine runX_condT rfl c6 ?_
                  refine runX_skip ?_
                  refine endX_q (meetQ_normal ⟨F46_S1 a0 a1 (a0 == (9 : Int)), ?_, (a0 == (9 : Int)), rfl, h⟩)
                  simp only [F46_S1]
                  (try simp -implicitDefEqProofs (maxSteps := 4000000) (disch := first | omega | decide | (simp only [go_sem]; omega)) only [go_sem, ↓reduceIte])
                  first | exact leS_refl _ | (refine leS_le ?_ ?_ <;> first | exact leL_refl _ | exact leOs_refl _ | (repeat (first | exact leL_refl _ | refine leL_cons (by first | exact leT_refl _ | exact leT_virt | exact leT_junk _ | exact leT_sl | exact leT_sln | exact leT_nil | (refine leT_agg (by repeat (first | exact leL_refl _ | refine leL_cons (by first | exact leT_refl _ | exact leT_sl | exact leT_sln | exact leT_nil) ?_)))) ?_)))
                · refine runX_condF rfl c6 ?_
                  refine runX_regionC fun C hC => ?_
                  try simp -implicitDefEqProofs (maxSteps := 4000000) (disch := first | omega | decide | (simp only [go_sem]; omega)) only [go_sem, ↓reduceIte]
                  repeat (with_reducible refine And.intro (by first | assumption | omega | (simp; done) | (simp; omega)) ?_)
                  refine toEnd hC ?_
                  refine endX_q (meetQ_normal ⟨F46_S1 a0 a1 (a0 == (10 : Int)), ?_, (a0 == (10 : Int)), rfl, h⟩)
                  simp only [F46_S1]
                  (try simp -implicitDefEqProofs (maxSteps := 4000000) (disch := first | omega | decide | (simp only [go_sem]; omega)) only [go_sem, ↓reduceIte])
                  first | exact leS_refl _ | (refine leS_le ?_ ?_ <;> first | exact leL_refl _ | exact leOs_refl _ | (repeat (first | exact leL_refl _ | refine leL_cons (by first | exact leT_refl _ | exact leT_virt | exact leT_junk _ | exact leT_sl | exact leT_sln | exact leT_nil | (refine leT_agg (by repeat (first | exact leL_refl _ | refine leL_cons (by first | exact leT_refl _ | exact leT_sl | exact leT_sln | exact leT_nil) ?_)))) ?_)))
              · clear h
                rintro S ⟨x7, rfl, h⟩
                rw [F46_J1] at h
                simp only [F46_S1]
                rcases iteB_some h with ⟨c8, h⟩ | ⟨c8, h⟩
                · refine runX_condT rfl c8 ?_
                  refine runX_seq ?_
                  refine runX_regionC fun C hC => ?_
                  try simp -implicitDefEqProofs (maxSteps := 4000000) (disch := first | omega | decide | (simp only [go_sem]; omega)) only [go_sem, ↓reduceIte]
                  repeat (with_reducible refine And.intro (by first | assumption | omega | (simp; done) | (simp; omega)) ?_)
                  refine toEnd hC ?_
                  refine endX_seq ?_
                  refine runX_ret ?_
                  refine endX_blkR ?_
                  refine endX_seqR ?_
                  refine endX_q ?_
                  obtain rfl := Option.some.inj h
                  show RetW _ _ _ _ _
                  simp only [RetW]
                  (try simp -implicitDefEqProofs (maxSteps := 4000000) (disch := first | omega | decide | (simp only [go_sem]; omega)) only [go_sem, ↓reduceIte])
                  (try simp (disch := omega) only [if_pos, Nat.sub_zero])
                  exact leT_refl _
                · refine runX_condF rfl c8 ?_
                  refine runX_seq ?_
                  refine runX_seq ?_
                  refine runX_regionC fun C hC => ?_
                  try simp -implicitDefEqProofs (maxSteps := 4000000) (disch := first | omega | decide | (simp only [go_sem]; omega)) only [go_sem, ↓reduceIte]
                  repeat (with_reducible refine And.intro (by first | assumption | omega | (simp; done) | (simp; omega)) ?_)
                  refine toEnd hC ?_
                  refine endX_seq ?_
                  rcases iteB_some h with ⟨c9, h⟩ | ⟨c9, h⟩
                  · refine runX_condT rfl c9 ?_
                    refine runX_skip ?_
                    refine endX_seq ?_
                    rcases iteB_some h with ⟨c10, h⟩ | ⟨c10, h⟩
                    · refine runX_condT rfl c10 ?_
                      refine runX_seq ?_
                      refine runX_regionC fun C hC => ?_
                      try simp -implicitDefEqProofs (maxSteps := 4000000) (disch := first | omega | decide | (simp only [go_sem]; omega)) only [go_sem, ↓reduceIte]
                      repeat (with_reducible refine And.intro (by first | assumption | omega | (simp; done) | (simp; omega)) ?_)
                      refine toEnd hC ?_
                      refine endX_seq ?_
                      refine runX_ret ?_
                      refine endX_blkR ?_
                      refine endX_seqR ?_
                      refine endX_q ?_
                      obtain rfl := Option.some.inj h
                      show RetW _ _ _ _ _
                      simp only [RetW]
                      (try simp -implicitDefEqProofs (maxSteps := 4000000) (disch := first | omega | decide | (simp only [go_sem]; omega)) only [go_sem, ↓reduceIte])
                      (try simp (disch := omega) only [if_pos, Nat.sub_zero])
                      exact leT_refl _
                    · refine runX_condF rfl c10 ?_
                      refine runX_skip ?_
                      refine endX_blk ?_
                      refine endX_seq ?_
                      refine runX_seq ?_
                      refine runX_seq ?_
                      refine runX_regionC fun C hC => ?_
                      try simp -implicitDefEqProofs (maxSteps := 4000000) (disch := first | omega | decide | (simp only [go_sem]; omega)) only [go_sem, ↓reduceIte]
                      repeat (with_reducible refine And.intro (by first | assumption | omega | (simp; done) | (simp; omega)) ?_)
                      refine toEnd hC ?_
                      refine endX_seq ?_
                      rcases iteB_some h with ⟨c11, h⟩ | ⟨c11, h⟩
                      · refine runX_condT rfl c11 ?_
                        refine runX_seq ?_
                        refine runX_regionC fun C hC => ?_
                        try simp -implicitDefEqProofs (maxSteps := 4000000) (disch := first | omega | decide | (simp only [go_sem]; omega)) only [go_sem, ↓reduceIte]
                        repeat (with_reducible refine And.intro (by first | assumption | omega | (simp; done) | (simp; omega)) ?_)
                        refine toEnd hC ?_
                        refine endX_seq ?_
                        refine runX_ret ?_
                        refine endX_seqR ?_
                        refine endX_q ?_
                        obtain rfl := Option.some.inj h
                        show RetW _ _ _ _ _
                        simp only [RetW]
                        (try simp -implicitDefEqProofs (maxSteps := 4000000) (disch := first | omega | decide | (simp only [go_sem]; omega)) only [go_sem, ↓reduceIte])
                        (try simp (disch := omega) only [if_pos, Nat.sub_zero])
                        exact leT_refl _
                      · refine runX_condF rfl c11 ?_
                        refine runX_skip ?_
                        refine endX_seq ?_
                        refine runX_seq ?_
                        refine runX_regionC fun C hC => ?_
                        try simp -implicitDefEqProofs (maxSteps := 4000000) (disch := first | omega | decide | (simp only [go_sem]; omega)) only [go_sem, ↓reduceIte]
                        repeat (with_reducible refine And.intro (by first | assumption | omega | (simp; done) | (simp; omega)) ?_)
                        refine toEnd hC ?_
                        refine endX_seq ?_
                        refine runX_ret ?_
                        refine endX_q ?_
                        obtain rfl := Option.some.inj h
                        show RetW _ _ _ _ _
                        simp only [RetW]
                        (try simp -implicitDefEqProofs (maxSteps := 4000000) (disch := first | omega | decide | (simp only [go_sem]; omega)) only [go_sem, ↓reduceIte])
                        (try simp (disch := omega) only [if_pos, Nat.sub_zero])
                        exact leT_refl _
                  · refine runX_condF rfl c9 ?_
                    refine runX_regionC fun C hC => ?_
                    try simp -implicitDefEqProofs (maxSteps := 4000000) (disch := first | omega | decide | (simp only [go_sem]; omega)) only [go_sem, ↓reduceIte]
                    repeat (with_reducible refine And.intro (by first | assumption | omega | (simp; done) | (simp; omega)) ?_)
                    refine toEnd hC ?_
                    refine endX_seq ?_
                    rcases iteB_some h with ⟨c12, h⟩ | ⟨c12, h⟩
                    · refine runX_condT rfl c12 ?_
                      refine runX_seq ?_
                      refine runX_regionC fun C hC => ?_
                      try simp -implicitDefEqProofs (maxSteps := 4000000) (disch := first | omega | decide | (simp only [go_sem]; omega)) only [go_sem, ↓reduceIte]
                      repeat (with_reducible refine And.intro (by first | assumption | omega | (simp; done) | (simp; omega)) ?_)
                      refine toEnd hC ?_
                      refine endX_seq ?_
                      refine runX_ret ?_
                      refine endX_blkR ?_
                      refine endX_seqR ?_
                      refine endX_q ?_
                      obtain rfl := Option.some.inj h
                      show RetW _ _ _ _ _
                      simp only [RetW]
                      (try simp -implicitDefEqProofs (maxSteps := 4000000) (disch := first | omega | decide | (simp only [go_sem]; omega)) only [go_sem, ↓reduceIte])
                      (try simp (disch := omega) only [if_pos, Nat.sub_zero])
                      exact leT_refl _
                    · refine runX_condF rfl c12 ?_
                      refine runX_skip ?_
                      refine endX_blk ?_
                      refine endX_seq ?_
                      refine runX_seq ?_
                      refine runX_seq ?_
                      refine runX_regionC fun C hC => ?_
                      try simp -implicitDefEqProofs (maxSteps := 4000000) (disch := first | omega | decide | (simp only [go_sem]; omega)) only [go_sem, ↓reduceIte]
                      repeat (with_reducible refine And.intro (by first | assumption | omega | (simp; done) | (simp; omega)) ?_)
                      refine toEnd hC ?_
                      refine endX_seq ?_
                      rcases iteB_some h with ⟨c13, h⟩ | ⟨c13, h⟩
                      · refine runX_condT rfl c13 ?_
                        refine runX_seq ?_
                        refine runX_regionC fun C hC => ?_
                        try simp -implicitDefEqProofs (maxSteps := 4000000) (disch := first | omega | decide | (simp only [go_sem]; omega)) only [go_sem, ↓reduceIte]
                        repeat (with_reducible refine And.intro (by first | assumption | omega | (simp; done) | (simp; omega)) ?_)
                        refine toEnd hC ?_
                        refine endX_seq ?_
                        refine runX_ret ?_
                        refine endX_seqR ?_
                        refine endX_q ?_
                        obtain rfl := Option.some.inj h
                        show RetW _ _ _ _ _
                        simp only [RetW]
                        (try simp -implicitDefEqProofs (maxSteps := 4000000) (disch := first | omega | decide | (simp only [go_sem]; omega)) only [go_sem, ↓reduceIte])
                        (try simp (disch := omega) only [if_pos, Nat.sub_zero])
                        exact leT_refl _
                      · refine runX_condF rfl c13 ?_
                        refine runX_skip ?_
                        refine endX_seq ?_
                        refine runX_seq ?_
                        refine runX_regionC fun C hC => ?_
                        try simp -implicitDefEqProofs (maxSteps := 4000000) (disch := first | omega | decide | (simp only [go_sem]; omega)) only [go_sem, ↓reduceIte]
                        repeat (with_reducible refine And.intro (by first | assumption | omega | (simp; done) | (simp; omega)) ?_)
                        refine toEnd hC ?_
                        refine endX_seq ?_
                        refine runX_ret ?_
                        refine endX_q ?_
                        obtain rfl := Option.some.inj h
                        show RetW _ _ _ _ _
                        simp only [RetW]
                        (try simp -implicitDefEqProofs (maxSteps := 4000000) (disch := first | omega | decide | (simp only [go_sem]; omega)) only [go_sem, ↓reduceIte])
                        (try simp (disch := omega) only [if_pos, Nat.sub_zero])
                        exact leT_refl _
end Go.Proofs.YtbamlphgolldlaaX

set_option linter.unusedVariables false
set_option linter.unusedSimpArgs false
namespace Go.Proofs.YtbamlphgolldlaaX
open Go Go.RowKit Go.Proofs
set_option maxRecDepth 100000
/-! ### strings.Builder's String: by hand (the text shares the bytes: the row is given up) -/
-- OWN 0 1 uint8
-- DEAD 0
def F47 (n : Nat) (a0 : Bool × List Int) : Option (List UInt8 × (Bool × List Int)) := if a0.2.length ≤ 549755813888 ∧ (a0.2.all fun x => decide (0 ≤ x) && decide (x < 256)) = true then some (a0.2.map toB, a0) else none
-- F87
set_option maxHeartbeats 2000000 in
set_option maxRecDepth 100000 in
/-- Some bytes. -/
theorem bst_row (b g cap sz : Nat) (p : Value) (l : List UInt8) (h0 : l ≠ []) (hl : l.length ≤ 549755813888) (w : World) (fr fr' : Nat × Nat) (cur : Array Value) (hbk : w.heap[b]? = some (.cells #[p, .slice (some ⟨g, 0, none⟩) l.length cap] 71 fr)) (hg : w.heap[g]? = some (.cells cur 5 fr')) (hc : cap ≠ 0) (hsz : l.length ≤ cur.size)
    (hcell : ∀ j x, l[j]? = some x → w.cell? ((⟨g, 0, none⟩ : Addr).add j) = some (.int .u8 x.toNat)) :
    Calls Try.prog 47 #[.pointer (some ⟨b, 0, none⟩)] w fun e w' => e = .returned (.string ⟨l.toArray⟩) ∧ w' = w.drew.freeze ⟨g, 0, none⟩ l.length := by
  have c1 : w.drew.cell? ⟨b, 1, none⟩ = some (.slice (some ⟨g, 0, none⟩) l.length cap) := by
    have : w.drew.heap[b]? = some (.cells #[p, .slice (some ⟨g, 0, none⟩) l.length cap] 71 fr) := hbk
    simp [World.cell?, this]
  have hSD : (Builtin.unsafeSliceData_ #[47] 121 #[.slice (some ⟨g, 0, none⟩) l.length cap]).run Try.prog w.drew = .ok (.pointer (some ⟨g, 0, none⟩)) w.drew :=
    Lib.run_unsafeSliceData_row _ _ _ _ _ _ hc
  have hUS : (Builtin.unsafeString_ #[121, 3] 9 #[.pointer (some ⟨g, 0, none⟩), .int .i64 l.length]).run Try.prog w.drew = .ok (.string ⟨l.toArray⟩) (w.drew.freeze ⟨g, 0, none⟩ l.length) := by
    refine Lib.run_unsafeString_row w.drew 121 3 9 5 (by kernel_rfl) (by kernel_rfl) g cur.size (by have hg' : w.drew.heap[g]? = some (.cells cur 5 fr') := hg; simp [World.shape?, hg']) l h0 hsz (by omega) ?_
    intro j x hx
    exact hcell j x hx
  go_enter Try.func47, Try.ntmps47
  go_wp2
  go_region
  all_goals (go_wp2; go_ret; exact ⟨rfl, rfl⟩)
set_option maxHeartbeats 2000000 in
set_option maxRecDepth 100000 in
/-- No byte, over no row. -/
theorem bst_nil (b : Nat) (p : Value) (w : World) (fr : Nat × Nat) (hbk : w.heap[b]? = some (.cells #[p, .slice none 0 0] 71 fr)) :
    Calls Try.prog 47 #[.pointer (some ⟨b, 0, none⟩)] w fun e w' => e = .returned (.string ⟨#[]⟩) ∧ Below w.heap.size w w' := by
  have hUS : ∀ (W : World) (q : Option Addr), (Builtin.unsafeString_ #[121, 3] 9 #[.pointer q, .int .i64 0]).run Try.prog W = .ok (.string .empty) W := fun W q => Lib.run_unsafeString_none W _ _ _ q
  have c1 : w.drew.cell? ⟨b, 1, none⟩ = some (.slice none 0 0) := by
    have : w.drew.heap[b]? = some (.cells #[p, .slice none 0 0] 71 fr) := hbk
    simp [World.cell?, this]
  have hSD : (Builtin.unsafeSliceData_ #[47] 121 #[.slice none 0 0]).run Try.prog w.drew = .ok (.pointer none) w.drew := rfl
  go_enter Try.func47, Try.ntmps47
  go_wp2
  go_region
  all_goals (go_wp2; go_ret; exact ⟨rfl, Below.drew (Below.refl _ w)⟩)
set_option maxHeartbeats 2000000 in
set_option maxRecDepth 100000 in
/-- No byte, over a row without room. -/
theorem bst_noroom (b : Nat) (a : Addr) (p : Value) (w : World) (fr fr' : Nat × Nat) (cur : Array Value) (t : TypeId) (hbk : w.heap[b]? = some (.cells #[p, .slice (some a) 0 0] 71 fr)) (hg : w.heap[a.block]? = some (.cells cur t fr')) :
    Calls Try.prog 47 #[.pointer (some ⟨b, 0, none⟩)] w fun e w' => e = .returned (.string ⟨#[]⟩) ∧ Below w.heap.size w w' := by
  have hUS : ∀ (W : World) (q : Option Addr), (Builtin.unsafeString_ #[121, 3] 9 #[.pointer q, .int .i64 0]).run Try.prog W = .ok (.string .empty) W := fun W q => Lib.run_unsafeString_none W _ _ _ q
  have hlt : b < w.heap.size := (Array.getElem?_eq_some_iff.1 hbk).1
  have c1 : w.drew.cell? ⟨b, 1, none⟩ = some (.slice (some a) 0 0) := by
    have : w.drew.heap[b]? = some (.cells #[p, .slice (some a) 0 0] 71 fr) := hbk
    simp [World.cell?, this]
  have hSD : (Builtin.unsafeSliceData_ #[47] 121 #[.slice (some a) 0 0]).run Try.prog w.drew = .ok (.pointer (some ⟨w.drew.heap.size, 0, none⟩)) (w.drew.alloc (.view a 5)) :=
    Lib.run_unsafeSliceData_zero w.drew _ _ 5 (by kernel_rfl) a 0 (t, cur.size) (by have hg' : w.drew.heap[a.block]? = some (.cells cur t fr') := hg; simp [World.shape?, hg'])
  have c2 : (w.drew.alloc (.view a 5)).cell? ⟨b, 1, none⟩ = some (.slice (some a) 0 0) := by
    have : (w.drew.alloc (.view a 5)).heap[b]? = _ := (Lib.alloc_old w.drew _ b hlt).trans hbk
    simp [World.cell?, this]
  have c3 : (w.alloc (.view a 5)).drew.cell? ⟨b, 1, none⟩ = some (.slice (some a) 0 0) := c2
  have c0 : w.cell? ⟨b, 1, none⟩ = some (.slice (some a) 0 0) := c1
  go_enter Try.func47, Try.ntmps47
  go_wp2
  go_region
  all_goals (go_wp2; go_ret; exact ⟨rfl, (Below.drew (Below.refl _ w)).alloc (Nat.le_refl _) _⟩)
set_option maxHeartbeats 2000000 in
set_option maxRecDepth 100000 in
/-- No byte, over a row with room. -/
theorem bst_room (b cap : Nat) (a : Addr) (p : Value) (w : World) (fr : Nat × Nat) (hc0 : cap ≠ 0) (hbk : w.heap[b]? = some (.cells #[p, .slice (some a) 0 cap] 71 fr)) :
    Calls Try.prog 47 #[.pointer (some ⟨b, 0, none⟩)] w fun e w' => e = .returned (.string ⟨#[]⟩) ∧ Below w.heap.size w w' := by
  have hUS : ∀ (W : World) (q : Option Addr), (Builtin.unsafeString_ #[121, 3] 9 #[.pointer q, .int .i64 0]).run Try.prog W = .ok (.string .empty) W := fun W q => Lib.run_unsafeString_none W _ _ _ q
  have c1 : w.drew.cell? ⟨b, 1, none⟩ = some (.slice (some a) 0 cap) := by
    have : w.drew.heap[b]? = some (.cells #[p, .slice (some a) 0 cap] 71 fr) := hbk
    simp [World.cell?, this]
  have hSD : (Builtin.unsafeSliceData_ #[47] 121 #[.slice (some a) 0 cap]).run Try.prog w.drew = .ok (.pointer (some a)) w.drew :=
    Lib.run_unsafeSliceData_row _ _ _ _ _ _ hc0
  clear hc0
  go_enter Try.func47, Try.ntmps47
  go_wp2
  go_region
  all_goals (go_wp2; go_ret; exact ⟨rfl, Below.drew (Below.refl _ w)⟩)
/-- What the rows of a builder are behind String. -/
def bldD (b : Bool) : List (Option Own) := [some (.box (4294967296 + 71) (.agg [adT b 0, .junk]) false), some .dead]
theorem bst_objs {w w' : World} {μ : Nat → Option Nat} {ban : Ban} {b : Bool} {l : List Int} {g : Nat} {fr : Nat × Nat} {v1 : Value} (hO : Objs ⟨w, μ, bldO b l, ban⟩) (h1 : μ 0 = some g)
    (h2 : w'.heap[g]? = some (.cells #[if b = true then .pointer (some ⟨g, 0, none⟩) else .pointer none, v1] 71 fr)) (h3 : Unf fr 2) : Objs ⟨w', μ, bldD b, ban⟩ := by
  obtain ⟨g', _, _, k1, _, _, _, _, hp⟩ := hO.at_ 0 _ rfl
  have k1 : μ 0 = some g' := k1
  obtain rfl : g' = g := Option.some.inj (k1.symm.trans h1)
  refine ⟨fun o x hx => ?_, fun o o' x x' q hx hx' hd hd' _ _ => ?_⟩
  · match o, hx with
    | 0, hx =>
      have hx : some (some (Own.box (4294967296 + 71) (.agg [adT b 0, .junk]) false)) = some (some x) := hx
      injection hx with hx; injection hx with hx; subst hx
      refine ⟨g', fr, .agg #[if b = true then .pointer (some ⟨g', 0, none⟩) else .pointer none, v1], h1, h2, h3, ?_, rfl, hp⟩
      simp only [Rep]
      refine ⟨_, rfl, ?_⟩
      simp only [RepL]
      refine ⟨_, _, rfl, ?_, _, _, rfl, by simp only [Rep], rfl⟩
      cases b with
      | true =>
        show Rep _ false (.ref 0 7777 0 0) _
        simp only [Rep]
        exact ⟨trivial, ⟨_, rfl⟩, g', h1, by simp⟩
      | false =>
        show Rep _ false (.imm (.pointer none)) _
        simp [Rep, flat]
    | 1, hx =>
      have hx : some (some Own.dead) = some (some x) := hx
      injection hx with hx; injection hx with hx; subst hx
      trivial
    | o + 2, hx => exact absurd (show (none : Option (Option Own)) = some (some x) from hx) (by simp)
  · match o, o', hx, hx' with
    | 0, 0, _, _ => rfl
    | 1, _, hx, _ =>
      have hx : some (some Own.dead) = some (some x) := hx
      injection hx with hx; injection hx with hx; exact absurd hx.symm hd
    | _, 1, _, hx =>
      have hx : some (some Own.dead) = some (some x') := hx
      injection hx with hx; injection hx with hx; exact absurd hx.symm hd'
    | o + 2, _, hx, _ => exact absurd (show (none : Option (Option Own)) = some (some x) from hx) (by simp)
    | 0, o + 2, _, hx => exact absurd (show (none : Option (Option Own)) = some (some x') from hx) (by simp)
theorem bst_bytes (l : List Int) (h : (l.all fun x => decide (0 ≤ x) && decide (x < 256)) = true) (j : Nat) (x : UInt8) (hx : (l.map toB)[j]? = some x) : l[j]? = some (x.toNat : Int) := by
  rw [List.getElem?_map] at hx
  cases hl : l[j]? with
  | none => rw [hl] at hx; cases hx
  | some y =>
    rw [hl] at hx
    have hx : toB y = x := Option.some.inj hx
    obtain ⟨hj, e⟩ := List.getElem?_eq_some_iff.1 hl
    have hy := List.all_eq_true.1 h y (e ▸ List.getElem_mem hj)
    simp only [Bool.and_eq_true, decide_eq_true_eq] at hy
    subst hx
    simp only [toB, Option.some.injEq]
    rw [UInt8.toNat_ofNat', Nat.mod_eq_of_lt (by omega)]
    omega
theorem bst_inj : ∀ l ns : List Int, List.map byteT l = List.map byteT ns → l = ns
  | [], [], _ => rfl
  | [], _ :: _, h => by simp at h
  | _ :: _, [], h => by simp at h
  | x :: l, y :: ns, h => by
    simp only [List.map_cons, List.cons.injEq] at h
    obtain ⟨h1, h2⟩ := h
    have h1 : T.imm (.int .u8 x) = T.imm (.int .u8 y) := h1
    injection h1 with h1; injection h1 with _ h1
    rw [h1, bst_inj l ns h2]
theorem bst_kept {B : Base} {q n : Nat} (h : B.own q 0) (hz : ∀ k lk, B.own k lk → lk = 0) : Kept B (B.w.drew.freeze ⟨q, 0, none⟩ n) := by
  unfold World.freeze
  split
  · exact Kept.below ⟨rfl, rfl, rfl, Nat.le_refl _, fun _ _ _ => rfl, fun _ _ _ _ _ => rfl, fun k lk _ c t fr h => ⟨c, fr, h, rfl⟩⟩ (Below.drew (Below.refl _ _))
  · refine ⟨rfl, rfl, rfl, ?_, fun k hk h1 => ?_, fun k lk h1 j hj => ?_, fun k lk h1 c t fr hb => ?_⟩
    · show _ ≤ (B.w.heap.modify _ _).size
      rw [Array.size_modify]; exact Nat.le_refl _
    · show (B.w.heap.modify _ _)[k]? = _
      rw [Array.getElem?_modify, if_neg (show ¬ q = k from fun e => h1 0 (e ▸ h))]
    · rw [hz k lk h1] at hj; omega
    · show ∃ c' fr', (B.w.heap.modify _ _)[k]? = _ ∧ _
      rw [Array.getElem?_modify]
      split
      · rw [hb]; exact ⟨c, _, rfl, rfl⟩
      · exact ⟨c, fr, hb, rfl⟩
theorem F47_ok (n : Nat) (a0 : Bool × List Int) (r : List UInt8 × (Bool × List Int)) (h : F47 n a0 = some r) : FnR Try.prog 47 [some (.box (4294967296 + 71) (.agg [adT a0.1 0, .rsl 1 1 0 a0.2.length]) false), some (.buf 5 1 (List.map byteT a0.2) 0)] [.ref 0 0 0 0] (.imm (.string (bs r.1))) [some (.box (4294967296 + 71) (.agg [adT r.2.1 0, .junk]) false), some .dead] := by
  unfold F47 at h
  split at h
  case isFalse => cases h
  rename_i hl
  obtain ⟨hl, hb⟩ := hl
  obtain rfl := Option.some.inj h
  obtain ⟨b, l⟩ := a0
  dsimp only at hl hb ⊢
  refine ⟨⟨Try.f47, Try.func47, by kernel_rfl, rfl⟩, by simp [rowsOk, refsC, refsCL, adT_refsC, tagM], by simp [sameO], by simp [refsC, refsCL], fun B μ vs hO hOwn hv => ?_⟩
  obtain ⟨g, fr, v1, h1, h2, h3, h4⟩ := bldO_at (b := b) (l := l) hO
  have evs : vs = #[.pointer (some ⟨g, 0, none⟩)] := by
    simp only [RepL, Rep] at hv
    obtain ⟨v, vs', e1, ⟨_, _, g', k1, rfl⟩, rfl⟩ := hv
    have k1 : μ 0 = some g' := k1
    rw [h1] at k1; cases k1
    rw [← Array.toArray_toList (xs := vs), e1]
  have hk0 : Kept B B.w := ⟨rfl, rfl, rfl, Nat.le_refl _, fun _ _ _ => rfl, fun _ _ _ _ _ => rfl, fun k lk _ c t fr h => ⟨c, fr, h, rfl⟩⟩
  have hlt : g < B.w.heap.size := (Array.getElem?_eq_some_iff.1 h2).1
  have hown : ∀ (o : Nat) (x : Own) (q : Nat), (bldD b)[o]? = some (some x) → x ≠ .dead → μ o = some q → B.w.heap.size ≤ q ∨ B.own q 0 := fun o x q q1 q2 q3 =>
    .inr ((hOwn.1 q 0).2 ⟨rfl, o, (List.getElem?_eq_some_iff.1 q1).1, q3⟩)
  have hout : ∀ (e : Ending) (w' : World), l = [] → e = .returned (.string ⟨#[]⟩) ∧ Below B.w.heap.size B.w w' → ∃ u μ', e = .returned u ∧ Objs ⟨w', μ', bldD b, B.ban⟩ ∧ Rep ⟨w', μ', bldD b, B.ban⟩ false (.imm (.string (bs (l.map toB)))) u ∧ Kept B w' ∧
      (∀ (o : Nat) (x : Own) (q : Nat), (bldD b)[o]? = some (some x) → x ≠ .dead → μ' o = some q → B.w.heap.size ≤ q ∨ B.own q 0) := by
    rintro e w' rfl ⟨rfl, hw⟩
    exact ⟨_, μ, rfl, bst_objs hO h1 ((hw.block g hlt).trans h2) h3, by simp only [Rep]; exact ⟨rfl, rfl⟩, hk0.below hw, hown⟩
  rw [evs]
  simp only [Rep] at h4
  obtain ⟨_, _, h4⟩ := h4
  rcases h4 with ⟨_, hl0, _, ⟨a, ha⟩, rfl⟩ | ⟨q, p, cap, c, t, fr', m1, rfl, m2, m3, m4, m5⟩
  · have e : l = [] := List.eq_nil_of_length_eq_zero hl0
    cases a with
    | none => exact (bst_nil g _ B.w fr h2).mono fun e' w' h' => hout e' w' e h'
    | some a =>
      obtain ⟨c, t, fr', hc⟩ := ha a rfl
      exact (bst_noroom g a _ B.w fr fr' c t h2 hc).mono fun e' w' h' => hout e' w' e h'
  · by_cases e : l = []
    · subst e
      by_cases hc : cap = 0
      · subst hc
        exact (bst_noroom g ⟨q, p, none⟩ _ B.w fr fr' c t h2 m4).mono fun e' w' h' => hout e' w' rfl h'
      · exact (bst_room g cap ⟨q, p, none⟩ _ B.w fr hc h2).mono fun e' w' h' => hout e' w' rfl h'
    · have hll : l.length ≠ 0 := fun h => e (List.eq_nil_of_length_eq_zero h)
      have hc : cap ≠ 0 := by omega
      have hp : p = 0 := by rcases m3 with h | h; exact absurd h hc; omega
      subst hp
      obtain ⟨_, hbuf⟩ := hO.at_ 1 _ rfl
      rcases hbuf with ⟨_, h0⟩ | ⟨q', c', fr2, c1, c2, n1, n2, n3, n4, n5⟩
      · exact absurd (List.map_eq_nil_iff.1 h0) e
      have n1 : μ 1 = some q' := n1
      obtain rfl : q' = q := Option.some.inj (n1.symm.trans m1)
      have n2 : B.w.heap[q']? = some (.cells c' 5 fr2) := n2
      obtain ⟨ns, e1, e2⟩ := bytes_rep n5 (fun x hx => by obtain ⟨y, _, rfl⟩ := List.mem_map.1 hx; rfl)
      obtain rfl := bst_inj _ _ e2
      have hsz : (l.map toB).length ≤ c'.size := by
        rw [← Array.length_toList, n4, e1]; simp
      have hcell : ∀ j x, (l.map toB)[j]? = some x → B.w.cell? ((⟨q', 0, none⟩ : Addr).add j) = some (.int .u8 x.toNat) := by
        intro j x hx
        have hj := bst_bytes l hb j x hx
        have hjl : j < c1.length := by rw [e1, List.length_map]; exact (List.getElem?_eq_some_iff.1 hj).1
        have : c'[j]? = some (.int .u8 x.toNat) := by
          rw [← Array.getElem?_toList, n4, List.getElem?_append_left hjl, e1, List.getElem?_map, hj]; rfl
        have ea : ((⟨q', 0, none⟩ : Addr).add j) = ⟨q', j, none⟩ := by
          unfold Addr.add
          split
          · subst_vars; rfl
          · simp
        rw [ea]
        simp only [World.cell?, n2]
        exact this
      have hne : g ≠ q' := fun e' => by
        have := hO.inj 0 1 _ _ g rfl rfl (by simp) (by simp) h1 (e' ▸ n1)
        omega
      have h2' : B.w.heap[g]? = some (.cells #[if b = true then .pointer (some ⟨g, 0, none⟩) else .pointer none, .slice (some ⟨q', 0, none⟩) (l.map toB).length cap] 71 fr) := by rw [List.length_map]; exact h2
      refine (bst_row g q' cap c'.size _ (l.map toB) (by simpa using e) (by rw [List.length_map]; exact hl) B.w fr fr2 c' h2' n2 hc hsz hcell).mono ?_
      rintro e' w' ⟨rfl, rfl⟩
      have hw : (B.w.drew.freeze ⟨q', 0, none⟩ (l.map toB).length).heap[g]? = B.w.heap[g]? := by
        unfold World.freeze
        split
        · rfl
        · show (B.w.heap.modify _ _)[g]? = _
          rw [Array.getElem?_modify, if_neg (fun h => hne h.symm)]
      exact ⟨_, μ, rfl, bst_objs hO h1 (hw.trans h2) h3, by simp only [Rep]; exact ⟨rfl, rfl⟩, bst_kept ((hOwn.1 q' 0).2 ⟨rfl, 1, by simp, n1⟩) (fun k lk h => ((hOwn.1 k lk).1 h).1), hown⟩

end Go.Proofs.YtbamlphgolldlaaX

set_option linter.unusedVariables false
set_option linter.unusedSimpArgs false
namespace Go.Proofs.YtbamlphgolldlaaX
open Go Go.RowKit Go.Proofs
set_option maxRecDepth 100000
attribute [local go_sem ↓] stepsK_build stepsK_build0 stepsK_bs stepsK_bs0 appendS
attribute [local go_sem] String.reduceEq String.reduceNe reduceCtorEq Int.reduceEq Nat.reduceAdd Nat.reduceSub Nat.reduceMul Nat.reduceLT Nat.reduceLeDiff Nat.reduceEqDiff Nat.reduceBEq Int.reduceToNat Int.reduceLT Int.reduceLE Int.reduceGT Int.reduceGE Int.reduceAdd Int.reduceSub Int.reduceMul Int.reduceNeg Int.reduceBEq Int.reduceBNe Int.reducePow Int.reduceDiv Int.reduceMod Int.reduceTDiv Int.reduceTMod Int.reduceNatCast
/-! ### xmlout.Escape -/
def F12_S1 (x2 : List UInt8) (x3 : Bool) (x4 : List (Int)) : St := ⟨[.imm (.string (bs x2)), .junk, .junk, .ref 0 0 0 0, .junk, .junk, .junk, .junk, .junk, .junk, .junk, .junk, .junk, .junk, .junk, .junk, .junk, .junk, .junk, .junk, .junk, .junk, .junk, .junk, .junk], [some (.box 71 (.agg [adT x3 0, .rsl 1 1 0 x4.length]) false), some (.buf 5 1 (List.map byteT x4) 0)]⟩
def F12_L1 : Nat → (List UInt8) → (Bool) → (List (Int)) → Option (List UInt8)
  | 0, _, _, _ => none
  | m1 + 1, x2, x3, x4 => iteB (!(x2 == [])) ((F44 m1 x2).bind fun v6 => grd (0 ≤ v6.2 ∧ v6.2 ≤ (x2.length : Int)) ((F46 m1 v6.1 (x2.take v6.2.toNat)).bind fun v8 => (F45 m1 (x3, x4) v8).bind fun v9 => grd (0 ≤ v6.2 ∧ v6.2 ≤ (x2.length : Int)) (F12_L1 m1 (x2.drop v6.2.toNat) v9.2.2.1 v9.2.2.2))) ((F47 m1 (x3, x4)).bind fun v11 => some v11.1)
def F12 (n : Nat) (a0 : List UInt8) : Option (List UInt8) := (F43 n a0).bind fun v1 => F12_L1 n v1 false []
set_option maxHeartbeats 4000000 in
theorem F12_ok : ∀ (n : Nat) (a0 : List UInt8) (r : List UInt8), F12 n a0 = some r → FnC Try.prog 12 [.imm (.string (bs a0))] (.imm (.string (bs r)))
  | n, a0, r, h => by
    unfold F12 at h
    refine FnC.goX mixed Try.func12 (by kernel_rfl) rfl ?_
    simp only [Try.ntmps12, List.length_cons, List.length_nil, List.replicate, List.cons_append, List.nil_append, Nat.reduceAdd, Nat.reduceSub]
    refine runX_seq ?_
    refine runX_regionC fun C hC => ?_
    try simp -implicitDefEqProofs (maxSteps := 4000000) (disch := first | omega | decide | (simp only [go_sem]; omega)) only [go_sem, ↓reduceIte]
    repeat (with_reducible refine And.intro (by first | assumption | omega | (simp; done) | (simp; omega)) ?_)
    refine toEnd hC ?_
    refine endX_seq ?_
    refine runX_seq ?_
    refine runX_regionC fun C hC => ?_
    try simp -implicitDefEqProofs (maxSteps := 4000000) (disch := first | omega | decide | (simp only [go_sem]; omega)) only [go_sem, ↓reduceIte]
    repeat (with_reducible refine And.intro (by first | assumption | omega | (simp; done) | (simp; omega)) ?_)
    refine toEnd hC ?_
    refine endX_seq ?_
    refine runX_seq ?_
    refine runX_seq ?_
    refine runX_regionC fun C hC => ?_
    obtain ⟨v1, h1, h⟩ := bnd_some h
    try simp -implicitDefEqProofs (maxSteps := 4000000) (disch := first | omega | decide | (simp only [go_sem]; omega)) only [go_sem, ↓reduceIte]
    repeat (with_reducible refine And.intro (by first | assumption | omega | (simp; done) | (simp; omega)) ?_)
    refine callG_X (by first | rfl | (simp only [go_sem]; done) | (simp only [closedL, closedT, Bool.and_true]; exact closedL_map _ (fun _ => by first | rfl | (simp only [go_sem]; done)) _)) (F43_ok n a0 _ h1) (by repeat (first | exact leL_refl _ | refine leL_cons (by first | exact leT_refl _ | exact leT_virt | exact leT_junk _ | exact leT_sl | exact leT_sln | exact leT_nil | (refine leT_agg (by repeat (first | exact leL_refl _ | refine leL_cons (by first | exact leT_refl _ | exact leT_sl | exact leT_sln | exact leT_nil) ?_)))) ?_)) ?_
    try simp -implicitDefEqProofs (maxSteps := 4000000) (disch := first | omega | decide | (simp only [go_sem]; omega)) only [go_sem, ↓reduceIte]
    repeat (with_reducible refine And.intro (by first | assumption | omega | (simp; done) | (simp; omega)) ?_)
    refine toEnd hC ?_
    refine endX_seq ?_
    refine runX_block ?_
    refine runX_loop [0, 3] (fun m S => ∃ (x2 : List UInt8) (x3 : Bool) (x4 : List (Int)), S = F12_S1 x2 x3 x4 ∧ m ≤ n ∧ F12_L1 m x2 x3 x4 = some r) n ⟨F12_S1 v1 false [], ?_, v1, false, [], rfl, Nat.le_refl _, h⟩ ?_
    · (try simp -implicitDefEqProofs (maxSteps := 4000000) (disch := first | omega | decide | (simp only [go_sem]; omega)) only [go_sem, ↓reduceIte])
      simp only [F12_S1]
      refine leS_trans (leS_pad _ _ 1) ?_
      simp only [List.replicate, List.cons_append, List.nil_append]
      refine leS_virt 1 5 1 rfl ?_ ?_ rfl
      · repeat (first | exact leL_refl _ | refine leL_cons (by first | exact leT_refl _ | exact leT_virt | exact leT_junk _ | exact leT_sl | exact leT_sln | exact leT_nil | (refine leT_agg (by repeat (first | exact leL_refl _ | refine leL_cons (by first | exact leT_refl _ | exact leT_sl | exact leT_sln | exact leT_nil) ?_)))) ?_)
      · repeat (first | exact leOs_refl _ | refine leOs.cons (by first | exact leO.same _ | (refine leO.box (leT_agg (by repeat (first | exact leL_refl _ | refine leL_cons (by first | exact leT_refl _ | exact leT_virt | exact leT_junk _ | exact leT_sl | exact leT_sln | exact leT_nil | (refine leT_agg (by repeat (first | exact leL_refl _ | refine leL_cons (by first | exact leT_refl _ | exact leT_sl | exact leT_sln | exact leT_nil) ?_)))) ?_))) rfl)) ?_)
    · clear h
      rintro m1 S ⟨x2, x3, x4, rfl, hm1, h⟩
      cases m1 with
      | zero => first | cases (show (none : Option _) = some _ from h) | (rw [F12_L1] at h; cases h)
      | succ m1 =>
        rw [F12_L1] at h
        simp only [F12_S1]
        refine runX_seq ?_
        refine runX_seq ?_
        refine runX_regionC fun C hC => ?_
        try simp -implicitDefEqProofs (maxSteps := 4000000) (disch := first | omega | decide | (simp only [go_sem]; omega)) only [go_sem, ↓reduceIte]
        repeat (with_reducible refine And.intro (by first | assumption | omega | (simp; done) | (simp; omega)) ?_)
        refine toEnd hC ?_
        refine endX_seq ?_
        rcases iteB_some h with ⟨c5, h⟩ | ⟨c5, h⟩
        · refine runX_condT rfl c5 ?_
          refine runX_skip ?_
          refine endX_seq ?_
          refine runX_block ?_
          refine runX_seq ?_
          refine runX_regionC fun C hC => ?_
          obtain ⟨v6, h6, h⟩ := bnd_some h
          try simp -implicitDefEqProofs (maxSteps := 4000000) (disch := first | omega | decide | (simp only [go_sem]; omega)) only [go_sem, ↓reduceIte]
          repeat (with_reducible refine And.intro (by first | assumption | omega | (simp; done) | (simp; omega)) ?_)
          refine callG_X (by first | rfl | (simp only [go_sem]; done) | (simp only [closedL, closedT, Bool.and_true]; exact closedL_map _ (fun _ => by first | rfl | (simp only [go_sem]; done)) _)) (F44_ok m1 x2 _ h6) (by repeat (first | exact leL_refl _ | refine leL_cons (by first | exact leT_refl _ | exact leT_virt | exact leT_junk _ | exact leT_sl | exact leT_sln | exact leT_nil | (refine leT_agg (by repeat (first | exact leL_refl _ | refine leL_cons (by first | exact leT_refl _ | exact leT_sl | exact leT_sln | exact leT_nil) ?_)))) ?_)) ?_
          try simp -implicitDefEqProofs (maxSteps := 4000000) (disch := first | omega | decide | (simp only [go_sem]; omega)) only [go_sem, ↓reduceIte]
          repeat (with_reducible refine And.intro (by first | assumption | omega | (simp; done) | (simp; omega)) ?_)
          refine toEnd hC ?_
          refine endX_seq ?_
          refine runX_seq ?_
          refine runX_regionC fun C hC => ?_
          obtain ⟨g7, h⟩ := grd_some h
          obtain ⟨v8, h8, h⟩ := bnd_some h
          try simp -implicitDefEqProofs (maxSteps := 4000000) (disch := first | omega | decide | (simp only [go_sem]; omega)) only [go_sem, ↓reduceIte]
          repeat (with_reducible refine And.intro (by first | assumption | omega | (simp; done) | (simp; omega)) ?_)
          refine callG_X (by first | rfl | (simp only [go_sem]; done) | (simp only [closedL, closedT, Bool.and_true]; exact closedL_map _ (fun _ => by first | rfl | (simp only [go_sem]; done)) _)) (F46_ok m1 v6.1 (x2.take v6.2.toNat) _ h8) (by repeat (first | exact leL_refl _ | refine leL_cons (by first | exact leT_refl _ | exact leT_virt | exact leT_junk _ | exact leT_sl | exact leT_sln | exact leT_nil | (refine leT_agg (by repeat (first | exact leL_refl _ | refine leL_cons (by first | exact leT_refl _ | exact leT_sl | exact leT_sln | exact leT_nil) ?_)))) ?_)) ?_
          obtain ⟨v9, h9, h⟩ := bnd_some h
          try simp -implicitDefEqProofs (maxSteps := 4000000) (disch := first | omega | decide | (simp only [go_sem]; omega)) only [go_sem, ↓reduceIte]
          repeat (with_reducible refine And.intro (by first | assumption | omega | (simp; done) | (simp; omega)) ?_)
          refine callR_X [0, 1] (F45_ok m1 (x3, x4) v8 _ h9) (by decide) (by (try simp -implicitDefEqProofs (maxSteps := 4000000) (disch := first | omega | decide | (simp only [go_sem]; omega)) only [go_sem, ↓reduceIte]); repeat (first | exact trivial | refine And.intro ?_ ?_ | exact fun _ => trivial | exact fun _ _ => trivial | exact fun _ _ h => h | rfl | decide)) (by (try simp -implicitDefEqProofs (maxSteps := 4000000) (disch := first | omega | decide | (simp only [go_sem]; omega)) only [go_sem, ↓reduceIte]); repeat (first | exact leL_refl _ | refine leL_cons (by first | exact leT_refl _ | exact leT_virt | exact leT_junk _ | exact leT_sl | exact leT_sln | exact leT_nil | (refine leT_agg (by repeat (first | exact leL_refl _ | refine leL_cons (by first | exact leT_refl _ | exact leT_sl | exact leT_sln | exact leT_nil) ?_)))) ?_)) ?_
          try simp -implicitDefEqProofs (maxSteps := 4000000) (disch := first | omega | decide | (simp only [go_sem]; omega)) only [go_sem, ↓reduceIte]
          repeat (with_reducible refine And.intro (by first | assumption | omega | (simp; done) | (simp; omega)) ?_)
          refine toEnd hC ?_
          refine endX_seq ?_
          refine runX_regionC fun C hC => ?_
          obtain ⟨g10, h⟩ := grd_some h
          try simp -implicitDefEqProofs (maxSteps := 4000000) (disch := first | omega | decide | (simp only [go_sem]; omega)) only [go_sem, ↓reduceIte]
          repeat (with_reducible refine And.intro (by first | assumption | omega | (simp; done) | (simp; omega)) ?_)
          refine toEnd hC ?_
          refine endX_blk ?_
          refine endX_q (roundQ_normal ⟨m1, by omega, F12_S1 (x2.drop v6.2.toNat) v9.2.2.1 v9.2.2.2, ?_, (x2.drop v6.2.toNat), v9.2.2.1, v9.2.2.2, rfl, by omega, h⟩)
          simp only [F12_S1]
          (try simp -implicitDefEqProofs (maxSteps := 4000000) (disch := first | omega | decide | (simp only [go_sem]; omega)) only [go_sem, ↓reduceIte])
          first | exact leS_refl _ | (refine leS_le ?_ ?_ <;> first | exact leL_refl _ | exact leOs_refl _ | (repeat (first | exact leL_refl _ | refine leL_cons (by first | exact leT_refl _ | exact leT_virt | exact leT_junk _ | exact leT_sl | exact leT_sln | exact leT_nil | (refine leT_agg (by repeat (first | exact leL_refl _ | refine leL_cons (by first | exact leT_refl _ | exact leT_sl | exact leT_sln | exact leT_nil) ?_)))) ?_)))
        · refine runX_condF rfl c5 ?_
          refine runX_exit ?_
          refine endX_seqE ?_
          refine endX_q (roundQ_exit ?_)
          refine endX_blkE ?_
          refine endX_seq ?_
          refine runX_seq ?_
          refine runX_regionC fun C hC => ?_
          simp only [runK_region, runK_draw, liteL, liteL2, dstsL, gL, List.getD_cons_zero, List.getD_cons_succ]
          obtain ⟨v11, h11, h⟩ := bnd_some h
          try simp -implicitDefEqProofs (maxSteps := 4000000) (disch := first | omega | decide | (simp only [go_sem]; omega)) only [go_sem, ↓reduceIte]
          repeat (with_reducible refine And.intro (by first | assumption | omega | (simp; done) | (simp; omega)) ?_)
          refine callR_X [0, 1] (F47_ok m1 (x3, x4) _ h11) (by decide) (by (try simp -implicitDefEqProofs (maxSteps := 4000000) (disch := first | omega | decide | (simp only [go_sem]; omega)) only [go_sem, ↓reduceIte]); repeat (first | exact trivial | refine And.intro ?_ ?_ | exact fun _ => trivial | exact fun _ _ => trivial | exact fun _ _ h => h | rfl | decide)) (by (try simp -implicitDefEqProofs (maxSteps := 4000000) (disch := first | omega | decide | (simp only [go_sem]; omega)) only [go_sem, ↓reduceIte]); repeat (first | exact leL_refl _ | refine leL_cons (by first | exact leT_refl _ | exact leT_virt | exact leT_junk _ | exact leT_sl | exact leT_sln | exact leT_nil | (refine leT_agg (by repeat (first | exact leL_refl _ | refine leL_cons (by first | exact leT_refl _ | exact leT_sl | exact leT_sln | exact leT_nil) ?_)))) ?_)) ?_
          try simp -implicitDefEqProofs (maxSteps := 4000000) (disch := first | omega | decide | (simp only [go_sem]; omega)) only [go_sem, ↓reduceIte]
          repeat (with_reducible refine And.intro (by first | assumption | omega | (simp; done) | (simp; omega)) ?_)
          refine toEnd hC ?_
          refine endX_seq ?_
          refine runX_ret ?_
          refine endX_q ?_
          obtain rfl := Option.some.inj h
          show RetW _ _ _ _ _
          simp only [RetW]
          (try simp -implicitDefEqProofs (maxSteps := 4000000) (disch := first | omega | decide | (simp only [go_sem]; omega)) only [go_sem, ↓reduceIte])
          (try simp (disch := omega) only [if_pos, Nat.sub_zero])
          exact leT_refl _
end Go.Proofs.YtbamlphgolldlaaX

set_option linter.unusedVariables false
set_option linter.unusedSimpArgs false
namespace Go.Proofs.YtbamlphgolldlaaX
open Go Go.RowKit Go.Proofs
set_option maxRecDepth 100000
attribute [local go_sem ↓] stepsK_build stepsK_build0 stepsK_bs stepsK_bs0 appendS
attribute [local go_sem] String.reduceEq String.reduceNe reduceCtorEq Int.reduceEq Nat.reduceAdd Nat.reduceSub Nat.reduceMul Nat.reduceLT Nat.reduceLeDiff Nat.reduceEqDiff Nat.reduceBEq Int.reduceToNat Int.reduceLT Int.reduceLE Int.reduceGT Int.reduceGE Int.reduceAdd Int.reduceSub Int.reduceMul Int.reduceNeg Int.reduceBEq Int.reduceBNe Int.reducePow Int.reduceDiv Int.reduceMod Int.reduceTDiv Int.reduceTMod Int.reduceNatCast
/-! ### utf.Count -/
def F48_S1 (x1 : List UInt8) (x2 : Int) : St := ⟨[.imm (.string (bs x1)), .junk, .junk, .imm (.int .i64 x2), .junk, .junk, .junk, .junk, .junk, .junk, .junk, .junk, .junk, .junk, .junk, .junk, .junk, .junk, .junk, .junk, .junk], []⟩
def F48_L1 : Nat → (List UInt8) → (Int) → Option (Int)
  | 0, _, _ => none
  | m1 + 1, x1, x2 => iteB (!(x1 == [])) ((F44 m1 x1).bind fun v4 => iteB (v4.2 == (0 : Int)) (some (-1 : Int)) (grd (0 ≤ v4.2 ∧ v4.2 ≤ (x1.length : Int)) (F48_L1 m1 (x1.drop v4.2.toNat) (IntKind.wrap .i64 (x2 + (1 : Int)))))) (some x2)
def F48 (n : Nat) (a0 : List UInt8) : Option (Int) := F48_L1 n a0 (0 : Int)
set_option maxHeartbeats 4000000 in
theorem F48_ok : ∀ (n : Nat) (a0 : List UInt8) (r : Int), F48 n a0 = some r → FnC Try.prog 48 [.imm (.string (bs a0))] (.imm (.int .i64 r))
  | n, a0, r, h => by
    unfold F48 at h
    refine FnC.goX mixed Try.func48 (by kernel_rfl) rfl ?_
    simp only [Try.ntmps48, List.length_cons, List.length_nil, List.replicate, List.cons_append, List.nil_append, Nat.reduceAdd, Nat.reduceSub]
    refine runX_seq ?_
    refine runX_regionC fun C hC => ?_
    try simp -implicitDefEqProofs (maxSteps := 4000000) (disch := first | omega | decide | (simp only [go_sem]; omega)) only [go_sem, ↓reduceIte]
    repeat (with_reducible refine And.intro (by first | assumption | omega | (simp; done) | (simp; omega)) ?_)
    refine toEnd hC ?_
    refine endX_seq ?_
    refine runX_seq ?_
    refine runX_regionC fun C hC => ?_
    try simp -implicitDefEqProofs (maxSteps := 4000000) (disch := first | omega | decide | (simp only [go_sem]; omega)) only [go_sem, ↓reduceIte]
    repeat (with_reducible refine And.intro (by first | assumption | omega | (simp; done) | (simp; omega)) ?_)
    refine toEnd hC ?_
    refine endX_seq ?_
    refine runX_seq ?_
    refine runX_block ?_
    refine runX_loop [0, 3] (fun m S => ∃ (x1 : List UInt8) (x2 : Int), S = F48_S1 x1 x2 ∧ m ≤ n ∧ F48_L1 m x1 x2 = some r) n ⟨F48_S1 a0 (0 : Int), ?_, a0, (0 : Int), rfl, Nat.le_refl _, h⟩ ?_
    · simp only [F48_S1]
      (try simp -implicitDefEqProofs (maxSteps := 4000000) (disch := first | omega | decide | (simp only [go_sem]; omega)) only [go_sem, ↓reduceIte])
      first | exact leS_refl _ | (refine leS_le ?_ ?_ <;> first | exact leL_refl _ | exact leOs_refl _ | (repeat (first | exact leL_refl _ | refine leL_cons (by first | exact leT_refl _ | exact leT_virt | exact leT_junk _ | exact leT_sl | exact leT_sln | exact leT_nil | (refine leT_agg (by repeat (first | exact leL_refl _ | refine leL_cons (by first | exact leT_refl _ | exact leT_sl | exact leT_sln | exact leT_nil) ?_)))) ?_)))
    · clear h
      rintro m1 S ⟨x1, x2, rfl, hm1, h⟩
      cases m1 with
      | zero => first | cases (show (none : Option _) = some _ from h) | (rw [F48_L1] at h; cases h)
      | succ m1 =>
        rw [F48_L1] at h
        simp only [F48_S1]
        refine runX_seq ?_
        refine runX_seq ?_
        refine runX_regionC fun C hC => ?_
        try simp -implicitDefEqProofs (maxSteps := 4000000) (disch := first | omega | decide | (simp only [go_sem]; omega)) only [go_sem, ↓reduceIte]
        repeat (with_reducible refine And.intro (by first | assumption | omega | (simp; done) | (simp; omega)) ?_)
        refine toEnd hC ?_
        refine endX_seq ?_
        rcases iteB_some h with ⟨c3, h⟩ | ⟨c3, h⟩
        · refine runX_condT rfl c3 ?_
          refine runX_skip ?_
          refine endX_seq ?_
          refine runX_seq ?_
          refine runX_block ?_
          refine runX_seq ?_
          refine runX_regionC fun C hC => ?_
          obtain ⟨v4, h4, h⟩ := bnd_some h
          try simp -implicitDefEqProofs (maxSteps := 4000000) (disch := first | omega | decide | (simp only [go_sem]; omega)) only [go_sem, ↓reduceIte]
          repeat (with_reducible refine And.intro (by first | assumption | omega | (simp; done) | (simp; omega)) ?_)
          refine callG_X (by first | rfl | (simp only [go_sem]; done) | (simp only [closedL, closedT, Bool.and_true]; exact closedL_map _ (fun _ => by first | rfl | (simp only [go_sem]; done)) _)) (F44_ok m1 x1 _ h4) (by repeat (first | exact leL_refl _ | refine leL_cons (by first | exact leT_refl _ | exact leT_virt | exact leT_junk _ | exact leT_sl | exact leT_sln | exact leT_nil | (refine leT_agg (by repeat (first | exact leL_refl _ | refine leL_cons (by first | exact leT_refl _ | exact leT_sl | exact leT_sln | exact leT_nil) ?_)))) ?_)) ?_
          try simp -implicitDefEqProofs (maxSteps := 4000000) (disch := first | omega | decide | (simp only [go_sem]; omega)) only [go_sem, ↓reduceIte]
          repeat (with_reducible refine And.intro (by first | assumption | omega | (simp; done) | (simp; omega)) ?_)
          refine toEnd hC ?_
          refine endX_seq ?_
          refine runX_seq ?_
          refine runX_seq ?_
          refine runX_regionC fun C hC => ?_
          try simp -implicitDefEqProofs (maxSteps := 4000000) (disch := first | omega | decide | (simp only [go_sem]; omega)) only [go_sem, ↓reduceIte]
          repeat (with_reducible refine And.intro (by first | assumption | omega | (simp; done) | (simp; omega)) ?_)
          refine toEnd hC ?_
          refine endX_seq ?_
          rcases iteB_some h with ⟨c5, h⟩ | ⟨c5, h⟩
          · refine runX_condT rfl c5 ?_
            refine runX_seq ?_
            refine runX_regionC fun C hC => ?_
            try simp -implicitDefEqProofs (maxSteps := 4000000) (disch := first | omega | decide | (simp only [go_sem]; omega)) only [go_sem, ↓reduceIte]
            repeat (with_reducible refine And.intro (by first | assumption | omega | (simp; done) | (simp; omega)) ?_)
            refine toEnd hC ?_
            refine endX_seq ?_
            refine runX_ret ?_
            refine endX_seqR ?_
            refine endX_blkR ?_
            refine endX_seqR ?_
            refine endX_q (roundQ_ret ?_)
            refine endX_blkR ?_
            refine endX_seqR ?_
            refine endX_q ?_
            obtain rfl := Option.some.inj h
            show RetW _ _ _ _ _
            simp only [RetW]
            (try simp -implicitDefEqProofs (maxSteps := 4000000) (disch := first | omega | decide | (simp only [go_sem]; omega)) only [go_sem, ↓reduceIte])
            (try simp (disch := omega) only [if_pos, Nat.sub_zero])
            exact leT_refl _
          · refine runX_condF rfl c5 ?_
            refine runX_skip ?_
            refine endX_seq ?_
            refine runX_regionC fun C hC => ?_
            obtain ⟨g6, h⟩ := grd_some h
            try simp -implicitDefEqProofs (maxSteps := 4000000) (disch := first | omega | decide | (simp only [go_sem]; omega)) only [go_sem, ↓reduceIte]
            repeat (with_reducible refine And.intro (by first | assumption | omega | (simp; done) | (simp; omega)) ?_)
            refine toEnd hC ?_
            refine endX_blk ?_
            refine endX_seq ?_
            refine runX_regionC fun C hC => ?_
            try simp -implicitDefEqProofs (maxSteps := 4000000) (disch := first | omega | decide | (simp only [go_sem]; omega)) only [go_sem, ↓reduceIte]
            repeat (with_reducible refine And.intro (by first | assumption | omega | (simp; done) | (simp; omega)) ?_)
            refine toEnd hC ?_
            refine endX_q (roundQ_normal ⟨m1, by omega, F48_S1 (x1.drop v4.2.toNat) (IntKind.wrap .i64 (x2 + (1 : Int))), ?_, (x1.drop v4.2.toNat), (IntKind.wrap .i64 (x2 + (1 : Int))), rfl, by omega, h⟩)
            simp only [F48_S1]
            (try simp -implicitDefEqProofs (maxSteps := 4000000) (disch := first | omega | decide | (simp only [go_sem]; omega)) only [go_sem, ↓reduceIte])
            first | exact leS_refl _ | (refine leS_le ?_ ?_ <;> first | exact leL_refl _ | exact leOs_refl _ | (repeat (first | exact leL_refl _ | refine leL_cons (by first | exact leT_refl _ | exact leT_virt | exact leT_junk _ | exact leT_sl | exact leT_sln | exact leT_nil | (refine leT_agg (by repeat (first | exact leL_refl _ | refine leL_cons (by first | exact leT_refl _ | exact leT_sl | exact leT_sln | exact leT_nil) ?_)))) ?_)))
        · refine runX_condF rfl c3 ?_
          refine runX_exit ?_
          refine endX_seqE ?_
          refine endX_q (roundQ_exit ?_)
          refine endX_blkE ?_
          refine endX_seq ?_
          refine runX_seq ?_
          refine runX_regionC fun C hC => ?_
          try simp -implicitDefEqProofs (maxSteps := 4000000) (disch := first | omega | decide | (simp only [go_sem]; omega)) only [go_sem, ↓reduceIte]
          repeat (with_reducible refine And.intro (by first | assumption | omega | (simp; done) | (simp; omega)) ?_)
          refine toEnd hC ?_
          refine endX_seq ?_
          refine runX_ret ?_
          refine endX_q ?_
          obtain rfl := Option.some.inj h
          show RetW _ _ _ _ _
          simp only [RetW]
          (try simp -implicitDefEqProofs (maxSteps := 4000000) (disch := first | omega | decide | (simp only [go_sem]; omega)) only [go_sem, ↓reduceIte])
          (try simp (disch := omega) only [if_pos, Nat.sub_zero])
          exact leT_refl _
end Go.Proofs.YtbamlphgolldlaaX

set_option linter.unusedVariables false
set_option linter.unusedSimpArgs false
namespace Go.Proofs.YtbamlphgolldlaaX
open Go Go.RowKit Go.Proofs
set_option maxRecDepth 100000
attribute [local go_sem ↓] stepsK_build stepsK_build0 stepsK_bs stepsK_bs0 appendS
attribute [local go_sem] String.reduceEq String.reduceNe reduceCtorEq Int.reduceEq Nat.reduceAdd Nat.reduceSub Nat.reduceMul Nat.reduceLT Nat.reduceLeDiff Nat.reduceEqDiff Nat.reduceBEq Int.reduceToNat Int.reduceLT Int.reduceLE Int.reduceGT Int.reduceGE Int.reduceAdd Int.reduceSub Int.reduceMul Int.reduceNeg Int.reduceBEq Int.reduceBNe Int.reducePow Int.reduceDiv Int.reduceMod Int.reduceTDiv Int.reduceTMod Int.reduceNatCast
/-! ### utf.Right -/
def F13 (n : Nat) (a0 : List UInt8) : Option (Bool) := (F48 n a0).bind fun v1 => some (decide ((0 : Int) ≤ v1))
set_option maxHeartbeats 4000000 in
theorem F13_ok : ∀ (n : Nat) (a0 : List UInt8) (r : Bool), F13 n a0 = some r → FnC Try.prog 13 [.imm (.string (bs a0))] (.imm (.bool r))
  | n, a0, r, h => by
    unfold F13 at h
    refine FnC.goX mixed Try.func13 (by kernel_rfl) rfl ?_
    simp only [Try.ntmps13, List.length_cons, List.length_nil, List.replicate, List.cons_append, List.nil_append, Nat.reduceAdd, Nat.reduceSub]
    refine runX_seq ?_
    refine runX_regionC fun C hC => ?_
    try simp -implicitDefEqProofs (maxSteps := 4000000) (disch := first | omega | decide | (simp only [go_sem]; omega)) only [go_sem, ↓reduceIte]
    repeat (with_reducible refine And.intro (by first | assumption | omega | (simp; done) | (simp; omega)) ?_)
    refine toEnd hC ?_
    refine endX_seq ?_
    refine runX_seq ?_
    refine runX_regionC fun C hC => ?_
    obtain ⟨v1, h1, h⟩ := bnd_some h
    try simp -implicitDefEqProofs (maxSteps := 4000000) (disch := first | omega | decide | (simp only [go_sem]; omega)) only [go_sem, ↓reduceIte]
    repeat (with_reducible refine And.intro (by first | assumption | omega | (simp; done) | (simp; omega)) ?_)
    refine callG_X (by first | rfl | (simp only [go_sem]; done) | (simp only [closedL, closedT, Bool.and_true]; exact closedL_map _ (fun _ => by first | rfl | (simp only [go_sem]; done)) _)) (F48_ok n a0 _ h1) (by repeat (first | exact leL_refl _ | refine leL_cons (by first | exact leT_refl _ | exact leT_virt | exact leT_junk _ | exact leT_sl | exact leT_sln | exact leT_nil | (refine leT_agg (by repeat (first | exact leL_refl _ | refine leL_cons (by first | exact leT_refl _ | exact leT_sl | exact leT_sln | exact leT_nil) ?_)))) ?_)) ?_
    try simp -implicitDefEqProofs (maxSteps := 4000000) (disch := first | omega | decide | (simp only [go_sem]; omega)) only [go_sem, ↓reduceIte]
    repeat (with_reducible refine And.intro (by first | assumption | omega | (simp; done) | (simp; omega)) ?_)
    refine toEnd hC ?_
    refine endX_seq ?_
    refine runX_ret ?_
    refine endX_q ?_
    obtain rfl := Option.some.inj h
    show RetW _ _ _ _ _
    simp only [RetW]
    (try simp -implicitDefEqProofs (maxSteps := 4000000) (disch := first | omega | decide | (simp only [go_sem]; omega)) only [go_sem, ↓reduceIte])
    (try simp (disch := omega) only [if_pos, Nat.sub_zero])
    exact leT_refl _
end Go.Proofs.YtbamlphgolldlaaX

set_option linter.unusedVariables false
set_option linter.unusedSimpArgs false
namespace Go.Proofs.YtbamlphgolldlaaX
open Go Go.RowKit Go.Proofs
set_option maxRecDepth 100000
/-! ### internal/stringslite.IndexByte: by hand (a function without a body stands below it) -/
def F109 (n : Nat) (a0 : List UInt8) (a1 : Int) : Option Int := some (Lib.indexByte a0 a1.toNat.toUInt8)
set_option maxHeartbeats 1000000 in
theorem indexByte_calls (a0 : List UInt8) (a1 : Int) (w : World) :
    Calls Try.prog 109 #[.string (bs a0), .int .u8 a1] w fun e w' => e = .returned (.int .i64 (Lib.indexByte a0 a1.toNat.toUInt8)) ∧ Below w.heap.size w w' := by
  go_enter Try.func109, Try.ntmps109
  go_wp2
  rw [run_callFunc_extern Try.func115 (by kernel_rfl) (by kernel_rfl) (by kernel_rfl) (e := Extern.BytealgIndexByte.indexByte) (by kernel_rfl), Lib.run_indexByteString]
  simp only [Result.andThen]
  rw [Oper.upon_value]
  go_wp2
  go_ret
  exact ⟨rfl, Below.refl _ _⟩
theorem F109_ok (n : Nat) (a0 : List UInt8) (a1 : Int) (r : Int) (h : F109 n a0 a1 = some r) : FnC Try.prog 109 [.imm (.string (bs a0)), .imm (.int .u8 a1)] (.imm (.int .i64 r)) := by
  obtain rfl := Option.some.inj h
  refine ⟨⟨Try.f109, Try.func109, by kernel_rfl, rfl⟩, fun w ban vs hban hv => ?_⟩
  have e : vs = #[.string (bs a0), .int .u8 a1] := by
    obtain ⟨l⟩ := vs
    simp only [RepL, Rep] at hv
    obtain ⟨u, us, h1, h2, v, vs', h3, h4, h5⟩ := hv
    simp_all
  rw [e]
  refine (indexByte_calls a0 a1 w).mono ?_
  rintro e w' ⟨rfl, hb⟩
  exact ⟨_, rfl, hb, by simp only [Rep]; exact ⟨trivial, rfl⟩⟩

end Go.Proofs.YtbamlphgolldlaaX

set_option linter.unusedVariables false
set_option linter.unusedSimpArgs false
namespace Go.Proofs.YtbamlphgolldlaaX
open Go Go.RowKit Go.Proofs
set_option maxRecDepth 100000
attribute [local go_sem ↓] stepsK_build stepsK_build0 stepsK_bs stepsK_bs0 appendS
attribute [local go_sem] String.reduceEq String.reduceNe reduceCtorEq Int.reduceEq Nat.reduceAdd Nat.reduceSub Nat.reduceMul Nat.reduceLT Nat.reduceLeDiff Nat.reduceEqDiff Nat.reduceBEq Int.reduceToNat Int.reduceLT Int.reduceLE Int.reduceGT Int.reduceGE Int.reduceAdd Int.reduceSub Int.reduceMul Int.reduceNeg Int.reduceBEq Int.reduceBNe Int.reducePow Int.reduceDiv Int.reduceMod Int.reduceTDiv Int.reduceTMod Int.reduceNatCast
/-! ### strings.IndexByte -/
def F93 (n : Nat) (a0 : List UInt8) (a1 : Int) : Option (Int) := (F109 n a0 a1).bind fun v1 => some v1
set_option maxHeartbeats 4000000 in
theorem F93_ok : ∀ (n : Nat) (a0 : List UInt8) (a1 : Int) (r : Int), F93 n a0 a1 = some r → FnC Try.prog 93 [.imm (.string (bs a0)), .imm (.int .u8 a1)] (.imm (.int .i64 r))
  | n, a0, a1, r, h => by
    unfold F93 at h
    refine FnC.goX mixed Try.func93 (by kernel_rfl) rfl ?_
    simp only [Try.ntmps93, List.length_cons, List.length_nil, List.replicate, List.cons_append, List.nil_append, Nat.reduceAdd, Nat.reduceSub]
    refine runX_seq ?_
    refine runX_regionC fun C hC => ?_
    try simp -implicitDefEqProofs (maxSteps := 4000000) (disch := first | omega | decide | (simp only [go_sem]; omega)) only [go_sem, ↓reduceIte]
    repeat (with_reducible refine And.intro (by first | assumption | omega | (simp; done) | (simp; omega)) ?_)
    refine toEnd hC ?_
    refine endX_seq ?_
    refine runX_seq ?_
    refine runX_regionC fun C hC => ?_
    obtain ⟨v1, h1, h⟩ := bnd_some h
    try simp -implicitDefEqProofs (maxSteps := 4000000) (disch := first | omega | decide | (simp only [go_sem]; omega)) only [go_sem, ↓reduceIte]
    repeat (with_reducible refine And.intro (by first | assumption | omega | (simp; done) | (simp; omega)) ?_)
    refine callG_X (by first | rfl | (simp only [go_sem]; done) | (simp only [closedL, closedT, Bool.and_true]; exact closedL_map _ (fun _ => by first | rfl | (simp only [go_sem]; done)) _)) (F109_ok n a0 a1 _ h1) (by repeat (first | exact leL_refl _ | refine leL_cons (by first | exact leT_refl _ | exact leT_virt | exact leT_junk _ | exact leT_sl | exact leT_sln | exact leT_nil | (refine leT_agg (by repeat (first | exact leL_refl _ | refine leL_cons (by first | exact leT_refl _ | exact leT_sl | exact leT_sln | exact leT_nil) ?_)))) ?_)) ?_
    try simp -implicitDefEqProofs (maxSteps := 4000000) (disch := first | omega | decide | (simp only [go_sem]; omega)) only [go_sem, ↓reduceIte]
    repeat (with_reducible refine And.intro (by first | assumption | omega | (simp; done) | (simp; omega)) ?_)
    refine toEnd hC ?_
    refine endX_seq ?_
    refine runX_ret ?_
    refine endX_q ?_
    obtain rfl := Option.some.inj h
    show RetW _ _ _ _ _
    simp only [RetW]
    (try simp -implicitDefEqProofs (maxSteps := 4000000) (disch := first | omega | decide | (simp only [go_sem]; omega)) only [go_sem, ↓reduceIte])
    (try simp (disch := omega) only [if_pos, Nat.sub_zero])
    exact leT_refl _
end Go.Proofs.YtbamlphgolldlaaX

set_option linter.unusedVariables false
set_option linter.unusedSimpArgs false
namespace Go.Proofs.YtbamlphgolldlaaX
open Go Go.RowKit Go.Proofs
set_option maxRecDepth 100000
attribute [local go_sem ↓] stepsK_build stepsK_build0 stepsK_bs stepsK_bs0 appendS
attribute [local go_sem] String.reduceEq String.reduceNe reduceCtorEq Int.reduceEq Nat.reduceAdd Nat.reduceSub Nat.reduceMul Nat.reduceLT Nat.reduceLeDiff Nat.reduceEqDiff Nat.reduceBEq Int.reduceToNat Int.reduceLT Int.reduceLE Int.reduceGT Int.reduceGE Int.reduceAdd Int.reduceSub Int.reduceMul Int.reduceNeg Int.reduceBEq Int.reduceBNe Int.reducePow Int.reduceDiv Int.reduceMod Int.reduceTDiv Int.reduceTMod Int.reduceNatCast
/-! ### xmlin.plain -/
def F68_S1 (a0 : List UInt8) (x1 : Int) : St := ⟨[.imm (.string (bs a0)), .junk, .junk, .junk, .junk, .imm (.int .i64 (a0.length : Int)), .imm (.int .i64 x1), .junk, .junk, .junk, .junk, .junk, .junk, .junk, .junk, .junk, .junk, .junk, .junk, .junk, .junk, .junk, .junk], []⟩
def F68_L1 : Nat → (List UInt8) → (Int) → Option (Bool)
  | 0, _, _ => none
  | m1 + 1, a0, x1 => iteB (decide (x1 < (a0.length : Int))) (grd (0 ≤ x1 ∧ x1 < (a0.length : Int)) (iteB (decide (((a0.getD x1.toNat 0).toNat : Int) < (32 : Int))) (grd (0 ≤ x1 ∧ x1 < (a0.length : Int)) ((F93 m1 ([9, 10, 13, 32] : List UInt8) ((a0.getD x1.toNat 0).toNat : Int)).bind fun v6 => iteB (decide (v6 < (0 : Int))) (some false) (F68_L1 m1 a0 (IntKind.wrap .i64 (x1 + (1 : Int)))))) (F68_L1 m1 a0 (IntKind.wrap .i64 (x1 + (1 : Int)))))) ((F13 m1 a0).bind fun v8 => some v8)
def F68 (n : Nat) (a0 : List UInt8) : Option (Bool) := F68_L1 n a0 (0 : Int)
set_option maxHeartbeats 4000000 in
theorem F68_ok : ∀ (n : Nat) (a0 : List UInt8) (r : Bool), F68 n a0 = some r → FnC Try.prog 68 [.imm (.string (bs a0))] (.imm (.bool r))
  | n, a0, r, h => by
    unfold F68 at h
    refine FnC.goX mixed Try.func68 (by kernel_rfl) rfl ?_
    simp only [Try.ntmps68, List.length_cons, List.length_nil, List.replicate, List.cons_append, List.nil_append, Nat.reduceAdd, Nat.reduceSub]
    refine runX_seq ?_
    refine runX_regionC fun C hC => ?_
    try simp -implicitDefEqProofs (maxSteps := 4000000) (disch := first | omega | decide | (simp only [go_sem]; omega)) only [go_sem, ↓reduceIte]
    repeat (with_reducible refine And.intro (by first | assumption | omega | (simp; done) | (simp; omega)) ?_)
    refine toEnd hC ?_
    refine endX_seq ?_
    refine runX_seq ?_
    refine runX_seq ?_
    refine runX_regionC fun C hC => ?_
    try simp -implicitDefEqProofs (maxSteps := 4000000) (disch := first | omega | decide | (simp only [go_sem]; omega)) only [go_sem, ↓reduceIte]
    repeat (with_reducible refine And.intro (by first | assumption | omega | (simp; done) | (simp; omega)) ?_)
    refine toEnd hC ?_
    refine endX_seq ?_
    refine runX_block ?_
    refine runX_loop [0, 5, 6] (fun m S => ∃ (x1 : Int), S = F68_S1 a0 x1 ∧ m ≤ n ∧ F68_L1 m a0 x1 = some r) n ⟨F68_S1 a0 (0 : Int), ?_, (0 : Int), rfl, Nat.le_refl _, h⟩ ?_
    · simp only [F68_S1]
      (try simp -implicitDefEqProofs (maxSteps := 4000000) (disch := first | omega | decide | (simp only [go_sem]; omega)) only [go_sem, ↓reduceIte])
      first | exact leS_refl _ | (refine leS_le ?_ ?_ <;> first | exact leL_refl _ | exact leOs_refl _ | (repeat (first | exact leL_refl _ | refine leL_cons (by first | exact leT_refl _ | exact leT_virt | exact leT_junk _ | exact leT_sl | exact leT_sln | exact leT_nil | (refine leT_agg (by repeat (first | exact leL_refl _ | refine leL_cons (by first | exact leT_refl _ | exact leT_sl | exact leT_sln | exact leT_nil) ?_)))) ?_)))
    · clear h
      rintro m1 S ⟨x1, rfl, hm1, h⟩
      cases m1 with
      | zero => first | cases (show (none : Option _) = some _ from h) | (rw [F68_L1] at h; cases h)
      | succ m1 =>
        rw [F68_L1] at h
        simp only [F68_S1]
        refine runX_seq ?_
        refine runX_regionC fun C hC => ?_
        try simp -implicitDefEqProofs (maxSteps := 4000000) (disch := first | omega | decide | (simp only [go_sem]; omega)) only [go_sem, ↓reduceIte]
        repeat (with_reducible refine And.intro (by first | assumption | omega | (simp; done) | (simp; omega)) ?_)
        refine toEnd hC ?_
        refine endX_seq ?_
        refine runX_seq ?_
        rcases iteB_some h with ⟨c2, h⟩ | ⟨c2, h⟩
        · refine runX_condT rfl c2 ?_
          refine runX_skip ?_
          refine endX_seq ?_
          refine runX_seq ?_
          refine runX_block ?_
          refine runX_seq ?_
          refine runX_regionC fun C hC => ?_
          try simp -implicitDefEqProofs (maxSteps := 4000000) (disch := first | omega | decide | (simp only [go_sem]; omega)) only [go_sem, ↓reduceIte]
          repeat (with_reducible refine And.intro (by first | assumption | omega | (simp; done) | (simp; omega)) ?_)
          refine toEnd hC ?_
          refine endX_seq ?_
          refine runX_seq ?_
          refine runX_regionC fun C hC => ?_
          obtain ⟨g3, h⟩ := grd_some h
          try simp -implicitDefEqProofs (maxSteps := 4000000) (disch := first | omega | decide | (simp only [go_sem]; omega)) only [go_sem, ↓reduceIte]
          repeat (with_reducible refine And.intro (by first | assumption | omega | (simp; done) | (simp; omega)) ?_)
          rcases iteB_some h with ⟨c4, h⟩ | ⟨c4, h⟩
          · refine guardK_T c4 ?_
            obtain ⟨g5, h⟩ := grd_some h
            obtain ⟨v6, h6, h⟩ := bnd_some h
            try simp -implicitDefEqProofs (maxSteps := 4000000) (disch := first | omega | decide | (simp only [go_sem]; omega)) only [go_sem, ↓reduceIte]
            repeat (with_reducible refine And.intro (by first | assumption | omega | (simp; done) | (simp; omega)) ?_)
            refine callG_X (by first | rfl | (simp only [go_sem]; done) | (simp only [closedL, closedT, Bool.and_true]; exact closedL_map _ (fun _ => by first | rfl | (simp only [go_sem]; done)) _)) (F93_ok m1 ([9, 10, 13, 32] : List UInt8) ((a0.getD x1.toNat 0).toNat : Int) _ h6) (by repeat (first | exact leL_refl _ | refine leL_cons (by first | exact leT_refl _ | exact leT_virt | exact leT_junk _ | exact leT_sl | exact leT_sln | exact leT_nil | (refine leT_agg (by repeat (first | exact leL_refl _ | refine leL_cons (by first | exact leT_refl _ | exact leT_sl | exact leT_sln | exact leT_nil) ?_)))) ?_)) ?_
            try simp -implicitDefEqProofs (maxSteps := 4000000) (disch := first | omega | decide | (simp only [go_sem]; omega)) only [go_sem, ↓reduceIte]
            repeat (with_reducible refine And.intro (by first | assumption | omega | (simp; done) | (simp; omega)) ?_)
            refine toEnd hC ?_
            refine endX_seq ?_
            rcases iteB_some h with ⟨c7, h⟩ | ⟨c7, h⟩
            · refine runX_condT rfl c7 ?_
              refine runX_seq ?_
              refine runX_regionC fun C hC => ?_
              try simp -implicitDefEqProofs (maxSteps := 4000000) (disch := first | omega | decide | (simp only [go_sem]; omega)) only [go_sem, ↓reduceIte]
              repeat (with_reducible refine And.intro (by first | assumption | omega | (simp; done) | (simp; omega)) ?_)
              refine toEnd hC ?_
              refine endX_seq ?_
              refine runX_ret ?_
              refine endX_blkR ?_
              refine endX_seqR ?_
              refine endX_q (roundQ_ret ?_)
              refine endX_blkR ?_
              refine endX_seqR ?_
              refine endX_q ?_
              obtain rfl := Option.some.inj h
              show RetW _ _ _ _ _
              simp only [RetW]
              (try simp -implicitDefEqProofs (maxSteps := 4000000) (disch := first | omega | decide | (simp only [go_sem]; omega)) only [go_sem, ↓reduceIte])
              (try simp (disch := omega) only [if_pos, Nat.sub_zero])
              exact leT_refl _
            · refine runX_condF rfl c7 ?_
              refine runX_skip ?_
              refine endX_blk ?_
              refine endX_seq ?_
              refine runX_regionC fun C hC => ?_
              try simp -implicitDefEqProofs (maxSteps := 4000000) (disch := first | omega | decide | (simp only [go_sem]; omega)) only [go_sem, ↓reduceIte]
              repeat (with_reducible refine And.intro (by first | assumption | omega | (simp; done) | (simp; omega)) ?_)
              refine toEnd hC ?_
              refine endX_q (roundQ_normal ⟨m1, by omega, F68_S1 a0 (IntKind.wrap .i64 (x1 + (1 : Int))), ?_, (IntKind.wrap .i64 (x1 + (1 : Int))), rfl, by omega, h⟩)
              simp only [F68_S1]
              (try simp -implicitDefEqProofs (maxSteps := 4000000) (disch := first | omega | decide | (simp only [go_sem]; omega)) only [go_sem, ↓reduceIte])
              first | exact leS_refl _ | (refine leS_le ?_ ?_ <;> first | exact leL_refl _ | exact leOs_refl _ | (repeat (first | exact leL_refl _ | refine leL_cons (by first | exact leT_refl _ | exact leT_virt | exact leT_junk _ | exact leT_sl | exact leT_sln | exact leT_nil | (refine leT_agg (by repeat (first | exact leL_refl _ | refine leL_cons (by first | exact leT_refl _ | exact leT_sl | exact leT_sln | exact leT_nil) ?_)))) ?_)))
          · refine guardK_F c4 ?_
            try simp -implicitDefEqProofs (maxSteps := 4000000) (disch := first | omega | decide | (simp only [go_sem]; omega)) only [go_sem, ↓reduceIte]
            repeat (with_reducible refine And.intro (by first | assumption | omega | (simp; done) | (simp; omega)) ?_)
            refine toEnd hC ?_
            refine endX_seq ?_
            refine runX_condF rfl rfl ?_
            refine runX_skip ?_
            refine endX_blk ?_
            refine endX_seq ?_
            refine runX_regionC fun C hC => ?_
            try simp -implicitDefEqProofs (maxSteps := 4000000) (disch := first | omega | decide | (simp only [go_sem]; omega)) only [go_sem, ↓reduceIte]
            repeat (with_reducible refine And.intro (by first | assumption | omega | (simp; done) | (simp; omega)) ?_)
            refine toEnd hC ?_
            refine endX_q (roundQ_normal ⟨m1, by omega, F68_S1 a0 (IntKind.wrap .i64 (x1 + (1 : Int))), ?_, (IntKind.wrap .i64 (x1 + (1 : Int))), rfl, by omega, h⟩)
            simp only [F68_S1]
            (try simp -implicitDefEqProofs (maxSteps := 4000000) (disch := first | omega | decide | (simp only [go_sem]; omega)) only [go_sem, ↓reduceIte])
            first | exact leS_refl _ | (refine leS_le ?_ ?_ <;> first | exact leL_refl _ | exact leOs_refl _ | (repeat (first | exact leL_refl _ | refine leL_cons (by first | exact leT_refl _ | exact leT_virt | exact leT_junk _ | exact leT_sl | exact leT_sln | exact leT_nil | (refine leT_agg (by repeat (first | exact leL_refl _ | refine leL_cons (by first | exact leT_refl _ | exact leT_sl | exact leT_sln | exact leT_nil) ?_)))) ?_)))
        · refine runX_condF rfl c2 ?_
          refine runX_exit ?_
          refine endX_seqE ?_
          refine endX_q (roundQ_exit ?_)
          refine endX_blkE ?_
          refine endX_seq ?_
          refine runX_seq ?_
          refine runX_regionC fun C hC => ?_
          obtain ⟨v8, h8, h⟩ := bnd_some h
          try simp -implicitDefEqProofs (maxSteps := 4000000) (disch := first | omega | decide | (simp only [go_sem]; omega)) only [go_sem, ↓reduceIte]
          repeat (with_reducible refine And.intro (by first | assumption | omega | (simp; done) | (simp; omega)) ?_)
          refine callG_X (by first | rfl | (simp only [go_sem]; done) | (simp only [closedL, closedT, Bool.and_true]; exact closedL_map _ (fun _ => by first | rfl | (simp only [go_sem]; done)) _)) (F13_ok m1 a0 _ h8) (by repeat (first | exact leL_refl _ | refine leL_cons (by first | exact leT_refl _ | exact leT_virt | exact leT_junk _ | exact leT_sl | exact leT_sln | exact leT_nil | (refine leT_agg (by repeat (first | exact leL_refl _ | refine leL_cons (by first | exact leT_refl _ | exact leT_sl | exact leT_sln | exact leT_nil) ?_)))) ?_)) ?_
          try simp -implicitDefEqProofs (maxSteps := 4000000) (disch := first | omega | decide | (simp only [go_sem]; omega)) only [go_sem, ↓reduceIte]
          repeat (with_reducible refine And.intro (by first | assumption | omega | (simp; done) | (simp; omega)) ?_)
          refine toEnd hC ?_
          refine endX_seq ?_
          refine runX_ret ?_
          refine endX_q ?_
          obtain rfl := Option.some.inj h
          show RetW _ _ _ _ _
          simp only [RetW]
          (try simp -implicitDefEqProofs (maxSteps := 4000000) (disch := first | omega | decide | (simp only [go_sem]; omega)) only [go_sem, ↓reduceIte])
          (try simp (disch := omega) only [if_pos, Nat.sub_zero])
          exact leT_refl _
end Go.Proofs.YtbamlphgolldlaaX

set_option linter.unusedVariables false
set_option linter.unusedSimpArgs false
namespace Go.Proofs.YtbamlphgolldlaaX
open Go Go.RowKit Go.Proofs
set_option maxRecDepth 100000
attribute [local go_sem ↓] stepsK_build stepsK_build0 stepsK_bs stepsK_bs0 appendS
attribute [local go_sem] String.reduceEq String.reduceNe reduceCtorEq Int.reduceEq Nat.reduceAdd Nat.reduceSub Nat.reduceMul Nat.reduceLT Nat.reduceLeDiff Nat.reduceEqDiff Nat.reduceBEq Int.reduceToNat Int.reduceLT Int.reduceLE Int.reduceGT Int.reduceGE Int.reduceAdd Int.reduceSub Int.reduceMul Int.reduceNeg Int.reduceBEq Int.reduceBNe Int.reducePow Int.reduceDiv Int.reduceMod Int.reduceTDiv Int.reduceTMod Int.reduceNatCast
/-! ### internal/stringslite.Index -/
def F110 (n : Nat) (a0 : List UInt8) (a1 : List UInt8) : Option (Int) := iteB ((a1.length : Int) == (0 : Int)) (some (0 : Int)) (iteB (a1 == a0) (some (0 : Int)) (iteB ((a1.length : Int) == (1 : Int)) (grd ((0 : Int) < (a1.length : Int)) ((F109 n a0 ((a1.getD (0 : Int).toNat 0).toNat : Int)).bind fun v5 => some v5)) (iteB (decide ((a0.length : Int) ≤ (a1.length : Int))) (some (-1 : Int)) (none))))
set_option maxHeartbeats 4000000 in
theorem F110_ok : ∀ (n : Nat) (a0 : List UInt8) (a1 : List UInt8) (r : Int), F110 n a0 a1 = some r → FnC Try.prog 110 [.imm (.string (bs a0)), .imm (.string (bs a1))] (.imm (.int .i64 r))
  | n, a0, a1, r, h => by
    unfold F110 at h
    refine FnC.goX mixed Try.func110 (by kernel_rfl) rfl ?_
    simp only [Try.ntmps110, List.length_cons, List.length_nil, List.replicate, List.cons_append, List.nil_append, Nat.reduceAdd, Nat.reduceSub]
    refine runX_seq ?_
    refine runX_regionC fun C hC => ?_
    try simp -implicitDefEqProofs (maxSteps := 4000000) (disch := first | omega | decide | (simp only [go_sem]; omega)) only [go_sem, ↓reduceIte]
    repeat (with_reducible refine And.intro (by first | assumption | omega | (simp; done) | (simp; omega)) ?_)
    refine toEnd hC ?_
    refine endX_seq ?_
    refine runX_seq ?_
    refine runX_regionC fun C hC => ?_
    try simp -implicitDefEqProofs (maxSteps := 4000000) (disch := first | omega | decide | (simp only [go_sem]; omega)) only [go_sem, ↓reduceIte]
    repeat (with_reducible refine And.intro (by first | assumption | omega | (simp; done) | (simp; omega)) ?_)
    refine toEnd hC ?_
    refine endX_seq ?_
    refine runX_seq ?_
    refine runX_block ?_
    refine runX_seq ?_
    refine runX_regionC fun C hC => ?_
    try simp -implicitDefEqProofs (maxSteps := 4000000) (disch := first | omega | decide | (simp only [go_sem]; omega)) only [go_sem, ↓reduceIte]
    repeat (with_reducible refine And.intro (by first | assumption | omega | (simp; done) | (simp; omega)) ?_)
    rcases iteB_some h with ⟨c1, h⟩ | ⟨c1, h⟩
    · refine guardK_F c1 ?_
      try simp -implicitDefEqProofs (maxSteps := 4000000) (disch := first | omega | decide | (simp only [go_sem]; omega)) only [go_sem, ↓reduceIte]
      repeat (with_reducible refine And.intro (by first | assumption | omega | (simp; done) | (simp; omega)) ?_)
      refine toEnd hC ?_
      refine endX_seq ?_
      refine runX_condT rfl rfl ?_
      refine runX_seq ?_
      refine runX_regionC fun C hC => ?_
      try simp -implicitDefEqProofs (maxSteps := 4000000) (disch := first | omega | decide | (simp only [go_sem]; omega)) only [go_sem, ↓reduceIte]
      repeat (with_reducible refine And.intro (by first | assumption | omega | (simp; done) | (simp; omega)) ?_)
      refine toEnd hC ?_
      refine endX_seq ?_
      refine runX_ret ?_
      refine endX_blkR ?_
      refine endX_seqR ?_
      refine endX_q ?_
      obtain rfl := Option.some.inj h
      show RetW _ _ _ _ _
      simp only [RetW]
      (try simp -implicitDefEqProofs (maxSteps := 4000000) (disch := first | omega | decide | (simp only [go_sem]; omega)) only [go_sem, ↓reduceIte])
      (try simp (disch := omega) only [if_pos, Nat.sub_zero])
      exact leT_refl _
    · refine guardK_T c1 ?_
      try simp -implicitDefEqProofs (maxSteps := 4000000) (disch := first | omega | decide | (simp only [go_sem]; omega)) only [go_sem, ↓reduceIte]
      repeat (with_reducible refine And.intro (by first | assumption | omega | (simp; done) | (simp; omega)) ?_)
      refine toEnd hC ?_
      refine endX_seq ?_
      rcases iteB_some h with ⟨c2, h⟩ | ⟨c2, h⟩
      · refine runX_condT rfl c2 ?_
        refine runX_seq ?_
        refine runX_regionC fun C hC => ?_
        try simp -implicitDefEqProofs (maxSteps := 4000000) (disch := first | omega | decide | (simp only [go_sem]; omega)) only [go_sem, ↓reduceIte]
        repeat (with_reducible refine And.intro (by first | assumption | omega | (simp; done) | (simp; omega)) ?_)
        refine toEnd hC ?_
        refine endX_seq ?_
        refine runX_ret ?_
        refine endX_blkR ?_
        refine endX_seqR ?_
        refine endX_q ?_
        obtain rfl := Option.some.inj h
        show RetW _ _ _ _ _
        simp only [RetW]
        (try simp -implicitDefEqProofs (maxSteps := 4000000) (disch := first | omega | decide | (simp only [go_sem]; omega)) only [go_sem, ↓reduceIte])
        (try simp (disch := omega) only [if_pos, Nat.sub_zero])
        exact leT_refl _
      · refine runX_condF rfl c2 ?_
        refine runX_seq ?_
        refine runX_regionC fun C hC => ?_
        try simp -implicitDefEqProofs (maxSteps := 4000000) (disch := first | omega | decide | (simp only [go_sem]; omega)) only [go_sem, ↓reduceIte]
        repeat (with_reducible refine And.intro (by first | assumption | omega | (simp; done) | (simp; omega)) ?_)
        refine toEnd hC ?_
        refine endX_seq ?_
        rcases iteB_some h with ⟨c3, h⟩ | ⟨c3, h⟩
        · refine runX_condT rfl c3 ?_
          refine runX_seq ?_
          refine runX_regionC fun C hC => ?_
          obtain ⟨g4, h⟩ := grd_some h
          obtain ⟨v5, h5, h⟩ := bnd_some h
          try simp -implicitDefEqProofs (maxSteps := 4000000) (disch := first | omega | decide | (simp only [go_sem]; omega)) only [go_sem, ↓reduceIte]
          repeat (with_reducible refine And.intro (by first | assumption | omega | (simp; done) | (simp; omega)) ?_)
          refine callG_X (by first | rfl | (simp only [go_sem]; done) | (simp only [closedL, closedT, Bool.and_true]; exact closedL_map _ (fun _ => by first | rfl | (simp only [go_sem]; done)) _)) (F109_ok n a0 ((a1.getD (0 : Int).toNat 0).toNat : Int) _ h5) (by repeat (first | exact leL_refl _ | refine leL_cons (by first | exact leT_refl _ | exact leT_virt | exact leT_junk _ | exact leT_sl | exact leT_sln | exact leT_nil | (refine leT_agg (by repeat (first | exact leL_refl _ | refine leL_cons (by first | exact leT_refl _ | exact leT_sl | exact leT_sln | exact leT_nil) ?_)))) ?_)) ?_
          try simp -implicitDefEqProofs (maxSteps := 4000000) (disch := first | omega | decide | (simp only [go_sem]; omega)) only [go_sem, ↓reduceIte]
          repeat (with_reducible refine And.intro (by first | assumption | omega | (simp; done) | (simp; omega)) ?_)
          refine toEnd hC ?_
          refine endX_seq ?_
          refine runX_ret ?_
          refine endX_blkR ?_
          refine endX_seqR ?_
          refine endX_q ?_
          obtain rfl := Option.some.inj h
          show RetW _ _ _ _ _
          simp only [RetW]
          (try simp -implicitDefEqProofs (maxSteps := 4000000) (disch := first | omega | decide | (simp only [go_sem]; omega)) only [go_sem, ↓reduceIte])
          (try simp (disch := omega) only [if_pos, Nat.sub_zero])
          exact leT_refl _
        · refine runX_condF rfl c3 ?_
          refine runX_seq ?_
          refine runX_regionC fun C hC => ?_
          try simp -implicitDefEqProofs (maxSteps := 4000000) (disch := first | omega | decide | (simp only [go_sem]; omega)) only [go_sem, ↓reduceIte]
          repeat (with_reducible refine And.intro (by first | assumption | omega | (simp; done) | (simp; omega)) ?_)
          refine toEnd hC ?_
          refine endX_seq ?_
          rcases iteB_some h with ⟨c6, h⟩ | ⟨c6, h⟩
          · refine runX_condT rfl c6 ?_
            refine runX_seq ?_
            refine runX_regionC fun C hC => ?_
            try simp -implicitDefEqProofs (maxSteps := 4000000) (disch := first | omega | decide | (simp only [go_sem]; omega)) only [go_sem, ↓reduceIte]
            repeat (with_reducible refine And.intro (by first | assumption | omega | (simp; done) | (simp; omega)) ?_)
            refine toEnd hC ?_
            refine endX_seq ?_
            refine runX_ret ?_
            refine endX_blkR ?_
            refine endX_seqR ?_
            refine endX_q ?_
            obtain rfl := Option.some.inj h
            show RetW _ _ _ _ _
            simp only [RetW]
            (try simp -implicitDefEqProofs (maxSteps := 4000000) (disch := first | omega | decide | (simp only [go_sem]; omega)) only [go_sem, ↓reduceIte])
            (try simp (disch := omega) only [if_pos, Nat.sub_zero])
            exact leT_refl _
          · refine runX_condF rfl c6 ?_
            cases h
end Go.Proofs.YtbamlphgolldlaaX
