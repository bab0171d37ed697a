/- Part of the proof of XmlinKids: walks and plain words, merged. -/
import Derived.Test.YtcnkndmegnfofaaBXmlinKidsb
import Derived.Test.YtcnkndmegnfofaaProg
import Derived.KernelRfl
import Derived.Test.YtcnkndmegnfofaaRows
import Derived.Test.YtcnkndmegnfofaaChecked
import Derived.WalkKit
import Derived.ProofKit
import Derived.OpenShut
set_option linter.unusedVariables false
set_option linter.unusedSimpArgs false

/- A struct that is built: the run stops there. Of no program. -/
set_option linter.unusedVariables false
set_option linter.unusedSimpArgs false
namespace Go.Proofs.YtcnkndmegnfofaaX
open Go Go.RowKit

def bldG (P : Program) (Q : Exit → St → Prop) (t : TypeId) (parts : List (Nat × T)) (dst : Option Tmp) (rest : List (Op × Option Tmp × Option (Option Tmp × Bool))) (S : St) (k : Kn) : Prop := buildW P t parts fun v => stepsK P Q rest (S.put dst v) k
theorem stepsK_build (P : Program) (Q : Exit → St → Prop) (S : St) (k : Kn) (t : TypeId) (l : List (Nat × Operand)) (dst : Option Tmp) (rest : List (Op × Option Tmp × Option (Option Tmp × Bool))) :
    stepsK P Q ((.build t ⟨l⟩, dst, none) :: rest) S k = bldG P Q t (l.map fun p => (p.1, evalT S p.2)) dst rest S k := by
  rw [stepsK_cons]
  simp only [opW]
  rfl
theorem stepsK_build0 (P : Program) (Q : Exit → St → Prop) (S : St) (k : Kn) (t : TypeId) (dst : Option Tmp) (rest : List (Op × Option Tmp × Option (Option Tmp × Bool))) :
    stepsK P Q ((.build t #[], dst, none) :: rest) S k = bldG P Q t [] dst rest S k := stepsK_build P Q S k t [] dst rest
theorem bldG_of {P : Program} {Q : Exit → St → Prop} {t : TypeId} {parts : List (Nat × T)} {dst : Option Tmp} {rest : List (Op × Option Tmp × Option (Option Tmp × Bool))} {S : St} {k : Kn} (l : List T) (h : buildL P t parts = some l) (hK : stepsK P Q rest (S.put dst (.agg l)) k) : bldG P Q t parts dst rest S k := buildW_of l h hK
/-- .. and a slice that is built. -/
def bsG (P : Program) (Q : Exit → St → Prop) (t : TypeId) (n : Nat) (parts : List (Nat × T)) (dst : Option Tmp) (rest : List (Op × Option Tmp × Option (Option Tmp × Bool))) (S : St) (k : Kn) : Prop := buildSliceX P S.objs.length t n parts fun v eff => stepsK P Q rest ((S.after eff).put dst v) k
theorem stepsK_bs (P : Program) (Q : Exit → St → Prop) (S : St) (k : Kn) (t : TypeId) (n : Nat) (l : List (Nat × Operand)) (dst : Option Tmp) (rest : List (Op × Option Tmp × Option (Option Tmp × Bool))) :
    stepsK P Q ((.buildSlice t n ⟨l⟩, dst, none) :: rest) S k = bsG P Q t n (l.map fun p => (p.1, evalT S p.2)) dst rest S k := by
  rw [stepsK_cons]
  simp only [opW]
  rfl
theorem stepsK_bs0 (P : Program) (Q : Exit → St → Prop) (S : St) (k : Kn) (t : TypeId) (n : Nat) (dst : Option Tmp) (rest : List (Op × Option Tmp × Option (Option Tmp × Bool))) :
    stepsK P Q ((.buildSlice t n #[], dst, none) :: rest) S k = bsG P Q t n [] dst rest S k := stepsK_bs P Q S k t n [] dst rest
theorem bs_go {P : Program} {Q : Exit → St → Prop} {t : TypeId} {n : Nat} {parts : List (Nat × T)} {dst : Option Tmp} {rest : List (Op × Option Tmp × Option (Option Tmp × Bool))} {S : St} {k : Kn} (h : buildSliceX P S.objs.length t n parts fun v eff => stepsK P Q rest ((S.after eff).put dst v) k) : bsG P Q t n parts dst rest S k := h
theorem closedL_map {α : Type} (e : α → T) (h : ∀ x, closedT (e x) = true) : ∀ l : List α, closedL (List.map e l) = true
  | [] => rfl
  | x :: l => by rw [List.map_cons, closedL, h, closedL_map e h l]; rfl
theorem ppL_map {α : Type} (o : Nat) (y : T) (e : α → T) (h : ∀ x, ppT o y (e x) = e x) : ∀ l : List α, ppL o y (List.map e l) = List.map e l
  | [] => rfl
  | x :: l => by rw [List.map_cons, ppL, h, ppL_map o y e h l]
theorem ppL_s (o : Nat) (y : T) (l : List (List UInt8)) : ppL o y (List.map eS l) = List.map eS l := ppL_map o y _ (fun _ => rfl) l
/-- Elements, one by one. -/
def leE (l l' : List T) : Prop := ∀ (E : Env) (sz : Nat) (c : List Value), RepR E sz l c → RepR E sz l' c
theorem leE_refl (l : List T) : leE l l := fun _ _ _ h => h
theorem leE_cons {x y : T} {l l' : List T} (h : leT anyE x y) (h' : leE l l') : leE (x :: l) (y :: l') := fun E sz c k => by
  simp only [RepR] at k ⊢
  obtain ⟨u, c', e, h1, h2, h3⟩ := k
  exact ⟨u, c', e, h1, h E true u trivial h2, h' E sz c' h3⟩
theorem leT_slX {sz : Nat} {f : Bool} {l l' : List T} (h : leE l l') (hl : l'.length = l.length) : leT anyE (.sl sz f l) (.sl sz false l') := fun E cl v hp k => by
  simp only [Rep] at k ⊢
  obtain ⟨a, cap, c, h1, h2, h3, h4, h5⟩ := k
  exact ⟨a, cap, c, by rw [hl]; exact h1, by rw [hl]; exact h2, (fun h => by cases h), h E sz c h4, h5⟩
end Go.Proofs.YtcnkndmegnfofaaX

/- Contracts over rows of the caller's, by a run; and their use. Of no program. -/
set_option linter.unusedVariables false
set_option linter.unusedSimpArgs false
namespace Go.Proofs.YtcnkndmegnfofaaX
open Go Go.RowKit

/-! ### At a function's end -/
def lockFr (n : Nat) : Nat → List (Option Own) → List (Option Own)
  | _, [] => []
  | i, x :: l => (if i < n then x else x.map Own.lockAll) :: lockFr n (i + 1) l
theorem lockFr_get (n : Nat) : ∀ (l : List (Option Own)) (i o : Nat), (lockFr n i l)[o]? = (l[o]?).map fun x => if i + o < n then x else x.map Own.lockAll
  | [], i, o => by simp [lockFr]
  | x :: l, i, o => by
    cases o with
    | zero => simp [lockFr]
    | succ o =>
      have := lockFr_get n l (i + 1) o
      rw [show i + 1 + o = i + (o + 1) by omega] at this
      simpa [lockFr] using this
theorem Sat.lockFr {B : Base} {S : St} {a : Act} {w : World} {μ : Nat → Option Nat} (hS : Sat B S a w μ) (n : Nat) : Sat B ⟨S.tmps, Go.Proofs.YtcnkndmegnfofaaX.lockFr n 0 S.objs⟩ a w μ := by
  refine hS.relock fun i => ?_
  rw [lockFr_get, Nat.zero_add]
  cases h : S.objs[i]? with
  | none => exact .none
  | some x =>
    rw [Option.map_some]
    by_cases hi : i < n
    · rw [if_pos hi]; exact RL.refl _
    · rw [if_neg hi]
      cases x with
      | none => exact .free
      | some y =>
        cases y with
        | box t x lk => exact .box fun _ => rfl
        | buf t sz l lk => exact .buf (Nat.le_max_left _ _) (fun h => Nat.max_le.2 ⟨h, Nat.le_refl _⟩)
        | dead => exact .dead
def lookFr (n : Nat) (o : List (Option Own)) (i : Nat) : Option Own := if i < n then none else o.getD i none
theorem lookFr_some {n : Nat} {o : List (Option Own)} {i : Nat} {x : Own} (h : lookFr n o i = some x) : o[i]? = some (some x) := by
  unfold lookFr at h
  split at h
  · cases h
  · rw [List.getD_eq_getElem?_getD] at h
    cases hz : o[i]? with
    | none => rw [hz] at h; cases h
    | some z => rw [hz] at h; exact congrArg some h
def Own.snap (look : Nat → Option Own) : Own → Own
  | .box t x lk => .box t (dsnap look x) lk
  | .buf t sz l lk => .buf t sz l lk
  | .dead => .dead
theorem dsnapL_length (look : Nat → Option Own) (l : List T) : (dsnapL look l).length = l.length := by rw [dsnapL_eq]; simp
theorem cells_dsnap (look : Nat → Option Own) (x : T) : (dsnap look x).cells.length = x.cells.length := by
  cases x with
  | agg l => simp only [dsnap, T.cells, dsnapL_length]
  | rsl o sz off len =>
    rw [dsnap]; unfold Go.Proofs.YtcnkndmegnfofaaX.snap
    dsimp only
    split
    · split <;> rfl
    · rfl
  | _ => rfl
theorem Own.snap_lock (look : Nat → Option Own) (x : Own) : (x.snap look).lock = x.lock := by
  cases x <;> simp only [Own.snap, Own.lock, cells_dsnap]
theorem Own.snap_dead {look : Nat → Option Own} {x : Own} : x.snap look = .dead ↔ x = .dead := by cases x <;> simp [Own.snap]
theorem Sat.snapR {B : Base} {S : St} {a : Act} {w : World} {μ : Nat → Option Nat} (hS : Sat B S a w μ) {look : Nat → Option Own} (hl : ∀ i x, look i = some x → S.objs[i]? = some (some x)) : Sat B ⟨dsnapL look S.tmps, S.objs.map (Option.map (Own.snap look))⟩ a w μ := by
  have hget : ∀ (o : Nat) (y : Own), (S.objs.map (Option.map (Own.snap look)))[o]? = some (some y) → ∃ x, S.objs[o]? = some (some x) ∧ y = x.snap look := by
    intro o y h
    rw [List.getElem?_map] at h
    cases hz : S.objs[o]? with
    | none => rw [hz] at h; cases h
    | some z =>
      rw [hz] at h
      cases z with
      | none => cases h
      | some z =>
        have h : some (some (z.snap look)) = some (some y) := h
        injection h with h; injection h with h
        exact ⟨z, rfl, h.symm⟩
  have hst : Step [] ⟨w, μ, S.objs, B.ban⟩ ⟨w, μ, S.objs.map (Option.map (Own.snap look)), B.ban⟩ := by
    refine ⟨⟨fun b j v ⟨h1, h2, h3⟩ => ⟨h1, fun lk ⟨o, y, k1, k2, k3⟩ => ?_, h3⟩, fun b c t fr hb => ⟨c, fr, hb, rfl⟩⟩, fun o ⟨x, hx⟩ _ => ⟨x.snap look, ?_⟩, fun _ _ _ => rfl⟩
    · obtain ⟨x, e1, rfl⟩ := hget o y k1
      rw [Own.snap_lock] at k3
      exact h2 lk ⟨o, x, e1, k2, k3⟩
    · have hx : S.objs[o]? = some (some x) := hx
      show (S.objs.map _)[o]? = _
      rw [List.getElem?_map, hx]; rfl
  refine ⟨RepL.step hst (dsnapL_rep hS hl _ _ hS.tmps), hS.defers, ⟨fun o y hy => ?_, fun o o' y y' b h1 h2 hd hd' hb hb' => ?_⟩, fun o y b h1 hd hb => ?_, hS.kept⟩
  · obtain ⟨x, hx, rfl⟩ := hget o y hy
    have := hS.objs.at_ o x hx
    cases x with
    | box t x lk =>
      obtain ⟨b, fr, u, h1, h2, h3, h4, h5⟩ := this
      exact ⟨b, fr, u, h1, h2, h3, Rep.step hst (dsnap_rep hS hl _ _ h4), by rw [cells_dsnap]; exact h5⟩
    | buf t sz l lk =>
      obtain ⟨h0, h1⟩ := this
      exact ⟨h0, h1.imp id fun ⟨b, c, fr, c1, c2, h1, h2, h3, h4, h5⟩ => ⟨b, c, fr, c1, c2, h1, h2, h3, h4, RepR.stepC hst.toStepC _ _ _ h5⟩⟩
    | dead => trivial
  · obtain ⟨x, hx, rfl⟩ := hget o y h1
    obtain ⟨x', hx', rfl⟩ := hget o' y' h2
    exact hS.objs.inj o o' x x' b hx hx' (fun e => hd (Own.snap_dead.2 e)) (fun e => hd' (Own.snap_dead.2 e)) hb hb'
  · obtain ⟨x, hx, rfl⟩ := hget o y h1
    rw [Own.snap_lock]
    exact hS.fresh o x b hx (fun e => hd (Own.snap_dead.2 e)) hb
/-- Rows from a number on are locked, and seen as slices; these temporaries alone are kept. -/
def St.fin (S : St) (n : Nat) (ts : List Nat) : St :=
  (St.keep ⟨dsnapL (lookFr n (lockFr n 0 S.objs)) S.tmps, (lockFr n 0 S.objs).map (Option.map (Own.snap (lookFr n (lockFr n 0 S.objs))))⟩ ts).cut n
theorem Sat.fin {B : Base} {S : St} {a : Act} {w : World} {μ : Nat → Option Nat} (hS : Sat B S a w μ) (n : Nat) (ts : List Nat) : Sat B (S.fin n ts) a w μ :=
  (((hS.lockFr n).snapR (look := lookFr n (Go.Proofs.YtcnkndmegnfofaaX.lockFr n 0 S.objs)) fun i x h => lookFr_some h).keep ts).cut n

def RetR (P : Program) (fn : Func) (res : T) (n : Nat) (ts : List Nat) (objs' : List (Option Own)) : Exit → St → Prop
  | .normal, S | .ret, S => leOs anyE (S.fin n ts).objs objs' ∧ resW P ⟨(S.fin n ts).tmps, objs'⟩ fn.results.toList fun l => leT anyE (retT l) res
  | _, _ => False
theorem FnR.ofW {P : Program} {f : FuncId} {fn : Func} {c : Code} {objs objs' : List (Option Own)} {args : List T} {res : T} (ts : List Nat) (hf : P.funcs[f]? = some fn) (hn : (fn.name == "runtime.NumGoroutine") = false) (hb : fn.body = some c)
    (hrows : rowsOk objs.length 0 objs = true) (hsame : sameO objs objs' = true) (hrefs : (refsCL args).all (fun o => decide (o < objs.length)) = true)
    (h : WP P c ⟨args ++ List.replicate (fn.ntmps - args.length) .junk, objs⟩ (RetR P fn res objs.length ts objs')) : FnR P f objs args res objs' := by
  refine ⟨⟨fn, hf, hn, by rw [hb]; rfl⟩, hrows, hsame, hrefs, fun B μ vs hO hOwn hv => ?_⟩
  have hlen := hv.length
  rw [Array.length_toList] at hlen
  have hS : Sat B ⟨args ++ List.replicate (fn.ntmps - args.length) .junk, objs⟩ { tmps := vs ++ Array.replicate (fn.ntmps - vs.size) undef, defers := [] } B.w μ := by
    refine ⟨?_, rfl, hO, fun o x b h1 h2 h3 => ?_, ⟨rfl, rfl, rfl, Nat.le_refl _, fun _ _ _ => rfl, fun _ _ _ _ _ => rfl, fun k lk _ c t fr h => ⟨c, fr, h, rfl⟩⟩⟩
    · have e : (vs ++ Array.replicate (fn.ntmps - vs.size) undef).toList = vs.toList ++ List.replicate (fn.ntmps - args.length) undef := by simp [hlen]
      show RepL _ _ _ (vs ++ Array.replicate (fn.ntmps - vs.size) undef).toList
      rw [e]
      refine RepL.append hv ?_
      generalize fn.ntmps - args.length = n
      induction n with
      | zero => simp [RepL]
      | succ n ih => simp only [List.replicate_succ, RepL]; exact ⟨_, _, rfl, by simp only [Rep], ih⟩
    · have h1 : objs[o]? = some (some x) := h1
      obtain ⟨l, hl⟩ : ∃ l, x.lock = some l := by cases x <;> first | exact ⟨_, rfl⟩ | exact absurd rfl h2
      exact .inr ⟨0, l, (hOwn.1 b 0).2 ⟨rfl, o, (List.getElem?_eq_some_iff.1 h1).1, h3⟩, hl, Nat.zero_le _⟩
  refine calls_of_wp hf hb (wp_mono (h B _ _ _ hS) fun e a w' ⟨S, μ1, hQ, hS'⟩ => ?_)
  have main : (leOs anyE (S.fin objs.length ts).objs objs' ∧ resW P ⟨(S.fin objs.length ts).tmps, objs'⟩ fn.results.toList fun l => leT anyE (retT l) res) → a.defers = [] ∧ ∃ v, (results fn a.tmps).run P w' = .ok v w' ∧ (∃ u μ', Ending.returned v = .returned u ∧ Objs ⟨w', μ', objs', B.ban⟩ ∧ Rep ⟨w', μ', objs', B.ban⟩ false res u ∧ Kept B w' ∧ (∀ (o : Nat) (x : Own) (b : Nat), objs'[o]? = some (some x) → x ≠ .dead → μ' o = some b → B.w.heap.size ≤ b ∨ B.own b 0)) := by
    rintro ⟨hR1, hR2⟩
    have hF : Sat B ⟨(S.fin objs.length ts).tmps, objs'⟩ a w' μ1 := (hS'.fin objs.length ts).le (p := anyE) (leL_refl _) hR1 trivial
    obtain ⟨l, us, h1, h3, h4⟩ := res_sound hF _ _ hR2
    refine ⟨hF.defers, if hh : us.toArray.size = 1 then us.toArray[0] else .tuple us.toArray, ?_, _, μ1, rfl, hF.objs, ?_, hF.kept, fun o x b k1 k2 k3 => ?_⟩
    · have hm : (fn.results.mapM (fun | .tmp t => pure (a.tmps.getD t undef) | .cell c t => do loadVar t (← asAddr (a.tmps.getD c undef)) : ResultVar → Sem Value)).run P w' = .ok us.toArray w' := by
        rw [Array.mapM_eq_mapM_toList, Sem.run_map]
        have : (fun | .tmp t => pure (a.tmps.getD t undef) | .cell c t => do loadVar t (← asAddr (a.tmps.getD c undef)) : ResultVar → Sem Value) = rdRes a.tmps := by
          funext r; cases r <;> rfl
        rw [this, h3]; rfl
      unfold results
      exact run_bind (f := fun vs : Array Value => (pure (if h : vs.size = 1 then vs[0] else Value.tuple vs) : Sem Value)) hm
    · refine h1 _ _ _ trivial ?_
      have hul := h4.length
      by_cases h1' : us.length = 1
      · obtain ⟨u, rfl⟩ := List.length_eq_one_iff.1 h1'
        obtain ⟨x, rfl⟩ := List.length_eq_one_iff.1 (hul.symm.trans h1')
        simp only [RepL] at h4
        obtain ⟨v, vs', e1, e2, e3⟩ := h4
        subst e3
        cases e1
        simpa [retT] using e2
      · rw [dif_neg (by simpa using h1')]
        have e : retT l = .tup l := by
          cases l with
          | nil => rfl
          | cons x l => cases l with
            | nil => exact absurd hul h1'
            | cons y l => rfl
        rw [e]
        simp only [Rep]
        exact ⟨_, rfl, by simpa using h4⟩
    · rcases hF.fresh o x b k1 k2 k3 with h | ⟨lk, lk', q1, _⟩
      · exact .inl h
      · have := ((hOwn.1 b lk).1 q1).1
        subst this
        exact .inr q1
  cases e with
  | normal => exact main hQ
  | ret => exact main hQ
  | _ => exact hQ.elim
theorem FnR.goX {P : Program} (hm : P.follows .mixedOrders = true) (ts : List Nat) {f : FuncId} {fn : Func} {c : Code} {objs objs' : List (Option Own)} {args : List T} {res : T} (hf : P.funcs[f]? = some fn) (hn : (fn.name == "runtime.NumGoroutine") = false) (hb : fn.body = some c)
    (hrows : rowsOk objs.length 0 objs = true) (hsame : sameO objs objs' = true) (hrefs : (refsCL args).all (fun o => decide (o < objs.length)) = true)
    (h : runX P (RetR P fn res objs.length ts objs') c ⟨args ++ List.replicate (fn.ntmps - args.length) .junk, objs⟩ .q) : FnR P f objs args res objs' := FnR.ofW ts hf hn hb hrows hsame hrefs h
section
variable {P : Program} {Q : Exit → St → Prop} {g : FuncId} {args args' : List T} {dst : Option Tmp} {rest : List (Op × Option Tmp × Option (Option Tmp × Bool))} {S : St} {k : Kn} {r : T} {objs objs' : List (Option Own)}
theorem callR_X (σ : List Nat) (h : FnR P g objs args' r objs') (hnd : σ.Nodup) (hrel : relsO σ (lookS S) σ objs) (ha : leL anyE args (renFL σ args')) (h2 : stepsK P Q rest ((S.after (.many (movesO σ objs) (newsO σ (lookS S) σ objs'))).put dst (renF σ r)) k) : callG P Q g args dst rest S k :=
  .inr ⟨σ, objs, args', r, objs', h, hnd, hrel, fun E vs hv => ha E false vs trivial hv, h2⟩
end
theorem renFL_map {α : Type} (f : List Nat) (e : α → T) (h : ∀ x, renF f (e x) = e x) : ∀ l : List α, renFL f (List.map e l) = List.map e l
  | [] => rfl
  | x :: l => by rw [List.map_cons, renFL, h, renFL_map f e h l]

/-! ### A pointer of a variable to itself, or none -/
def adT (b : Bool) (o : Nat) : T := match b with | true => .ref o 7777 0 0 | false => .imm (.pointer none)
theorem adT_refs (b : Bool) (o : Nat) : refsT (adT b o) = [] := by cases b <;> rfl
theorem adT_refsC {b : Bool} {o n : Nat} (h : o < n) : (refsC (adT b o)).all (fun q => decide (q < n)) = true := by cases b <;> simp [adT, refsC, h]
theorem adT_ren (f : List Nat) (b : Bool) (o : Nat) : renF f (adT b o) = adT b (f.getD o 0) := by cases b <;> rfl
theorem adT_kill {ks : List Nat} {b : Bool} {o : Nat} (h : ks.contains o = false) : kill ks (adT b o) = adT b o := by
  cases b
  · rfl
  · show (if ks.contains o = true then _ else _) = _
    rw [h]; rfl
theorem adT_snap (look : Nat → Option Own) (b : Bool) (o : Nat) : dsnap look (adT b o) = adT b o := by cases b <;> rfl
theorem adT_cells (b : Bool) (o : Nat) : (adT b o).cells = [adT b o] := by cases b <;> rfl
attribute [go_sem] adT_refs adT_refsC adT_ren adT_kill adT_snap adT_cells
attribute [go_sem] lockFr lookFr Own.snap St.fin renF renFL movesO newsO newO setsO relsO relO renFL_map
end Go.Proofs.YtcnkndmegnfofaaX

/- What the program's types are. -/
set_option linter.unusedVariables false
namespace Go.Proofs.YtcnkndmegnfofaaX
open Go Go.RowKit Go.Proofs
theorem small_of {P : Program} {t : TypeId} (h : ((P.info? t).all fun i => decide (i.bytes ≤ 256)) = true) : ∀ i, P.info? t = some i → i.bytes ≤ 256 := fun i hi => by
  rw [hi] at h; simpa using h
theorem notInt_of {d : Option TypeDesc} (h : (match d with | some (.int _) => false | some _ => true | none => false) = true) : notInt d := by
  cases d with
  | none => cases h
  | some d => refine ⟨d, rfl, fun k e => ?_⟩; subst e; cases h
theorem mixed : Try.prog.follows .mixedOrders = true := by kernel_rfl
theorem sz2 : szOf Try.prog 2 = 1 := by kernel_rfl
theorem cz2 : Try.prog.cellsOf 2 = 1 := by kernel_rfl
theorem ok2 : okT Try.prog 2 = true := by kernel_rfl
theorem ze2 : zeroOf Try.prog 2 = .imm (.int .i64 0) := by kernel_rfl
theorem by2 : (∀ i, Try.prog.info? 2 = some i → i.bytes ≤ 256) = True := eq_true (small_of (by kernel_rfl))
theorem sz3 : szOf Try.prog 3 = 1 := by kernel_rfl
theorem cz3 : Try.prog.cellsOf 3 = 1 := by kernel_rfl
theorem ok3 : okT Try.prog 3 = true := by kernel_rfl
theorem ze3 : zeroOf Try.prog 3 = .imm (.int .i64 0) := by kernel_rfl
theorem by3 : (∀ i, Try.prog.info? 3 = some i → i.bytes ≤ 256) = True := eq_true (small_of (by kernel_rfl))
theorem sz4 : szOf Try.prog 4 = 1 := by kernel_rfl
theorem cz4 : Try.prog.cellsOf 4 = 1 := by kernel_rfl
theorem ok4 : okT Try.prog 4 = true := by kernel_rfl
theorem ze4 : zeroOf Try.prog 4 = .imm (.bool false) := by kernel_rfl
theorem by4 : (∀ i, Try.prog.info? 4 = some i → i.bytes ≤ 256) = True := eq_true (small_of (by kernel_rfl))
theorem ni4 : notInt (Try.prog.underlying 4) = True := eq_true (notInt_of (by kernel_rfl))
theorem sz5 : szOf Try.prog 5 = 1 := by kernel_rfl
theorem cz5 : Try.prog.cellsOf 5 = 1 := by kernel_rfl
theorem ok5 : okT Try.prog 5 = true := by kernel_rfl
theorem ze5 : zeroOf Try.prog 5 = .imm (.int .u8 0) := by kernel_rfl
theorem by5 : (∀ i, Try.prog.info? 5 = some i → i.bytes ≤ 256) = True := eq_true (small_of (by kernel_rfl))
theorem sz6 : szOf Try.prog 6 = 1 := by kernel_rfl
theorem cz6 : Try.prog.cellsOf 6 = 1 := by kernel_rfl
theorem ok6 : okT Try.prog 6 = true := by kernel_rfl
theorem ze6 : zeroOf Try.prog 6 = .imm (.int .u8 0) := by kernel_rfl
theorem by6 : (∀ i, Try.prog.info? 6 = some i → i.bytes ≤ 256) = True := eq_true (small_of (by kernel_rfl))
theorem sz7 : szOf Try.prog 7 = 4 := by kernel_rfl
theorem cz7 : Try.prog.cellsOf 7 = 4 := by kernel_rfl
theorem ok7 : okT Try.prog 7 = true := by kernel_rfl
theorem ze7 : zeroOf Try.prog 7 = .agg [.imm (.int .i64 0), .imm (.int .i64 0), .imm (.bool false), .imm (.int .u8 0)] := by kernel_rfl
theorem by7 : (∀ i, Try.prog.info? 7 = some i → i.bytes ≤ 256) = True := eq_true (small_of (by kernel_rfl))
theorem ni7 : notInt (Try.prog.underlying 7) = True := eq_true (notInt_of (by kernel_rfl))
theorem sz8 : szOf Try.prog 8 = 4 := by kernel_rfl
theorem cz8 : Try.prog.cellsOf 8 = 4 := by kernel_rfl
theorem ok8 : okT Try.prog 8 = true := by kernel_rfl
theorem ze8 : zeroOf Try.prog 8 = .agg [.imm (.int .i64 0), .imm (.int .i64 0), .imm (.bool false), .imm (.int .u8 0)] := by kernel_rfl
theorem by8 : (∀ i, Try.prog.info? 8 = some i → i.bytes ≤ 256) = True := eq_true (small_of (by kernel_rfl))
theorem ni8 : notInt (Try.prog.underlying 8) = True := eq_true (notInt_of (by kernel_rfl))
theorem sz9 : szOf Try.prog 9 = 1 := by kernel_rfl
theorem cz9 : Try.prog.cellsOf 9 = 1 := by kernel_rfl
theorem ok9 : okT Try.prog 9 = true := by kernel_rfl
theorem ze9 : zeroOf Try.prog 9 = .imm (.string ByteArray.empty) := by kernel_rfl
theorem by9 : (∀ i, Try.prog.info? 9 = some i → i.bytes ≤ 256) = True := eq_true (small_of (by kernel_rfl))
theorem ni9 : notInt (Try.prog.underlying 9) = True := eq_true (notInt_of (by kernel_rfl))
theorem sz10 : szOf Try.prog 10 = 1 := by kernel_rfl
theorem cz10 : Try.prog.cellsOf 10 = 1 := by kernel_rfl
theorem ok10 : okT Try.prog 10 = true := by kernel_rfl
theorem ze10 : zeroOf Try.prog 10 = .imm (.string ByteArray.empty) := by kernel_rfl
theorem by10 : (∀ i, Try.prog.info? 10 = some i → i.bytes ≤ 256) = True := eq_true (small_of (by kernel_rfl))
theorem ni10 : notInt (Try.prog.underlying 10) = True := eq_true (notInt_of (by kernel_rfl))
theorem sz11 : szOf Try.prog 11 = 1 := by kernel_rfl
theorem cz11 : Try.prog.cellsOf 11 = 1 := by kernel_rfl
theorem ok11 : okT Try.prog 11 = true := by kernel_rfl
theorem ze11 : zeroOf Try.prog 11 = .imm (.string ByteArray.empty) := by kernel_rfl
theorem by11 : (∀ i, Try.prog.info? 11 = some i → i.bytes ≤ 256) = True := eq_true (small_of (by kernel_rfl))
theorem ni11 : notInt (Try.prog.underlying 11) = True := eq_true (notInt_of (by kernel_rfl))
theorem sz12 : szOf Try.prog 12 = 1 := by kernel_rfl
theorem cz12 : Try.prog.cellsOf 12 = 1 := by kernel_rfl
theorem ok12 : okT Try.prog 12 = true := by kernel_rfl
theorem ze12 : zeroOf Try.prog 12 = .imm (.int .u64 0) := by kernel_rfl
theorem by12 : (∀ i, Try.prog.info? 12 = some i → i.bytes ≤ 256) = True := eq_true (small_of (by kernel_rfl))
theorem sz13 : szOf Try.prog 13 = 2 := by kernel_rfl
theorem cz13 : Try.prog.cellsOf 13 = 2 := by kernel_rfl
theorem ok13 : okT Try.prog 13 = true := by kernel_rfl
theorem ze13 : zeroOf Try.prog 13 = .agg [.imm (.string ByteArray.empty), .imm (.int .u64 0)] := by kernel_rfl
theorem by13 : (∀ i, Try.prog.info? 13 = some i → i.bytes ≤ 256) = True := eq_true (small_of (by kernel_rfl))
theorem ni13 : notInt (Try.prog.underlying 13) = True := eq_true (notInt_of (by kernel_rfl))
theorem sz14 : szOf Try.prog 14 = 2 := by kernel_rfl
theorem cz14 : Try.prog.cellsOf 14 = 2 := by kernel_rfl
theorem ok14 : okT Try.prog 14 = true := by kernel_rfl
theorem ze14 : zeroOf Try.prog 14 = .agg [.imm (.string ByteArray.empty), .imm (.int .u64 0)] := by kernel_rfl
theorem by14 : (∀ i, Try.prog.info? 14 = some i → i.bytes ≤ 256) = True := eq_true (small_of (by kernel_rfl))
theorem ni14 : notInt (Try.prog.underlying 14) = True := eq_true (notInt_of (by kernel_rfl))
theorem sz15 : szOf Try.prog 15 = 1 := by kernel_rfl
theorem cz15 : Try.prog.cellsOf 15 = 1 := by kernel_rfl
theorem ok15 : okT Try.prog 15 = true := by kernel_rfl
theorem ze15 : zeroOf Try.prog 15 = .imm (.pointer none) := by kernel_rfl
theorem by15 : (∀ i, Try.prog.info? 15 = some i → i.bytes ≤ 256) = True := eq_true (small_of (by kernel_rfl))
theorem ni15 : notInt (Try.prog.underlying 15) = True := eq_true (notInt_of (by kernel_rfl))
theorem sz16 : szOf Try.prog 16 = 1 := by kernel_rfl
theorem cz16 : Try.prog.cellsOf 16 = 1 := by kernel_rfl
theorem ok16 : okT Try.prog 16 = true := by kernel_rfl
theorem ze16 : zeroOf Try.prog 16 = .imm (.pointer none) := by kernel_rfl
theorem by16 : (∀ i, Try.prog.info? 16 = some i → i.bytes ≤ 256) = True := eq_true (small_of (by kernel_rfl))
theorem ni16 : notInt (Try.prog.underlying 16) = True := eq_true (notInt_of (by kernel_rfl))
theorem sz17 : szOf Try.prog 17 = 1 := by kernel_rfl
theorem cz17 : Try.prog.cellsOf 17 = 1 := by kernel_rfl
theorem ok17 : okT Try.prog 17 = true := by kernel_rfl
theorem ze17 : zeroOf Try.prog 17 = .imm (.pointer none) := by kernel_rfl
theorem by17 : (∀ i, Try.prog.info? 17 = some i → i.bytes ≤ 256) = True := eq_true (small_of (by kernel_rfl))
theorem ni17 : notInt (Try.prog.underlying 17) = True := eq_true (notInt_of (by kernel_rfl))
theorem sz18 : szOf Try.prog 18 = 1 := by kernel_rfl
theorem cz18 : Try.prog.cellsOf 18 = 1 := by kernel_rfl
theorem ok18 : okT Try.prog 18 = true := by kernel_rfl
theorem ze18 : zeroOf Try.prog 18 = .agg [.imm (.pointer none)] := by kernel_rfl
theorem by18 : (∀ i, Try.prog.info? 18 = some i → i.bytes ≤ 256) = True := eq_true (small_of (by kernel_rfl))
theorem ni18 : notInt (Try.prog.underlying 18) = True := eq_true (notInt_of (by kernel_rfl))
theorem sz19 : szOf Try.prog 19 = 1 := by kernel_rfl
theorem cz19 : Try.prog.cellsOf 19 = 1 := by kernel_rfl
theorem ok19 : okT Try.prog 19 = true := by kernel_rfl
theorem ze19 : zeroOf Try.prog 19 = .agg [.imm (.pointer none)] := by kernel_rfl
theorem by19 : (∀ i, Try.prog.info? 19 = some i → i.bytes ≤ 256) = True := eq_true (small_of (by kernel_rfl))
theorem ni19 : notInt (Try.prog.underlying 19) = True := eq_true (notInt_of (by kernel_rfl))
theorem sz20 : szOf Try.prog 20 = 1 := by kernel_rfl
theorem cz20 : Try.prog.cellsOf 20 = 1 := by kernel_rfl
theorem ok20 : okT Try.prog 20 = true := by kernel_rfl
theorem ze20 : zeroOf Try.prog 20 = .imm .nilIface := by kernel_rfl
theorem by20 : (∀ i, Try.prog.info? 20 = some i → i.bytes ≤ 256) = True := eq_true (small_of (by kernel_rfl))
theorem ni20 : notInt (Try.prog.underlying 20) = True := eq_true (notInt_of (by kernel_rfl))
theorem sz21 : szOf Try.prog 21 = 1 := by kernel_rfl
theorem cz21 : Try.prog.cellsOf 21 = 1 := by kernel_rfl
theorem ok21 : okT Try.prog 21 = true := by kernel_rfl
theorem ze21 : zeroOf Try.prog 21 = .imm (.int .i32 0) := by kernel_rfl
theorem by21 : (∀ i, Try.prog.info? 21 = some i → i.bytes ≤ 256) = True := eq_true (small_of (by kernel_rfl))
theorem sz25 : szOf Try.prog 25 = 1 := by kernel_rfl
theorem cz25 : Try.prog.cellsOf 25 = 1 := by kernel_rfl
theorem ok25 : okT Try.prog 25 = true := by kernel_rfl
theorem ze25 : zeroOf Try.prog 25 = .sl 0 true [] := by kernel_rfl
theorem by25 : (∀ i, Try.prog.info? 25 = some i → i.bytes ≤ 256) = True := eq_true (small_of (by kernel_rfl))
theorem ni25 : notInt (Try.prog.underlying 25) = True := eq_true (notInt_of (by kernel_rfl))
theorem sz26 : szOf Try.prog 26 = 3 := by kernel_rfl
theorem cz26 : Try.prog.cellsOf 26 = 3 := by kernel_rfl
theorem ok26 : okT Try.prog 26 = true := by kernel_rfl
theorem ze26 : zeroOf Try.prog 26 = .agg [.imm (.string ByteArray.empty), .imm (.string ByteArray.empty), .sl 0 true []] := by kernel_rfl
theorem by26 : (∀ i, Try.prog.info? 26 = some i → i.bytes ≤ 256) = True := eq_true (small_of (by kernel_rfl))
theorem ni26 : notInt (Try.prog.underlying 26) = True := eq_true (notInt_of (by kernel_rfl))
theorem sz27 : szOf Try.prog 27 = 3 := by kernel_rfl
theorem cz27 : Try.prog.cellsOf 27 = 3 := by kernel_rfl
theorem ok27 : okT Try.prog 27 = true := by kernel_rfl
theorem ze27 : zeroOf Try.prog 27 = .agg [.imm (.string ByteArray.empty), .imm (.string ByteArray.empty), .sl 0 true []] := by kernel_rfl
theorem by27 : (∀ i, Try.prog.info? 27 = some i → i.bytes ≤ 256) = True := eq_true (small_of (by kernel_rfl))
theorem ni27 : notInt (Try.prog.underlying 27) = True := eq_true (notInt_of (by kernel_rfl))
theorem sz28 : szOf Try.prog 28 = 1 := by kernel_rfl
theorem cz28 : Try.prog.cellsOf 28 = 1 := by kernel_rfl
theorem ok28 : okT Try.prog 28 = true := by kernel_rfl
theorem ze28 : zeroOf Try.prog 28 = .sl 0 true [] := by kernel_rfl
theorem by28 : (∀ i, Try.prog.info? 28 = some i → i.bytes ≤ 256) = True := eq_true (small_of (by kernel_rfl))
theorem ni28 : notInt (Try.prog.underlying 28) = True := eq_true (notInt_of (by kernel_rfl))
theorem sz29 : szOf Try.prog 29 = 3 := by kernel_rfl
theorem cz29 : Try.prog.cellsOf 29 = 3 := by kernel_rfl
theorem ok29 : okT Try.prog 29 = true := by kernel_rfl
theorem ze29 : zeroOf Try.prog 29 = .agg [.imm (.string ByteArray.empty), .imm (.string ByteArray.empty), .sl 0 true []] := by kernel_rfl
theorem by29 : (∀ i, Try.prog.info? 29 = some i → i.bytes ≤ 256) = True := eq_true (small_of (by kernel_rfl))
theorem ni29 : notInt (Try.prog.underlying 29) = True := eq_true (notInt_of (by kernel_rfl))
theorem sz30 : szOf Try.prog 30 = 3 := by kernel_rfl
theorem cz30 : Try.prog.cellsOf 30 = 3 := by kernel_rfl
theorem ok30 : okT Try.prog 30 = true := by kernel_rfl
theorem ze30 : zeroOf Try.prog 30 = .agg [.imm (.string ByteArray.empty), .imm (.string ByteArray.empty), .sl 0 true []] := by kernel_rfl
theorem by30 : (∀ i, Try.prog.info? 30 = some i → i.bytes ≤ 256) = True := eq_true (small_of (by kernel_rfl))
theorem ni30 : notInt (Try.prog.underlying 30) = True := eq_true (notInt_of (by kernel_rfl))
theorem sz39 : szOf Try.prog 39 = 1 := by kernel_rfl
theorem cz39 : Try.prog.cellsOf 39 = 1 := by kernel_rfl
theorem ok39 : okT Try.prog 39 = true := by kernel_rfl
theorem ze39 : zeroOf Try.prog 39 = .sl 0 true [] := by kernel_rfl
theorem by39 : (∀ i, Try.prog.info? 39 = some i → i.bytes ≤ 256) = True := eq_true (small_of (by kernel_rfl))
theorem ni39 : notInt (Try.prog.underlying 39) = True := eq_true (notInt_of (by kernel_rfl))
theorem sz53 : szOf Try.prog 53 = 1 := by kernel_rfl
theorem cz53 : Try.prog.cellsOf 53 = 1 := by kernel_rfl
theorem ok53 : okT Try.prog 53 = true := by kernel_rfl
theorem ze53 : zeroOf Try.prog 53 = .imm (.int .u32 0) := by kernel_rfl
theorem by53 : (∀ i, Try.prog.info? 53 = some i → i.bytes ≤ 256) = True := eq_true (small_of (by kernel_rfl))
theorem sz54 : szOf Try.prog 54 = 4 := by kernel_rfl
theorem cz54 : Try.prog.cellsOf 54 = 4 := by kernel_rfl
theorem ok54 : okT Try.prog 54 = true := by kernel_rfl
theorem ze54 : zeroOf Try.prog 54 = .agg [.imm (.int .u32 0), .imm (.int .u32 0), .imm (.int .u32 0), .imm (.int .u32 0)] := by kernel_rfl
theorem by54 : (∀ i, Try.prog.info? 54 = some i → i.bytes ≤ 256) = True := eq_true (small_of (by kernel_rfl))
theorem eg54 : Try.prog.eqGuardType Try.prog.depth 54 = false := by kernel_rfl
theorem sh54 : Try.prog.stoodInHeld 54 = false := by kernel_rfl
theorem ni54 : notInt (Try.prog.underlying 54) = True := eq_true (notInt_of (by kernel_rfl))
theorem sz55 : szOf Try.prog 55 = 1 := by kernel_rfl
theorem cz55 : Try.prog.cellsOf 55 = 1 := by kernel_rfl
theorem ok55 : okT Try.prog 55 = true := by kernel_rfl
theorem ze55 : zeroOf Try.prog 55 = .imm (.int .u64 0) := by kernel_rfl
theorem by55 : (∀ i, Try.prog.info? 55 = some i → i.bytes ≤ 256) = True := eq_true (small_of (by kernel_rfl))
theorem sz56 : szOf Try.prog 56 = 5 := by kernel_rfl
theorem cz56 : Try.prog.cellsOf 56 = 5 := by kernel_rfl
theorem ok56 : okT Try.prog 56 = true := by kernel_rfl
theorem ze56 : zeroOf Try.prog 56 = .agg [.imm (.int .u32 0), .imm (.int .u32 0), .imm (.int .u32 0), .imm (.int .u32 0), .imm (.int .u64 0)] := by kernel_rfl
theorem by56 : (∀ i, Try.prog.info? 56 = some i → i.bytes ≤ 256) = True := eq_true (small_of (by kernel_rfl))
theorem eg56 : Try.prog.eqGuardType Try.prog.depth 56 = false := by kernel_rfl
theorem sh56 : Try.prog.stoodInHeld 56 = false := by kernel_rfl
theorem ni56 : notInt (Try.prog.underlying 56) = True := eq_true (notInt_of (by kernel_rfl))
theorem sz57 : szOf Try.prog 57 = 5 := by kernel_rfl
theorem cz57 : Try.prog.cellsOf 57 = 5 := by kernel_rfl
theorem ok57 : okT Try.prog 57 = true := by kernel_rfl
theorem ze57 : zeroOf Try.prog 57 = .agg [.imm (.int .u32 0), .imm (.int .u32 0), .imm (.int .u32 0), .imm (.int .u32 0), .imm (.int .u64 0)] := by kernel_rfl
theorem by57 : (∀ i, Try.prog.info? 57 = some i → i.bytes ≤ 256) = True := eq_true (small_of (by kernel_rfl))
theorem eg57 : Try.prog.eqGuardType Try.prog.depth 57 = false := by kernel_rfl
theorem sh57 : Try.prog.stoodInHeld 57 = false := by kernel_rfl
theorem ni57 : notInt (Try.prog.underlying 57) = True := eq_true (notInt_of (by kernel_rfl))
theorem sz58 : szOf Try.prog 58 = 64 := by kernel_rfl
theorem cz58 : Try.prog.cellsOf 58 = 64 := by kernel_rfl
theorem ok58 : okT Try.prog 58 = true := by kernel_rfl
theorem ze58 : zeroOf Try.prog 58 = .agg [.imm (.int .u8 0), .imm (.int .u8 0), .imm (.int .u8 0), .imm (.int .u8 0), .imm (.int .u8 0), .imm (.int .u8 0), .imm (.int .u8 0), .imm (.int .u8 0), .imm (.int .u8 0), .imm (.int .u8 0), .imm (.int .u8 0), .imm (.int .u8 0), .imm (.int .u8 0), .imm (.int .u8 0), .imm (.int .u8 0), .imm (.int .u8 0), .imm (.int .u8 0), .imm (.int .u8 0), .imm (.int .u8 0), .imm (.int .u8 0), .imm (.int .u8 0), .imm (.int .u8 0), .imm (.int .u8 0), .imm (.int .u8 0), .imm (.int .u8 0), .imm (.int .u8 0), .imm (.int .u8 0), .imm (.int .u8 0), .imm (.int .u8 0), .imm (.int .u8 0), .imm (.int .u8 0), .imm (.int .u8 0), .imm (.int .u8 0), .imm (.int .u8 0), .imm (.int .u8 0), .imm (.int .u8 0), .imm (.int .u8 0), .imm (.int .u8 0), .imm (.int .u8 0), .imm (.int .u8 0), .imm (.int .u8 0), .imm (.int .u8 0), .imm (.int .u8 0), .imm (.int .u8 0), .imm (.int .u8 0), .imm (.int .u8 0), .imm (.int .u8 0), .imm (.int .u8 0), .imm (.int .u8 0), .imm (.int .u8 0), .imm (.int .u8 0), .imm (.int .u8 0), .imm (.int .u8 0), .imm (.int .u8 0), .imm (.int .u8 0), .imm (.int .u8 0), .imm (.int .u8 0), .imm (.int .u8 0), .imm (.int .u8 0), .imm (.int .u8 0), .imm (.int .u8 0), .imm (.int .u8 0), .imm (.int .u8 0), .imm (.int .u8 0)] := by kernel_rfl
theorem by58 : (∀ i, Try.prog.info? 58 = some i → i.bytes ≤ 256) = True := eq_true (small_of (by kernel_rfl))
theorem eg58 : Try.prog.eqGuardType Try.prog.depth 58 = false := by kernel_rfl
theorem sh58 : Try.prog.stoodInHeld 58 = false := by kernel_rfl
theorem ni58 : notInt (Try.prog.underlying 58) = True := eq_true (notInt_of (by kernel_rfl))
theorem sz59 : szOf Try.prog 59 = 5 := by kernel_rfl
theorem cz59 : Try.prog.cellsOf 59 = 5 := by kernel_rfl
theorem ok59 : okT Try.prog 59 = true := by kernel_rfl
theorem ze59 : zeroOf Try.prog 59 = .agg [.imm (.int .u32 0), .imm (.int .u32 0), .imm (.int .u32 0), .imm (.int .u32 0), .imm (.int .u64 0)] := by kernel_rfl
theorem by59 : (∀ i, Try.prog.info? 59 = some i → i.bytes ≤ 256) = True := eq_true (small_of (by kernel_rfl))
theorem eg59 : Try.prog.eqGuardType Try.prog.depth 59 = false := by kernel_rfl
theorem sh59 : Try.prog.stoodInHeld 59 = false := by kernel_rfl
theorem ni59 : notInt (Try.prog.underlying 59) = True := eq_true (notInt_of (by kernel_rfl))
theorem sz62 : szOf Try.prog 62 = 16 := by kernel_rfl
theorem cz62 : Try.prog.cellsOf 62 = 16 := by kernel_rfl
theorem ok62 : okT Try.prog 62 = true := by kernel_rfl
theorem ze62 : zeroOf Try.prog 62 = .agg [.imm (.int .u8 0), .imm (.int .u8 0), .imm (.int .u8 0), .imm (.int .u8 0), .imm (.int .u8 0), .imm (.int .u8 0), .imm (.int .u8 0), .imm (.int .u8 0), .imm (.int .u8 0), .imm (.int .u8 0), .imm (.int .u8 0), .imm (.int .u8 0), .imm (.int .u8 0), .imm (.int .u8 0), .imm (.int .u8 0), .imm (.int .u8 0)] := by kernel_rfl
theorem by62 : (∀ i, Try.prog.info? 62 = some i → i.bytes ≤ 256) = True := eq_true (small_of (by kernel_rfl))
theorem eg62 : Try.prog.eqGuardType Try.prog.depth 62 = false := by kernel_rfl
theorem sh62 : Try.prog.stoodInHeld 62 = false := by kernel_rfl
theorem ni62 : notInt (Try.prog.underlying 62) = True := eq_true (notInt_of (by kernel_rfl))
theorem sz77 : szOf Try.prog 77 = 1 := by kernel_rfl
theorem cz77 : Try.prog.cellsOf 77 = 1 := by kernel_rfl
theorem ok77 : okT Try.prog 77 = true := by kernel_rfl
theorem ze77 : zeroOf Try.prog 77 = .imm (.int .u64 0) := by kernel_rfl
theorem by77 : (∀ i, Try.prog.info? 77 = some i → i.bytes ≤ 256) = True := eq_true (small_of (by kernel_rfl))
theorem sz79 : szOf Try.prog 79 = 16 := by kernel_rfl
theorem cz79 : Try.prog.cellsOf 79 = 16 := by kernel_rfl
theorem ok79 : okT Try.prog 79 = true := by kernel_rfl
theorem ze79 : zeroOf Try.prog 79 = .agg [.imm (.int .u32 0), .imm (.int .u32 0), .imm (.int .u32 0), .imm (.int .u32 0), .imm (.int .u32 0), .imm (.int .u32 0), .imm (.int .u32 0), .imm (.int .u32 0), .imm (.int .u32 0), .imm (.int .u32 0), .imm (.int .u32 0), .imm (.int .u32 0), .imm (.int .u32 0), .imm (.int .u32 0), .imm (.int .u32 0), .imm (.int .u32 0)] := by kernel_rfl
theorem by79 : (∀ i, Try.prog.info? 79 = some i → i.bytes ≤ 256) = True := eq_true (small_of (by kernel_rfl))
theorem eg79 : Try.prog.eqGuardType Try.prog.depth 79 = false := by kernel_rfl
theorem sh79 : Try.prog.stoodInHeld 79 = false := by kernel_rfl
theorem ni79 : notInt (Try.prog.underlying 79) = True := eq_true (notInt_of (by kernel_rfl))
theorem sz81 : szOf Try.prog 81 = 64 := by kernel_rfl
theorem cz81 : Try.prog.cellsOf 81 = 64 := by kernel_rfl
theorem ok81 : okT Try.prog 81 = true := by kernel_rfl
theorem ze81 : zeroOf Try.prog 81 = .agg [.imm (.int .u32 0), .imm (.int .u32 0), .imm (.int .u32 0), .imm (.int .u32 0), .imm (.int .u32 0), .imm (.int .u32 0), .imm (.int .u32 0), .imm (.int .u32 0), .imm (.int .u32 0), .imm (.int .u32 0), .imm (.int .u32 0), .imm (.int .u32 0), .imm (.int .u32 0), .imm (.int .u32 0), .imm (.int .u32 0), .imm (.int .u32 0), .imm (.int .u32 0), .imm (.int .u32 0), .imm (.int .u32 0), .imm (.int .u32 0), .imm (.int .u32 0), .imm (.int .u32 0), .imm (.int .u32 0), .imm (.int .u32 0), .imm (.int .u32 0), .imm (.int .u32 0), .imm (.int .u32 0), .imm (.int .u32 0), .imm (.int .u32 0), .imm (.int .u32 0), .imm (.int .u32 0), .imm (.int .u32 0), .imm (.int .u32 0), .imm (.int .u32 0), .imm (.int .u32 0), .imm (.int .u32 0), .imm (.int .u32 0), .imm (.int .u32 0), .imm (.int .u32 0), .imm (.int .u32 0), .imm (.int .u32 0), .imm (.int .u32 0), .imm (.int .u32 0), .imm (.int .u32 0), .imm (.int .u32 0), .imm (.int .u32 0), .imm (.int .u32 0), .imm (.int .u32 0), .imm (.int .u32 0), .imm (.int .u32 0), .imm (.int .u32 0), .imm (.int .u32 0), .imm (.int .u32 0), .imm (.int .u32 0), .imm (.int .u32 0), .imm (.int .u32 0), .imm (.int .u32 0), .imm (.int .u32 0), .imm (.int .u32 0), .imm (.int .u32 0), .imm (.int .u32 0), .imm (.int .u32 0), .imm (.int .u32 0), .imm (.int .u32 0)] := by kernel_rfl
theorem by81 : (∀ i, Try.prog.info? 81 = some i → i.bytes ≤ 256) = True := eq_true (small_of (by kernel_rfl))
theorem eg81 : Try.prog.eqGuardType Try.prog.depth 81 = false := by kernel_rfl
theorem sh81 : Try.prog.stoodInHeld 81 = false := by kernel_rfl
theorem ni81 : notInt (Try.prog.underlying 81) = True := eq_true (notInt_of (by kernel_rfl))
theorem sz83 : szOf Try.prog 83 = 4 := by kernel_rfl
theorem cz83 : Try.prog.cellsOf 83 = 4 := by kernel_rfl
theorem ok83 : okT Try.prog 83 = true := by kernel_rfl
theorem ze83 : zeroOf Try.prog 83 = .agg [.imm (.int .i64 0), .imm (.int .i64 0), .imm (.int .i64 0), .imm (.int .i64 0)] := by kernel_rfl
theorem by83 : (∀ i, Try.prog.info? 83 = some i → i.bytes ≤ 256) = True := eq_true (small_of (by kernel_rfl))
theorem eg83 : Try.prog.eqGuardType Try.prog.depth 83 = false := by kernel_rfl
theorem sh83 : Try.prog.stoodInHeld 83 = false := by kernel_rfl
theorem ni83 : notInt (Try.prog.underlying 83) = True := eq_true (notInt_of (by kernel_rfl))
theorem sz84 : szOf Try.prog 84 = 16 := by kernel_rfl
theorem cz84 : Try.prog.cellsOf 84 = 16 := by kernel_rfl
theorem ok84 : okT Try.prog 84 = true := by kernel_rfl
theorem ze84 : zeroOf Try.prog 84 = .agg [.imm (.int .i64 0), .imm (.int .i64 0), .imm (.int .i64 0), .imm (.int .i64 0), .imm (.int .i64 0), .imm (.int .i64 0), .imm (.int .i64 0), .imm (.int .i64 0), .imm (.int .i64 0), .imm (.int .i64 0), .imm (.int .i64 0), .imm (.int .i64 0), .imm (.int .i64 0), .imm (.int .i64 0), .imm (.int .i64 0), .imm (.int .i64 0)] := by kernel_rfl
theorem by84 : (∀ i, Try.prog.info? 84 = some i → i.bytes ≤ 256) = True := eq_true (small_of (by kernel_rfl))
theorem eg84 : Try.prog.eqGuardType Try.prog.depth 84 = false := by kernel_rfl
theorem sh84 : Try.prog.stoodInHeld 84 = false := by kernel_rfl
theorem ni84 : notInt (Try.prog.underlying 84) = True := eq_true (notInt_of (by kernel_rfl))
theorem sz89 : szOf Try.prog 89 = 1 := by kernel_rfl
theorem cz89 : Try.prog.cellsOf 89 = 1 := by kernel_rfl
theorem ok89 : okT Try.prog 89 = true := by kernel_rfl
theorem ze89 : zeroOf Try.prog 89 = .sl 0 true [] := by kernel_rfl
theorem by89 : (∀ i, Try.prog.info? 89 = some i → i.bytes ≤ 256) = True := eq_true (small_of (by kernel_rfl))
theorem ni89 : notInt (Try.prog.underlying 89) = True := eq_true (notInt_of (by kernel_rfl))
theorem sz92 : szOf Try.prog 92 = 3 := by kernel_rfl
theorem cz92 : Try.prog.cellsOf 92 = 3 := by kernel_rfl
theorem ok92 : okT Try.prog 92 = true := by kernel_rfl
theorem ze92 : zeroOf Try.prog 92 = .agg [.imm (.int .i32 0), .imm (.int .i32 0), .imm (.int .i32 0)] := by kernel_rfl
theorem by92 : (∀ i, Try.prog.info? 92 = some i → i.bytes ≤ 256) = True := eq_true (small_of (by kernel_rfl))
theorem eg92 : Try.prog.eqGuardType Try.prog.depth 92 = false := by kernel_rfl
theorem sh92 : Try.prog.stoodInHeld 92 = false := by kernel_rfl
theorem ni92 : notInt (Try.prog.underlying 92) = True := eq_true (notInt_of (by kernel_rfl))
theorem sz94 : szOf Try.prog 94 = 4 := by kernel_rfl
theorem cz94 : Try.prog.cellsOf 94 = 4 := by kernel_rfl
theorem ok94 : okT Try.prog 94 = true := by kernel_rfl
theorem ze94 : zeroOf Try.prog 94 = .agg [.imm (.pointer none), .imm (.pointer none), .imm (.pointer none), .imm (.string ByteArray.empty)] := by kernel_rfl
theorem by94 : (∀ i, Try.prog.info? 94 = some i → i.bytes ≤ 256) = True := eq_true (small_of (by kernel_rfl))
theorem ni94 : notInt (Try.prog.underlying 94) = True := eq_true (notInt_of (by kernel_rfl))
theorem sz95 : szOf Try.prog 95 = 4 := by kernel_rfl
theorem cz95 : Try.prog.cellsOf 95 = 4 := by kernel_rfl
theorem ok95 : okT Try.prog 95 = true := by kernel_rfl
theorem ze95 : zeroOf Try.prog 95 = .agg [.imm (.pointer none), .imm (.pointer none), .imm (.pointer none), .imm (.string ByteArray.empty)] := by kernel_rfl
theorem by95 : (∀ i, Try.prog.info? 95 = some i → i.bytes ≤ 256) = True := eq_true (small_of (by kernel_rfl))
theorem ni95 : notInt (Try.prog.underlying 95) = True := eq_true (notInt_of (by kernel_rfl))
theorem sz96 : szOf Try.prog 96 = 0 := by kernel_rfl
theorem cz96 : Try.prog.cellsOf 96 = 0 := by kernel_rfl
theorem ok96 : okT Try.prog 96 = true := by kernel_rfl
theorem ze96 : zeroOf Try.prog 96 = .agg [] := by kernel_rfl
theorem by96 : (∀ i, Try.prog.info? 96 = some i → i.bytes ≤ 256) = True := eq_true (small_of (by kernel_rfl))
theorem ni96 : notInt (Try.prog.underlying 96) = True := eq_true (notInt_of (by kernel_rfl))
theorem sz97 : szOf Try.prog 97 = 0 := by kernel_rfl
theorem cz97 : Try.prog.cellsOf 97 = 0 := by kernel_rfl
theorem ok97 : okT Try.prog 97 = true := by kernel_rfl
theorem ze97 : zeroOf Try.prog 97 = .agg [] := by kernel_rfl
theorem by97 : (∀ i, Try.prog.info? 97 = some i → i.bytes ≤ 256) = True := eq_true (small_of (by kernel_rfl))
theorem ni97 : notInt (Try.prog.underlying 97) = True := eq_true (notInt_of (by kernel_rfl))
theorem sz98 : szOf Try.prog 98 = 0 := by kernel_rfl
theorem cz98 : Try.prog.cellsOf 98 = 0 := by kernel_rfl
theorem ok98 : okT Try.prog 98 = true := by kernel_rfl
theorem ze98 : zeroOf Try.prog 98 = .agg [] := by kernel_rfl
theorem by98 : (∀ i, Try.prog.info? 98 = some i → i.bytes ≤ 256) = True := eq_true (small_of (by kernel_rfl))
theorem ni98 : notInt (Try.prog.underlying 98) = True := eq_true (notInt_of (by kernel_rfl))
theorem sz100 : szOf Try.prog 100 = 1 := by kernel_rfl
theorem cz100 : Try.prog.cellsOf 100 = 1 := by kernel_rfl
theorem ok100 : okT Try.prog 100 = true := by kernel_rfl
theorem ze100 : zeroOf Try.prog 100 = .imm (.int .u8 0) := by kernel_rfl
theorem by100 : (∀ i, Try.prog.info? 100 = some i → i.bytes ≤ 256) = True := eq_true (small_of (by kernel_rfl))
theorem sz101 : szOf Try.prog 101 = 1 := by kernel_rfl
theorem cz101 : Try.prog.cellsOf 101 = 1 := by kernel_rfl
theorem ok101 : okT Try.prog 101 = true := by kernel_rfl
theorem ze101 : zeroOf Try.prog 101 = .imm (.int .u8 0) := by kernel_rfl
theorem by101 : (∀ i, Try.prog.info? 101 = some i → i.bytes ≤ 256) = True := eq_true (small_of (by kernel_rfl))
theorem sz103 : szOf Try.prog 103 = 1 := by kernel_rfl
theorem cz103 : Try.prog.cellsOf 103 = 1 := by kernel_rfl
theorem ok103 : okT Try.prog 103 = true := by kernel_rfl
theorem ze103 : zeroOf Try.prog 103 = .imm (.pointer none) := by kernel_rfl
theorem by103 : (∀ i, Try.prog.info? 103 = some i → i.bytes ≤ 256) = True := eq_true (small_of (by kernel_rfl))
theorem ni103 : notInt (Try.prog.underlying 103) = True := eq_true (notInt_of (by kernel_rfl))
theorem sz104 : szOf Try.prog 104 = 1 := by kernel_rfl
theorem cz104 : Try.prog.cellsOf 104 = 1 := by kernel_rfl
theorem ok104 : okT Try.prog 104 = true := by kernel_rfl
theorem ze104 : zeroOf Try.prog 104 = .imm (.int .i32 0) := by kernel_rfl
theorem by104 : (∀ i, Try.prog.info? 104 = some i → i.bytes ≤ 256) = True := eq_true (small_of (by kernel_rfl))
theorem sz105 : szOf Try.prog 105 = 1 := by kernel_rfl
theorem cz105 : Try.prog.cellsOf 105 = 1 := by kernel_rfl
theorem ok105 : okT Try.prog 105 = true := by kernel_rfl
theorem ze105 : zeroOf Try.prog 105 = .imm (.int .i32 0) := by kernel_rfl
theorem by105 : (∀ i, Try.prog.info? 105 = some i → i.bytes ≤ 256) = True := eq_true (small_of (by kernel_rfl))
theorem sz106 : szOf Try.prog 106 = 11 := by kernel_rfl
theorem cz106 : Try.prog.cellsOf 106 = 11 := by kernel_rfl
theorem ok106 : okT Try.prog 106 = true := by kernel_rfl
theorem ze106 : zeroOf Try.prog 106 = .agg [.imm (.int .u64 0), .imm (.int .u64 0), .imm (.int .u32 0), .imm (.int .u8 0), .imm (.int .u8 0), .imm (.int .u8 0), .imm (.int .u8 0), .imm .nilFunc, .imm (.pointer none), .imm (.int .i32 0), .imm (.int .i32 0)] := by kernel_rfl
theorem by106 : (∀ i, Try.prog.info? 106 = some i → i.bytes ≤ 256) = True := eq_true (small_of (by kernel_rfl))
theorem ni106 : notInt (Try.prog.underlying 106) = True := eq_true (notInt_of (by kernel_rfl))
theorem sz107 : szOf Try.prog 107 = 11 := by kernel_rfl
theorem cz107 : Try.prog.cellsOf 107 = 11 := by kernel_rfl
theorem ok107 : okT Try.prog 107 = true := by kernel_rfl
theorem ze107 : zeroOf Try.prog 107 = .agg [.imm (.int .u64 0), .imm (.int .u64 0), .imm (.int .u32 0), .imm (.int .u8 0), .imm (.int .u8 0), .imm (.int .u8 0), .imm (.int .u8 0), .imm .nilFunc, .imm (.pointer none), .imm (.int .i32 0), .imm (.int .i32 0)] := by kernel_rfl
theorem by107 : (∀ i, Try.prog.info? 107 = some i → i.bytes ≤ 256) = True := eq_true (small_of (by kernel_rfl))
theorem ni107 : notInt (Try.prog.underlying 107) = True := eq_true (notInt_of (by kernel_rfl))
theorem sz108 : szOf Try.prog 108 = 1 := by kernel_rfl
theorem cz108 : Try.prog.cellsOf 108 = 1 := by kernel_rfl
theorem ok108 : okT Try.prog 108 = true := by kernel_rfl
theorem ze108 : zeroOf Try.prog 108 = .imm (.pointer none) := by kernel_rfl
theorem by108 : (∀ i, Try.prog.info? 108 = some i → i.bytes ≤ 256) = True := eq_true (small_of (by kernel_rfl))
theorem ni108 : notInt (Try.prog.underlying 108) = True := eq_true (notInt_of (by kernel_rfl))
theorem rs0 : Try.f0.results.toList = [] := by kernel_rfl
theorem rs1 : Try.f1.results.toList = [] := by kernel_rfl
theorem rs2 : Try.f2.results.toList = [] := by kernel_rfl
theorem rs3 : Try.f3.results.toList = [.tmp 2] := by kernel_rfl
theorem rs4 : Try.f4.results.toList = [.tmp 4] := by kernel_rfl
theorem rs5 : Try.f5.results.toList = [.tmp 4] := by kernel_rfl
theorem rs6 : Try.f6.results.toList = [.tmp 6] := by kernel_rfl
theorem rs7 : Try.f7.results.toList = [.tmp 4] := by kernel_rfl
theorem rs8 : Try.f8.results.toList = [.tmp 4] := by kernel_rfl
theorem rs9 : Try.f9.results.toList = [.tmp 6] := by kernel_rfl
theorem rs10 : Try.f10.results.toList = [.tmp 4] := by kernel_rfl
theorem rs11 : Try.f11.results.toList = [.tmp 2] := by kernel_rfl
theorem rs12 : Try.f12.results.toList = [.tmp 2] := by kernel_rfl
theorem rs13 : Try.f13.results.toList = [.tmp 2] := by kernel_rfl
theorem rs14 : Try.f14.results.toList = [.tmp 2] := by kernel_rfl
theorem rs15 : Try.f15.results.toList = [.tmp 2] := by kernel_rfl
theorem rs16 : Try.f16.results.toList = [.tmp 2] := by kernel_rfl
theorem rs17 : Try.f17.results.toList = [.cell 4 30, .tmp 5] := by kernel_rfl
theorem rs18 : Try.f18.results.toList = [.cell 4 27, .tmp 5] := by kernel_rfl
theorem rs19 : Try.f19.results.toList = [.tmp 4, .tmp 5] := by kernel_rfl
theorem rs20 : Try.f20.results.toList = [.tmp 4] := by kernel_rfl
theorem rs21 : Try.f21.results.toList = [.tmp 4] := by kernel_rfl
theorem rs22 : Try.f22.results.toList = [.tmp 4] := by kernel_rfl
theorem rs23 : Try.f23.results.toList = [.tmp 2, .tmp 3] := by kernel_rfl
theorem rs24 : Try.f24.results.toList = [.tmp 2, .tmp 3] := by kernel_rfl
theorem rs25 : Try.f25.results.toList = [.tmp 2] := by kernel_rfl
theorem rs26 : Try.f26.results.toList = [.tmp 2] := by kernel_rfl
theorem rs27 : Try.f27.results.toList = [.tmp 2] := by kernel_rfl
theorem rs28 : Try.f28.results.toList = [.tmp 2, .tmp 3] := by kernel_rfl
theorem rs29 : Try.f29.results.toList = [.tmp 2, .tmp 3] := by kernel_rfl
theorem rs30 : Try.f30.results.toList = [.tmp 2] := by kernel_rfl
theorem rs31 : Try.f31.results.toList = [.tmp 2] := by kernel_rfl
theorem rs32 : Try.f32.results.toList = [.tmp 2] := by kernel_rfl
theorem rs33 : Try.f33.results.toList = [.tmp 2, .tmp 3] := by kernel_rfl
theorem rs34 : Try.f34.results.toList = [.cell 4 57] := by kernel_rfl
theorem rs35 : Try.f35.results.toList = [.cell 4 59] := by kernel_rfl
theorem rs36 : Try.f36.results.toList = [.cell 4 62] := by kernel_rfl
theorem rs37 : Try.f37.results.toList = [.cell 4 62] := by kernel_rfl
theorem rs38 : Try.f38.results.toList = [.cell 0 57] := by kernel_rfl
theorem rs39 : Try.f39.results.toList = [.cell 0 59] := by kernel_rfl
theorem rs40 : Try.f40.results.toList = [.cell 2 62] := by kernel_rfl
theorem rs41 : Try.f41.results.toList = [.cell 2 62] := by kernel_rfl
theorem rs42 : Try.f42.results.toList = [.tmp 2] := by kernel_rfl
theorem rs43 : Try.f43.results.toList = [.tmp 2] := by kernel_rfl
theorem rs44 : Try.f44.results.toList = [.tmp 2, .tmp 3] := by kernel_rfl
theorem rs45 : Try.f45.results.toList = [.tmp 2] := by kernel_rfl
theorem rs46 : Try.f46.results.toList = [.tmp 2] := by kernel_rfl
theorem rs47 : Try.f47.results.toList = [.tmp 2] := by kernel_rfl
theorem rs48 : Try.f48.results.toList = [.tmp 2] := by kernel_rfl
theorem rs49 : Try.f49.results.toList = [.tmp 2] := by kernel_rfl
theorem rs50 : Try.f50.results.toList = [.tmp 5] := by kernel_rfl
theorem rs51 : Try.f51.results.toList = [.tmp 2] := by kernel_rfl
theorem rs52 : Try.f52.results.toList = [.tmp 2] := by kernel_rfl
theorem rs53 : Try.f53.results.toList = [.tmp 2] := by kernel_rfl
theorem rs54 : Try.f54.results.toList = [.tmp 2] := by kernel_rfl
theorem rs55 : Try.f55.results.toList = [.tmp 2] := by kernel_rfl
theorem rs56 : Try.f56.results.toList = [.tmp 2, .tmp 3] := by kernel_rfl
theorem rs57 : Try.f57.results.toList = [.tmp 2] := by kernel_rfl
theorem rs58 : Try.f58.results.toList = [.tmp 2] := by kernel_rfl
theorem rs59 : Try.f59.results.toList = [.cell 2 79] := by kernel_rfl
theorem rs60 : Try.f60.results.toList = [.cell 0 81] := by kernel_rfl
theorem rs61 : Try.f61.results.toList = [.cell 0 84] := by kernel_rfl
theorem rs62 : Try.f62.results.toList = [.tmp 8, .tmp 9] := by kernel_rfl
theorem rs63 : Try.f63.results.toList = [.tmp 4] := by kernel_rfl
theorem rs64 : Try.f64.results.toList = [.cell 0 81] := by kernel_rfl
theorem rs65 : Try.f65.results.toList = [.tmp 2] := by kernel_rfl
theorem rs66 : Try.f66.results.toList = [.tmp 4] := by kernel_rfl
theorem rs67 : Try.f67.results.toList = [] := by kernel_rfl
theorem rs68 : Try.f68.results.toList = [] := by kernel_rfl
theorem rs69 : Try.f69.results.toList = [] := by kernel_rfl
theorem rs70 : Try.f70.results.toList = [] := by kernel_rfl
theorem rs71 : Try.f71.results.toList = [] := by kernel_rfl
theorem rs72 : Try.f72.results.toList = [] := by kernel_rfl
theorem rs73 : Try.f73.results.toList = [] := by kernel_rfl
theorem rs74 : Try.f74.results.toList = [] := by kernel_rfl
theorem rs75 : Try.f75.results.toList = [] := by kernel_rfl
theorem rs76 : Try.f76.results.toList = [] := by kernel_rfl
theorem rs77 : Try.f77.results.toList = [] := by kernel_rfl
theorem rs78 : Try.f78.results.toList = [] := by kernel_rfl
theorem rs79 : Try.f79.results.toList = [] := by kernel_rfl
theorem rs80 : Try.f80.results.toList = [] := by kernel_rfl
theorem rs81 : Try.f81.results.toList = [] := by kernel_rfl
theorem rs82 : Try.f82.results.toList = [] := by kernel_rfl
end Go.Proofs.YtcnkndmegnfofaaX

/- The laws that a run goes by. -/
namespace Go.Proofs.YtcnkndmegnfofaaX
open Go Go.RowKit Go.Proofs
attribute [go_sem ↓] stepsK_call drawK_call opW binXW eqW eqFs eqEs binV intW strW fieldW indexW extractW unW loadW loadP fieldAddrW indexAddrW endsW sliceW buildSliceW makeW convertW storeW newsW appendW elemsW nilW lenW min2W max2W builtinW ifaceW partW boolW_true boolW_false getD_j16 set_j16 rootsP
attribute [go_sem] endK_q endK_seq endK_seq_exit endK_seq_ret endK_blk endK_blk_ret endK_blk_exit roundsK_succ endK_lp endK_lp_exit endK_lp_ret runK_skip runK_exit runK_ret runK_seq runK_block runK_region runK_draw stepsK_nil callK callE stepsK_cons drawK_nil drawK_cons rootsK_nil rootsK_cons loopQ_normal loopQ_exit loopQ_ret loopC_normal loopC_exit loopC_ret loopK_normal loopK_exit loopK_ret St.keep keepL St.gc gcW deadK reachL refsT refsL refsO dropL Int.toNat_natCast St.cut List.range'_zero List.range'_succ lookS_at liteL dstsL gL St.is evalT ofVal ofVals St.after St.put St.upd
attribute [go_sem] St.eff quietE eOp effB trims trim setCells fillT fillE patchT isJunk leafT T.cells oneT RetQ resW retT St.lockAll Own.lockAll dsnap dsnapL snap closedT closedL rootsOf rootsO rootsA rootOf St.frzT St.frzL St.frz kill killL Own.kill aggD List.getD_cons_zero List.getD_cons_succ List.getD_nil List.set_cons_zero List.set_cons_succ List.set_nil List.flatMap_cons List.flatMap_nil List.append_nil List.nil_append List.cons_append List.map_cons List.map_nil List.filterMap_cons List.filterMap_nil List.find?_cons List.find?_nil List.getElem?_cons_zero List.getElem?_cons_succ List.getElem?_nil List.length_cons List.length_nil List.replicate List.contains_cons List.contains_nil
attribute [go_sem] List.take_zero List.drop_zero List.take_succ_cons List.drop_succ_cons List.all_cons List.all_nil List.size_toArray List.getElem?_toArray Array.toList_map List.map_toArray Option.some_beq_some Option.none_beq_some Option.some_beq_none Option.map_some Option.map_none Option.bind_some Option.bind_none Option.some.injEq ne_eq not_false_eq_true not_true_eq_false true_and and_true and_false false_and Bool.false_eq_true Bool.true_eq_false forall_const false_imp_iff true_imp_iff imp_self beq_self_eq_true or_true true_or or_false false_or if_true if_false ite_true ite_false Bool.or_true Bool.true_or Bool.and_true Bool.true_and Bool.false_or Bool.or_false Bool.false_and Bool.and_false Bool.not_true Bool.not_false decide_true decide_false Nat.lt_irrefl Nat.le_refl Nat.zero_add Nat.add_zero Nat.zero_mul Nat.mul_one Nat.mul_zero Nat.zero_le
attribute [go_sem] gt_iff_lt ge_iff_le Int.cast_ofNat_Int Option.isNone_some Option.isNone_none Option.isSome_some Option.isSome_none Nat.zero_max Nat.max_zero Nat.max_self List.take_length List.length_append List.length_map
attribute [go_sem] rs0 rs1 rs2 rs3 rs4 rs5 rs6 rs7 rs8 rs9 rs10 rs11 rs12 rs13 rs14 rs15 rs16 rs17 rs18 rs19 rs20 rs21 rs22 rs23 rs24 rs25 rs26 rs27 rs28 rs29 rs30 rs31 rs32 rs33 rs34 rs35 rs36 rs37 rs38 rs39 rs40 rs41 rs42 rs43 rs44 rs45 rs46 rs47 rs48 rs49 rs50 rs51 rs52 rs53 rs54 rs55 rs56 rs57 rs58 rs59
attribute [go_sem] rs60 rs61 rs62 rs63 rs64 rs65 rs66 rs67 rs68 rs69 rs70 rs71 rs72 rs73 rs74 rs75 rs76 rs77 rs78 rs79 rs80 rs81 rs82 Try.underlying0 Try.underlying1 Try.underlying2 sz2 cz2 ok2 ze2 by2 Try.underlying3 sz3 cz3 ok3 ze3 by3 Try.underlying4 sz4 cz4 ok4 ze4 by4 ni4 Try.underlying5 sz5 cz5 ok5 ze5 by5 Try.underlying6 sz6 cz6 ok6 ze6 by6 Try.underlying7 sz7 cz7 ok7
attribute [go_sem] ze7 by7 ni7 Try.underlying8 sz8 cz8 ok8 ze8 by8 ni8 Try.underlying9 sz9 cz9 ok9 ze9 by9 ni9 Try.underlying10 sz10 cz10 ok10 ze10 by10 ni10 Try.underlying11 sz11 cz11 ok11 ze11 by11 ni11 Try.underlying12 sz12 cz12 ok12 ze12 by12 Try.underlying13 sz13 cz13 ok13 ze13 by13 ni13 Try.underlying14 sz14 cz14 ok14 ze14 by14 ni14 Try.underlying15 sz15 cz15 ok15 ze15 by15 ni15 Try.underlying16 sz16
attribute [go_sem] cz16 ok16 ze16 by16 ni16 Try.underlying17 sz17 cz17 ok17 ze17 by17 ni17 Try.underlying18 sz18 cz18 ok18 ze18 by18 ni18 Try.underlying19 sz19 cz19 ok19 ze19 by19 ni19 Try.underlying20 sz20 cz20 ok20 ze20 by20 ni20 Try.underlying21 sz21 cz21 ok21 ze21 by21 Try.underlying22 Try.underlying23 Try.underlying24 Try.underlying25 sz25 cz25 ok25 ze25 by25 ni25 Try.underlying26 sz26 cz26 ok26 ze26 by26 ni26 Try.underlying27 sz27 cz27 ok27
attribute [go_sem] ze27 by27 ni27 Try.underlying28 sz28 cz28 ok28 ze28 by28 ni28 Try.underlying29 sz29 cz29 ok29 ze29 by29 ni29 Try.underlying30 sz30 cz30 ok30 ze30 by30 ni30 Try.underlying31 Try.underlying32 Try.underlying33 Try.underlying34 Try.underlying35 Try.underlying36 Try.underlying37 Try.underlying38 Try.underlying39 sz39 cz39 ok39 ze39 by39 ni39 Try.underlying40 Try.underlying41 Try.underlying42 Try.underlying43 Try.underlying44 Try.underlying45 Try.underlying46 Try.underlying47 Try.underlying48 Try.underlying49 Try.underlying50 Try.underlying51 Try.underlying52 Try.underlying53 sz53 cz53 ok53 ze53 by53 Try.underlying54 sz54
attribute [go_sem] cz54 ok54 ze54 by54 ni54 eg54 sh54 Try.underlying55 sz55 cz55 ok55 ze55 by55 Try.underlying56 sz56 cz56 ok56 ze56 by56 ni56 eg56 sh56 Try.underlying57 sz57 cz57 ok57 ze57 by57 ni57 eg57 sh57 Try.underlying58 sz58 cz58 ok58 ze58 by58 ni58 eg58 sh58 Try.underlying59 sz59 cz59 ok59 ze59 by59 ni59 eg59 sh59 Try.underlying60 Try.underlying61 Try.underlying62 sz62 cz62 ok62 ze62 by62 ni62 eg62 sh62
attribute [go_sem] Try.underlying63 Try.underlying64 Try.underlying65 Try.underlying66 Try.underlying67 Try.underlying68 Try.underlying69 Try.underlying70 Try.underlying71 Try.underlying72 Try.underlying73 Try.underlying74 Try.underlying75 Try.underlying76 Try.underlying77 sz77 cz77 ok77 ze77 by77 Try.underlying78 Try.underlying79 sz79 cz79 ok79 ze79 by79 ni79 eg79 sh79 Try.underlying80 Try.underlying81 sz81 cz81 ok81 ze81 by81 ni81 eg81 sh81 Try.underlying82 Try.underlying83 sz83 cz83 ok83 ze83 by83 ni83 eg83 sh83 Try.underlying84 sz84 cz84 ok84 ze84 by84 ni84 eg84 sh84 Try.underlying85
attribute [go_sem] Try.underlying86 Try.underlying87 Try.underlying88 Try.underlying89 sz89 cz89 ok89 ze89 by89 ni89 Try.underlying90 Try.underlying91 Try.underlying92 sz92 cz92 ok92 ze92 by92 ni92 eg92 sh92 Try.underlying93 Try.underlying94 sz94 cz94 ok94 ze94 by94 ni94 Try.underlying95 sz95 cz95 ok95 ze95 by95 ni95 Try.underlying96 sz96 cz96 ok96 ze96 by96 ni96 Try.underlying97 sz97 cz97 ok97 ze97 by97 ni97 Try.underlying98 sz98 cz98 ok98 ze98 by98 ni98 Try.underlying99 Try.underlying100 sz100
attribute [go_sem] cz100 ok100 ze100 by100 Try.underlying101 sz101 cz101 ok101 ze101 by101 Try.underlying102 Try.underlying103 sz103 cz103 ok103 ze103 by103 ni103 Try.underlying104 sz104 cz104 ok104 ze104 by104 Try.underlying105 sz105 cz105 ok105 ze105 by105 Try.underlying106 sz106 cz106 ok106 ze106 by106 ni106 Try.underlying107 sz107 cz107 ok107 ze107 by107 ni107 Try.underlying108 sz108 cz108 ok108 ze108 by108 ni108
end Go.Proofs.YtcnkndmegnfofaaX

/- Words for what functions answer. -/
set_option linter.unusedVariables false
namespace Go.Proofs.YtcnkndmegnfofaaX
open Go Go.RowKit Go.Proofs
abbrev i32 (n : Int) : T := .imm (.int .i32 n)
abbrev i64 (n : Int) : T := .imm (.int .i64 n)
abbrev u8 (n : Int) : T := .imm (.int .u8 n)
abbrev u32 (n : Int) : T := .imm (.int .u32 n)
abbrev u64 (n : Int) : T := .imm (.int .u64 n)
abbrev tb (b : Bool) : T := .imm (.bool b)
abbrev ts (s : ByteArray) : T := .imm (.string s)
theorem tb_eq {a b : Bool} (h : a = b) : T.imm (.bool a) = .imm (.bool b) := by rw [h]
theorem tb_iff {p : Prop} [Decidable p] {b : Bool} (h : b = true ↔ p) : T.imm (.bool b) = .imm (.bool (decide p)) := by
  refine tb_eq ?_
  cases b with
  | true => exact (decide_eq_true (h.1 rfl)).symm
  | false => exact (decide_eq_false fun hp => Bool.noConfusion (h.2 hp)).symm
theorem imm_eq {k : IntKind} {a b : Int} (h : a = b) : T.imm (.int k a) = .imm (.int k b) := by rw [h]
theorem str_eq {a b : ByteArray} (h : a = b) : T.imm (.string a) = .imm (.string b) := by rw [h]
theorem sl_eq {sz : Nat} {f : Bool} {a b : List T} (h : a = b) : T.sl sz f a = .sl sz f b := by rw [h]
theorem boolW_mk {b : Bool} {A B : Prop} (h1 : b = true → A) (h2 : b = false → B) : boolW b A B := ⟨h1, h2⟩
theorem boolD_mk {p : Prop} [Decidable p] {A B : Prop} (h1 : p → A) (h2 : ¬ p → B) : boolW (decide p) A B := ⟨fun h => h1 (of_decide_eq_true h), fun h => h2 (of_decide_eq_false h)⟩
theorem wf_of {k : IntKind} {n : Int} (h : (Lit.int k n).wf = true) : k.min ≤ n ∧ n ≤ k.max := by
  simpa [Lit.wf] using h
theorem wf_i32 {n : Int} (h : (Lit.int .i32 n).wf = true) : -2147483648 ≤ n ∧ n ≤ 2147483647 := wf_of h
theorem wf_i64 {n : Int} (h : (Lit.int .i64 n).wf = true) : -9223372036854775808 ≤ n ∧ n ≤ 9223372036854775807 := wf_of h
theorem wf_u8 {n : Int} (h : (Lit.int .u8 n).wf = true) : 0 ≤ n ∧ n ≤ 255 := wf_of h
theorem wf_u32 {n : Int} (h : (Lit.int .u32 n).wf = true) : 0 ≤ n ∧ n ≤ 4294967295 := wf_of h
theorem wf_u64 {n : Int} (h : (Lit.int .u64 n).wf = true) : 0 ≤ n ∧ n ≤ 18446744073709551615 := wf_of h
end Go.Proofs.YtcnkndmegnfofaaX

/- Bits of numbers that are not below zero. -/
set_option linter.unusedVariables false
namespace Go.Proofs.YtcnkndmegnfofaaX
open Go Go.RowKit Go.Proofs
theorem ofInt_nat (w : Nat) (n : Nat) (h : n < 2 ^ w) : (BitVec.ofInt w (n : Int)).toNat = n := by
  rw [BitVec.ofInt_natCast, BitVec.toNat_ofNat, Nat.mod_eq_of_lt h]
theorem or_low (i a b : Nat) (ha : a % 2 ^ i = 0) (hb : b < 2 ^ i) : a ||| b = a + b := by
  obtain ⟨q, rfl⟩ : ∃ q, a = 2 ^ i * q := ⟨a / 2 ^ i, by have := Nat.div_add_mod a (2 ^ i); omega⟩
  exact (Nat.two_pow_add_eq_or_of_lt hb q).symm
/-- Bits beside others are a sum. -/
theorem or_add (w i : Nat) (x y : Int) (hx : 0 ≤ x) (hxw : x < 2 ^ w) (hd : x % 2 ^ i = 0) (hy : 0 ≤ y) (hyi : y < 2 ^ i) (hiw : i ≤ w) : ((BitVec.ofInt w x ||| BitVec.ofInt w y).toNat : Int) = x + y := by
  obtain ⟨a, rfl⟩ := Int.eq_ofNat_of_zero_le hx
  obtain ⟨b, rfl⟩ := Int.eq_ofNat_of_zero_le hy
  have e : ((2 : Int) ^ i) = ((2 ^ i : Nat) : Int) := by simp
  have e' : ((2 : Int) ^ w) = ((2 ^ w : Nat) : Int) := by simp
  rw [e] at hd hyi
  rw [e'] at hxw
  have hle : 2 ^ i ≤ 2 ^ w := Nat.pow_le_pow_right (by omega) hiw
  rw [BitVec.toNat_or, ofInt_nat w a (by omega), ofInt_nat w b (by omega), or_low i a b (by omega) (by omega)]
  omega
theorem and_low (w i : Nat) (x : Int) (hx : 0 ≤ x) (hxw : x < 2 ^ w) (hiw : i ≤ w) (m : Int) (hm : m = 2 ^ i - 1) : ((BitVec.ofInt w x &&& BitVec.ofInt w m).toNat : Int) = x % 2 ^ i := by
  obtain ⟨a, rfl⟩ := Int.eq_ofNat_of_zero_le hx
  have e : ((2 : Int) ^ i) = ((2 ^ i : Nat) : Int) := by simp
  have e' : ((2 : Int) ^ w) = ((2 ^ w : Nat) : Int) := by simp
  rw [e'] at hxw
  have hle : 2 ^ i ≤ 2 ^ w := Nat.pow_le_pow_right (by omega) hiw
  have hp : 0 < 2 ^ i := Nat.two_pow_pos i
  have hm' : m = ((2 ^ i - 1 : Nat) : Int) := by omega
  subst hm'
  rw [BitVec.toNat_and, ofInt_nat w a (by omega), ofInt_nat w _ (by omega), Nat.and_two_pow_sub_one_eq_mod, e]
  omega
theorem bOr_add (k : IntKind) (i : Nat) (x y : Int) (hx : 0 ≤ x) (hxw : x < 2 ^ k.bits) (hd : x % 2 ^ i = 0) (hy : 0 ≤ y) (hyi : y < 2 ^ i) (hiw : i ≤ k.bits) : bOr k x y = x + y := or_add k.bits i x y hx hxw hd hy hyi hiw
theorem bAnd_low (k : IntKind) (i : Nat) (x : Int) (hx : 0 ≤ x) (hxw : x < 2 ^ k.bits) (hiw : i ≤ k.bits) (m : Int) (hm : m = 2 ^ i - 1) : bAnd k x m = x % 2 ^ i := and_low k.bits i x hx hxw hiw m hm
theorem bShr_div (k : IntKind) (x : Int) (n : Nat) (m : Int) (h : (2 : Int) ^ min n k.bits = m) (hm : 0 ≤ m) : bShr k x n = x / m := by unfold bShr; rw [h, Int.fdiv_eq_ediv_of_nonneg _ hm]
end Go.Proofs.YtcnkndmegnfofaaX

set_option linter.unusedVariables false
set_option linter.unusedSimpArgs false
namespace Go.Proofs.YtcnkndmegnfofaaX
open Go Go.RowKit Go.Proofs
set_option maxRecDepth 100000
inductive N26 where
  | mk (p0 : List UInt8) (p1 : List UInt8) (p2 : List (N26))
def N26.p0 : N26 → List UInt8
  | .mk y0 _ _ => y0
def N26.p1 : N26 → List UInt8
  | .mk _ y1 _ => y1
def N26.p2 : N26 → List (N26)
  | .mk _ _ y2 => y2
theorem N26.p0_mk (y0 : List UInt8) (y1 : List UInt8) (y2 : List (N26)) : (N26.mk y0 y1 y2).p0 = y0 := rfl
theorem N26.p1_mk (y0 : List UInt8) (y1 : List UInt8) (y2 : List (N26)) : (N26.mk y0 y1 y2).p1 = y1 := rfl
theorem N26.p2_mk (y0 : List UInt8) (y1 : List UInt8) (y2 : List (N26)) : (N26.mk y0 y1 y2).p2 = y2 := rfl
theorem N26.eta (x : N26) : N26.mk x.p0 x.p1 x.p2 = x := by cases x; rfl
attribute [go_sem] N26.eta N26.p0_mk N26.p1_mk N26.p2_mk
instance : Inhabited N26 := ⟨.mk default default default⟩
mutual
def eT26 : N26 → T
  | .mk y0 y1 y2 => .agg [.imm (.string (bs y0)), .imm (.string (bs y1)), .sl 3 false (eTs26 y2)]
def eTs26 : List N26 → List T
  | [] => []
  | x :: l => eT26 x :: eTs26 l
end
theorem eTs26_map : ∀ l : List N26, eTs26 l = List.map eT26 l
  | [] => by rw [eTs26]; rfl
  | x :: l => by rw [eTs26, eTs26_map l]; rfl
theorem eT26_def (x : N26) : eT26 x = .agg [.imm (.string (bs x.p0)), .imm (.string (bs x.p1)), .sl 3 false (List.map eT26 x.p2)] := by cases x; rw [eT26, eTs26_map]; rfl
theorem eT26_closed (x : N26) : closedT (eT26 x) = true := by rw [eT26_def]; rfl
attribute [go_sem] eT26_def eT26_closed
theorem app_T26 (l : List (N26)) (y0 : List UInt8) (y1 : List UInt8) (y2 : List (N26)) (r : List T) : List.map eT26 l ++ (T.agg [.imm (.string (bs y0)), .imm (.string (bs y1)), .sl 3 false (List.map eT26 y2)] :: r) = List.map eT26 (l ++ [(N26.mk y0 y1 y2)]) ++ r := by rw [List.map_append, List.map_cons, List.map_nil, eT26_def, List.append_assoc]; rfl
theorem set_T26 (l : List (N26)) (i : Nat) (y0 : List UInt8) (y1 : List UInt8) (y2 : List (N26)) : (List.map eT26 l).set i (T.agg [.imm (.string (bs y0)), .imm (.string (bs y1)), .sl 3 false (List.map eT26 y2)]) = List.map eT26 (l.set i (N26.mk y0 y1 y2)) := by rw [List.map_set, eT26_def]; rfl
attribute [go_sem] app_T26 set_T26
inductive N29 where
  | mk (p0 : List UInt8) (p1 : List UInt8) (p2 : List (N29))
def N29.p0 : N29 → List UInt8
  | .mk y0 _ _ => y0
def N29.p1 : N29 → List UInt8
  | .mk _ y1 _ => y1
def N29.p2 : N29 → List (N29)
  | .mk _ _ y2 => y2
theorem N29.p0_mk (y0 : List UInt8) (y1 : List UInt8) (y2 : List (N29)) : (N29.mk y0 y1 y2).p0 = y0 := rfl
theorem N29.p1_mk (y0 : List UInt8) (y1 : List UInt8) (y2 : List (N29)) : (N29.mk y0 y1 y2).p1 = y1 := rfl
theorem N29.p2_mk (y0 : List UInt8) (y1 : List UInt8) (y2 : List (N29)) : (N29.mk y0 y1 y2).p2 = y2 := rfl
theorem N29.eta (x : N29) : N29.mk x.p0 x.p1 x.p2 = x := by cases x; rfl
attribute [go_sem] N29.eta N29.p0_mk N29.p1_mk N29.p2_mk
instance : Inhabited N29 := ⟨.mk default default default⟩
mutual
def eT29 : N29 → T
  | .mk y0 y1 y2 => .agg [.imm (.string (bs y0)), .imm (.string (bs y1)), .sl 3 false (eTs29 y2)]
def eTs29 : List N29 → List T
  | [] => []
  | x :: l => eT29 x :: eTs29 l
end
theorem eTs29_map : ∀ l : List N29, eTs29 l = List.map eT29 l
  | [] => by rw [eTs29]; rfl
  | x :: l => by rw [eTs29, eTs29_map l]; rfl
theorem eT29_def (x : N29) : eT29 x = .agg [.imm (.string (bs x.p0)), .imm (.string (bs x.p1)), .sl 3 false (List.map eT29 x.p2)] := by cases x; rw [eT29, eTs29_map]; rfl
theorem eT29_closed (x : N29) : closedT (eT29 x) = true := by rw [eT29_def]; rfl
attribute [go_sem] eT29_def eT29_closed
theorem app_T29 (l : List (N29)) (y0 : List UInt8) (y1 : List UInt8) (y2 : List (N29)) (r : List T) : List.map eT29 l ++ (T.agg [.imm (.string (bs y0)), .imm (.string (bs y1)), .sl 3 false (List.map eT29 y2)] :: r) = List.map eT29 (l ++ [(N29.mk y0 y1 y2)]) ++ r := by rw [List.map_append, List.map_cons, List.map_nil, eT29_def, List.append_assoc]; rfl
theorem set_T29 (l : List (N29)) (i : Nat) (y0 : List UInt8) (y1 : List UInt8) (y2 : List (N29)) : (List.map eT29 l).set i (T.agg [.imm (.string (bs y0)), .imm (.string (bs y1)), .sl 3 false (List.map eT29 y2)]) = List.map eT29 (l.set i (N29.mk y0 y1 y2)) := by rw [List.map_set, eT29_def]; rfl
attribute [go_sem] app_T29 set_T29
end Go.Proofs.YtcnkndmegnfofaaX

set_option linter.unusedVariables false
set_option linter.unusedSimpArgs false
namespace Go.Proofs.YtcnkndmegnfofaaX
open Go Go.RowKit Go.Proofs
set_option maxRecDepth 100000
attribute [local go_sem ↓] stepsK_build stepsK_build0 stepsK_bs stepsK_bs0 appendS
attribute [local go_sem] String.reduceEq String.reduceNe reduceCtorEq Int.reduceEq Nat.reduceAdd Nat.reduceSub Nat.reduceMul Nat.reduceLT Nat.reduceLeDiff Nat.reduceEqDiff Nat.reduceBEq Int.reduceToNat Int.reduceLT Int.reduceLE Int.reduceGT Int.reduceGE Int.reduceAdd Int.reduceSub Int.reduceMul Int.reduceNeg Int.reduceBEq Int.reduceBNe Int.reducePow Int.reduceDiv Int.reduceMod Int.reduceTDiv Int.reduceTMod Int.reduceNatCast
/-! ### shadowboxlaw34.Own -/
def F17_S1 (a1 : Int) (a0 : N26) (x2 : Int) (x3 : Int) (x4 : List (N29)) : St := ⟨[.junk, .imm (.int .i64 a1), .ref 0 0 0 0, .junk, .ref 1 0 0 0, .junk, .ref 2 0 0 0, .imm (.int .i64 x2), .imm (.int .i64 x3), .junk, .junk, .junk, .junk, .junk, .junk, .junk, .junk, .junk, .junk, .junk, .junk, .junk, .junk, .junk, .junk, .junk, .junk, .junk, .junk, .junk, .junk, .junk, .junk, .junk, .junk, .junk, .junk, .junk, .junk, .junk, .junk, .junk, .junk, .junk, .junk, .junk, .junk, .junk, .junk, .junk, .junk, .junk, .junk, .junk, .junk, .junk, .junk, .junk, .junk, .junk, .junk, .junk], [some (.box 27 (.agg [.imm (.string (bs a0.p0)), .imm (.string (bs a0.p1)), .sl 3 false (List.map eT26 a0.p2)]) false), some (.box 30 (.agg [.imm (.string (bs [])), .imm (.string (bs [])), .sl 0 true []]) false), some (.box 30 (.agg [.imm (.string (bs a0.p0)), .imm (.string (bs a0.p1)), .rsl 3 3 0 x4.length]) false), some (.buf 30 3 (List.map eT29 x4) 0)]⟩
mutual
def F17_L1 : Nat → (Int) → (N26) → (Int) → (Int) → (List (N29)) → Option ((N29) × (Int))
  | 0, _, _, _, _, _ => none
  | m1 + 1, a1, a0, x2, x3, x4 => iteB (decide (x3 < (a0.p2.length : Int))) (iteB (decide (x2 < (3000 : Int))) (grd (0 ≤ x3 ∧ x3 < (a0.p2.length : Int)) ((F17 m1 (a0.p2.getD x3.toNat default) (IntKind.wrap .i64 (a1 + (1 : Int)))).bind fun v8 => grd ((x4.length + 1) ≤ 549755813888) (F17_L1 m1 a1 a0 (IntKind.wrap .i64 (x2 + v8.2)) (IntKind.wrap .i64 (x3 + (1 : Int))) (x4 ++ [v8.1])))) (some ((N29.mk a0.p0 a0.p1 x4), x2))) (some ((N29.mk a0.p0 a0.p1 x4), x2))
def F17 : Nat → (N26) → (Int) → Option ((N29) × (Int))
  | 0, _, _ => none
  | n + 1, a0, a1 => iteB (decide ((30 : Int) < a1)) (some ((N29.mk a0.p0 a0.p1 []), (9999 : Int))) (F17_L1 n a1 a0 (IntKind.wrap .i64 ((IntKind.wrap .i64 ((1 : Int) + (if (3000 : Int) < (a0.p0.length : Int) then (3000 : Int) else (a0.p0.length : Int)))) + (if (3000 : Int) < (a0.p1.length : Int) then (3000 : Int) else (a0.p1.length : Int)))) (0 : Int) [])
end
set_option maxHeartbeats 4000000 in
theorem F17_okB : ∀ (N n : Nat), n ≤ N → ∀ (a0 : N26) (a1 : Int) (r : (N29) × (Int)), F17 n a0 a1 = some r → FnC Try.prog 17 [.agg [.imm (.string (bs a0.p0)), .imm (.string (bs a0.p1)), .sl 3 false (List.map eT26 a0.p2)], .imm (.int .i64 a1)] (.tup [.agg [.imm (.string (bs r.1.p0)), .imm (.string (bs r.1.p1)), .sl 3 false (List.map eT29 r.1.p2)], .imm (.int .i64 r.2)]) := by
  intro N
  induction N with
  | zero =>
    intro n hN a0 a1 r h
    obtain rfl : n = 0 := by omega
    first | cases (show (none : Option _) = some _ from h) | (rw [F17] at h; cases h)
  | succ N IH =>
    intro n hN a0 a1 r h
    cases n with
    | zero => first | cases (show (none : Option _) = some _ from h) | (rw [F17] at h; cases h)
    | succ n =>
      rw [F17] at h
      refine FnC.goX mixed Try.func17 (by kernel_rfl) rfl ?_
      simp only [Try.ntmps17, List.length_cons, List.length_nil, List.replicate, List.cons_append, List.nil_append, Nat.reduceAdd, Nat.reduceSub]
      refine runX_seq ?_
      refine runX_regionC fun C hC => ?_
      try simp -implicitDefEqProofs (maxSteps := 4000000) (disch := first | omega | decide | (simp only [go_sem]; omega)) only [go_sem, ↓reduceIte]
      repeat (with_reducible refine And.intro (by first | assumption | omega | (simp; done) | (simp; omega)) ?_)
      refine toEnd hC ?_
      refine endX_seq ?_
      refine runX_seq ?_
      refine runX_regionC fun C hC => ?_
      try simp -implicitDefEqProofs (maxSteps := 4000000) (disch := first | omega | decide | (simp only [go_sem]; omega)) only [go_sem, ↓reduceIte]
      repeat (with_reducible refine And.intro (by first | assumption | omega | (simp; done) | (simp; omega)) ?_)
      refine bldG_of [.imm (.string (bs a0.p0)), .imm (.string (bs a0.p1)), .sl 0 true []] (by kernel_rfl) ?_
      try simp -implicitDefEqProofs (maxSteps := 4000000) (disch := first | omega | decide | (simp only [go_sem]; omega)) only [go_sem, ↓reduceIte]
      repeat (with_reducible refine And.intro (by first | assumption | omega | (simp; done) | (simp; omega)) ?_)
      refine toEnd hC ?_
      refine endX_seq ?_
      refine runX_seq ?_
      refine runX_regionC fun C hC => ?_
      try simp -implicitDefEqProofs (maxSteps := 4000000) (disch := first | omega | decide | (simp only [go_sem]; omega)) only [go_sem, ↓reduceIte]
      repeat (with_reducible refine And.intro (by first | assumption | omega | (simp; done) | (simp; omega)) ?_)
      refine toEnd hC ?_
      refine endX_seq ?_
      refine runX_seq ?_
      refine runX_seq ?_
      refine runX_regionC fun C hC => ?_
      try simp -implicitDefEqProofs (maxSteps := 4000000) (disch := first | omega | decide | (simp only [go_sem]; omega)) only [go_sem, ↓reduceIte]
      repeat (with_reducible refine And.intro (by first | assumption | omega | (simp; done) | (simp; omega)) ?_)
      refine toEnd hC ?_
      refine endX_seq ?_
      rcases iteB_some h with ⟨c1, h⟩ | ⟨c1, h⟩
      · refine runX_condT rfl c1 ?_
        refine runX_seq ?_
        refine runX_regionC fun C hC => ?_
        try simp -implicitDefEqProofs (maxSteps := 4000000) (disch := first | omega | decide | (simp only [go_sem]; omega)) only [go_sem, ↓reduceIte]
        repeat (with_reducible refine And.intro (by first | assumption | omega | (simp; done) | (simp; omega)) ?_)
        refine toEnd hC ?_
        refine endX_seq ?_
        refine runX_ret ?_
        refine endX_seqR ?_
        refine endX_q ?_
        obtain rfl := Option.some.inj h
        show RetW _ _ _ _ _
        simp only [RetW]
        (try simp -implicitDefEqProofs (maxSteps := 4000000) (disch := first | omega | decide | (simp only [go_sem]; omega)) only [go_sem, ↓reduceIte])
        (try simp (disch := omega) only [if_pos, Nat.sub_zero])
        first | exact leT_refl _ | (refine ⟨rfl, ?_⟩; first | exact leT_refl _ | exact leT_sl | exact leT_sln | exact leT_nil | (refine leT_tup (by repeat (first | exact leL_refl _ | refine leL_cons (by first | exact leT_refl _ | exact leT_virt | exact leT_junk _ | exact leT_sl | exact leT_sln | exact leT_nil | (refine leT_agg (by repeat (first | exact leL_refl _ | refine leL_cons (by first | exact leT_refl _ | exact leT_sl | exact leT_sln | exact leT_nil) ?_)))) ?_))) | (refine leT_agg (by repeat (first | exact leL_refl _ | refine leL_cons (by first | exact leT_refl _ | exact leT_virt | exact leT_junk _ | exact leT_sl | exact leT_sln | exact leT_nil | (refine leT_agg (by repeat (first | exact leL_refl _ | refine leL_cons (by first | exact leT_refl _ | exact leT_sl | exact leT_sln | exact leT_nil) ?_)))) ?_)))) | (first | exact leT_refl _ | exact leT_sl | exact leT_sln | exact leT_nil | (refine leT_tup (by repeat (first | exact leL_refl _ | refine leL_cons (by first | exact leT_refl _ | exact leT_virt | exact leT_junk _ | exact leT_sl | exact leT_sln | exact leT_nil | (refine leT_agg (by repeat (first | exact leL_refl _ | refine leL_cons (by first | exact leT_refl _ | exact leT_sl | exact leT_sln | exact leT_nil) ?_)))) ?_))) | (refine leT_agg (by repeat (first | exact leL_refl _ | refine leL_cons (by first | exact leT_refl _ | exact leT_virt | exact leT_junk _ | exact leT_sl | exact leT_sln | exact leT_nil | (refine leT_agg (by repeat (first | exact leL_refl _ | refine leL_cons (by first | exact leT_refl _ | exact leT_sl | exact leT_sln | exact leT_nil) ?_)))) ?_)))) | (simp only [List.append_assoc, List.cons_append, List.nil_append]; exact leT_refl _) | (rw [List.take_of_length_le (by simp)]; (try simp only [List.append_assoc, List.cons_append, List.nil_append]); exact leT_refl _)
      · refine runX_condF rfl c1 ?_
        refine runX_skip ?_
        refine endX_seq ?_
        refine runX_seq ?_
        refine runX_seq ?_
        refine runX_regionC fun C hC => ?_
        try simp -implicitDefEqProofs (maxSteps := 4000000) (disch := first | omega | decide | (simp only [go_sem]; omega)) only [go_sem, ↓reduceIte]
        repeat (with_reducible refine And.intro (by first | assumption | omega | (simp; done) | (simp; omega)) ?_)
        refine toEnd hC ?_
        refine endX_seq ?_
        refine runX_block ?_
        refine runX_loop [1, 2, 4, 6, 7, 8] (fun m S => ∃ (x2 : Int) (x3 : Int) (x4 : List (N29)), S = F17_S1 a1 a0 x2 x3 x4 ∧ m ≤ n ∧ F17_L1 m a1 a0 x2 x3 x4 = some r) n ⟨F17_S1 a1 a0 (IntKind.wrap .i64 ((IntKind.wrap .i64 ((1 : Int) + (if (3000 : Int) < (a0.p0.length : Int) then (3000 : Int) else (a0.p0.length : Int)))) + (if (3000 : Int) < (a0.p1.length : Int) then (3000 : Int) else (a0.p1.length : Int)))) (0 : Int) [], ?_, (IntKind.wrap .i64 ((IntKind.wrap .i64 ((1 : Int) + (if (3000 : Int) < (a0.p0.length : Int) then (3000 : Int) else (a0.p0.length : Int)))) + (if (3000 : Int) < (a0.p1.length : Int) then (3000 : Int) else (a0.p1.length : Int)))), (0 : Int), [], rfl, Nat.le_refl _, h⟩ ?_
        · (try simp -implicitDefEqProofs (maxSteps := 4000000) (disch := first | omega | decide | (simp only [go_sem]; omega)) only [go_sem, ↓reduceIte])
          simp only [F17_S1]
          refine leS_trans (leS_pad _ _ 1) ?_
          simp only [List.replicate, List.cons_append, List.nil_append]
          refine leS_virt 3 30 3 rfl ?_ ?_ rfl
          · repeat (first | exact leL_refl _ | refine leL_cons (by first | exact leT_refl _ | exact leT_virt | exact leT_junk _ | exact leT_sl | exact leT_sln | exact leT_nil | (refine leT_agg (by repeat (first | exact leL_refl _ | refine leL_cons (by first | exact leT_refl _ | exact leT_sl | exact leT_sln | exact leT_nil) ?_)))) ?_)
          · repeat (first | exact leOs_refl _ | refine leOs.cons (by first | exact leO.same _ | (refine leO.box (leT_agg (by repeat (first | exact leL_refl _ | refine leL_cons (by first | exact leT_refl _ | exact leT_virt | exact leT_junk _ | exact leT_sl | exact leT_sln | exact leT_nil | (refine leT_agg (by repeat (first | exact leL_refl _ | refine leL_cons (by first | exact leT_refl _ | exact leT_sl | exact leT_sln | exact leT_nil) ?_)))) ?_))) rfl) | (refine leO.box (by first | exact leT_virt | exact leT_sl | exact leT_sln) rfl)) ?_)
        · clear h
          rintro m1 S ⟨x2, x3, x4, rfl, hm1, h⟩
          cases m1 with
          | zero => first | cases (show (none : Option _) = some _ from h) | (rw [F17_L1] at h; cases h)
          | succ m1 =>
            rw [F17_L1] at h
            simp only [F17_S1]
            refine runX_seq ?_
            refine runX_seq ?_
            refine runX_regionC fun C hC => ?_
            try simp -implicitDefEqProofs (maxSteps := 4000000) (disch := first | omega | decide | (simp only [go_sem]; omega)) only [go_sem, ↓reduceIte]
            repeat (with_reducible refine And.intro (by first | assumption | omega | (simp; done) | (simp; omega)) ?_)
            rcases iteB_some h with ⟨c5, h⟩ | ⟨c5, h⟩
            · refine guardK_T c5 ?_
              try simp -implicitDefEqProofs (maxSteps := 4000000) (disch := first | omega | decide | (simp only [go_sem]; omega)) only [go_sem, ↓reduceIte]
              repeat (with_reducible refine And.intro (by first | assumption | omega | (simp; done) | (simp; omega)) ?_)
              refine toEnd hC ?_
              refine endX_seq ?_
              rcases iteB_some h with ⟨c6, h⟩ | ⟨c6, h⟩
              · refine runX_condT rfl c6 ?_
                refine runX_skip ?_
                refine endX_seq ?_
                refine runX_seq ?_
                refine runX_block ?_
                refine runX_seq ?_
                refine runX_regionC fun C hC => ?_
                obtain ⟨g7, h⟩ := grd_some h
                obtain ⟨v8, h8, h⟩ := bnd_some h
                try simp -implicitDefEqProofs (maxSteps := 4000000) (disch := first | omega | decide | (simp only [go_sem]; omega)) only [go_sem, ↓reduceIte]
                repeat (with_reducible refine And.intro (by first | assumption | omega | (simp; done) | (simp; omega)) ?_)
                refine callG_X (by first | rfl | (simp only [go_sem]; done) | (simp only [closedL, closedT, Bool.and_true]; exact closedL_map _ (fun _ => by first | rfl | (simp only [go_sem]; done)) _)) (IH m1 (by omega) (a0.p2.getD x3.toNat default) (IntKind.wrap .i64 (a1 + (1 : Int))) _ h8) (by repeat (first | exact leL_refl _ | refine leL_cons (by first | exact leT_refl _ | exact leT_virt | exact leT_junk _ | exact leT_sl | exact leT_sln | exact leT_nil | (refine leT_agg (by repeat (first | exact leL_refl _ | refine leL_cons (by first | exact leT_refl _ | exact leT_sl | exact leT_sln | exact leT_nil) ?_)))) ?_)) ?_
                try simp -implicitDefEqProofs (maxSteps := 4000000) (disch := first | omega | decide | (simp only [go_sem]; omega)) only [go_sem, ↓reduceIte]
                repeat (with_reducible refine And.intro (by first | assumption | omega | (simp; done) | (simp; omega)) ?_)
                refine toEnd hC ?_
                refine endX_seq ?_
                refine runX_seq ?_
                refine runX_regionC fun C hC => ?_
                try simp -implicitDefEqProofs (maxSteps := 4000000) (disch := first | omega | decide | (simp only [go_sem]; omega)) only [go_sem, ↓reduceIte]
                repeat (with_reducible refine And.intro (by first | assumption | omega | (simp; done) | (simp; omega)) ?_)
                refine bs_go <| buildX_val ?_
                obtain ⟨g9, h⟩ := grd_some h
                try simp -implicitDefEqProofs (maxSteps := 4000000) (disch := first | omega | decide | (simp only [go_sem]; omega)) only [go_sem, ↓reduceIte]
                repeat (with_reducible refine And.intro (by first | assumption | omega | (simp; done) | (simp; omega)) ?_)
                refine toEnd hC ?_
                refine endX_seq ?_
                refine runX_regionC fun C hC => ?_
                try simp -implicitDefEqProofs (maxSteps := 4000000) (disch := first | omega | decide | (simp only [go_sem]; omega)) only [go_sem, ↓reduceIte]
                repeat (with_reducible refine And.intro (by first | assumption | omega | (simp; done) | (simp; omega)) ?_)
                refine toEnd hC ?_
                refine endX_blk ?_
                refine endX_seq ?_
                refine runX_regionC fun C hC => ?_
                try simp -implicitDefEqProofs (maxSteps := 4000000) (disch := first | omega | decide | (simp only [go_sem]; omega)) only [go_sem, ↓reduceIte]
                repeat (with_reducible refine And.intro (by first | assumption | omega | (simp; done) | (simp; omega)) ?_)
                refine toEnd hC ?_
                refine endX_q (roundQ_normal ⟨m1, by omega, F17_S1 a1 a0 (IntKind.wrap .i64 (x2 + v8.2)) (IntKind.wrap .i64 (x3 + (1 : Int))) (x4 ++ [v8.1]), ?_, (IntKind.wrap .i64 (x2 + v8.2)), (IntKind.wrap .i64 (x3 + (1 : Int))), (x4 ++ [v8.1]), rfl, by omega, h⟩)
                simp only [F17_S1]
                (try simp -implicitDefEqProofs (maxSteps := 4000000) (disch := first | omega | decide | (simp only [go_sem]; omega)) only [go_sem, ↓reduceIte])
                first | exact leS_refl _ | (refine leS_le ?_ ?_ <;> first | exact leL_refl _ | exact leOs_refl _ | (repeat (first | exact leL_refl _ | refine leL_cons (by first | exact leT_refl _ | exact leT_virt | exact leT_junk _ | exact leT_sl | exact leT_sln | exact leT_nil | (refine leT_agg (by repeat (first | exact leL_refl _ | refine leL_cons (by first | exact leT_refl _ | exact leT_sl | exact leT_sln | exact leT_nil) ?_)))) ?_)))
              · refine runX_condF rfl c6 ?_
                refine runX_exit ?_
                refine endX_seqE ?_
                refine endX_q (roundQ_exit ?_)
                refine endX_blkE ?_
                refine endX_seq ?_
                refine runX_seq ?_
                refine runX_regionC fun C hC => ?_
                try simp -implicitDefEqProofs (maxSteps := 4000000) (disch := first | omega | decide | (simp only [go_sem]; omega)) only [go_sem, ↓reduceIte]
                repeat (with_reducible refine And.intro (by first | assumption | omega | (simp; done) | (simp; omega)) ?_)
                refine toEnd hC ?_
                refine endX_seq ?_
                refine runX_ret ?_
                refine endX_q ?_
                obtain rfl := Option.some.inj h
                show RetW _ _ _ _ _
                simp only [RetW]
                (try simp -implicitDefEqProofs (maxSteps := 4000000) (disch := first | omega | decide | (simp only [go_sem]; omega)) only [go_sem, ↓reduceIte])
                (try simp (disch := omega) only [if_pos, Nat.sub_zero])
                first | exact leT_refl _ | (refine ⟨rfl, ?_⟩; first | exact leT_refl _ | exact leT_sl | exact leT_sln | exact leT_nil | (refine leT_tup (by repeat (first | exact leL_refl _ | refine leL_cons (by first | exact leT_refl _ | exact leT_virt | exact leT_junk _ | exact leT_sl | exact leT_sln | exact leT_nil | (refine leT_agg (by repeat (first | exact leL_refl _ | refine leL_cons (by first | exact leT_refl _ | exact leT_sl | exact leT_sln | exact leT_nil) ?_)))) ?_))) | (refine leT_agg (by repeat (first | exact leL_refl _ | refine leL_cons (by first | exact leT_refl _ | exact leT_virt | exact leT_junk _ | exact leT_sl | exact leT_sln | exact leT_nil | (refine leT_agg (by repeat (first | exact leL_refl _ | refine leL_cons (by first | exact leT_refl _ | exact leT_sl | exact leT_sln | exact leT_nil) ?_)))) ?_)))) | (first | exact leT_refl _ | exact leT_sl | exact leT_sln | exact leT_nil | (refine leT_tup (by repeat (first | exact leL_refl _ | refine leL_cons (by first | exact leT_refl _ | exact leT_virt | exact leT_junk _ | exact leT_sl | exact leT_sln | exact leT_nil | (refine leT_agg (by repeat (first | exact leL_refl _ | refine leL_cons (by first | exact leT_refl _ | exact leT_sl | exact leT_sln | exact leT_nil) ?_)))) ?_))) | (refine leT_agg (by repeat (first | exact leL_refl _ | refine leL_cons (by first | exact leT_refl _ | exact leT_virt | exact leT_junk _ | exact leT_sl | exact leT_sln | exact leT_nil | (refine leT_agg (by repeat (first | exact leL_refl _ | refine leL_cons (by first | exact leT_refl _ | exact leT_sl | exact leT_sln | exact leT_nil) ?_)))) ?_)))) | (simp only [List.append_assoc, List.cons_append, List.nil_append]; exact leT_refl _) | (rw [List.take_of_length_le (by simp)]; (try simp only [List.append_assoc, List.cons_append, List.nil_append]); exact leT_refl _)
            · refine guardK_F c5 ?_
              try simp -implicitDefEqProofs (maxSteps := 4000000) (disch := first | omega | decide | (simp only [go_sem]; omega)) only [go_sem, ↓reduceIte]
              repeat (with_reducible refine And.intro (by first | assumption | omega | (simp; done) | (simp; omega)) ?_)
              refine toEnd hC ?_
              refine endX_seq ?_
              refine runX_condF rfl rfl ?_
              refine runX_exit ?_
              refine endX_seqE ?_
              refine endX_q (roundQ_exit ?_)
              refine endX_blkE ?_
              refine endX_seq ?_
              refine runX_seq ?_
              refine runX_regionC fun C hC => ?_
              try simp -implicitDefEqProofs (maxSteps := 4000000) (disch := first | omega | decide | (simp only [go_sem]; omega)) only [go_sem, ↓reduceIte]
              repeat (with_reducible refine And.intro (by first | assumption | omega | (simp; done) | (simp; omega)) ?_)
              refine toEnd hC ?_
              refine endX_seq ?_
              refine runX_ret ?_
              refine endX_q ?_
              obtain rfl := Option.some.inj h
              show RetW _ _ _ _ _
              simp only [RetW]
              (try simp -implicitDefEqProofs (maxSteps := 4000000) (disch := first | omega | decide | (simp only [go_sem]; omega)) only [go_sem, ↓reduceIte])
              (try simp (disch := omega) only [if_pos, Nat.sub_zero])
              first | exact leT_refl _ | (refine ⟨rfl, ?_⟩; first | exact leT_refl _ | exact leT_sl | exact leT_sln | exact leT_nil | (refine leT_tup (by repeat (first | exact leL_refl _ | refine leL_cons (by first | exact leT_refl _ | exact leT_virt | exact leT_junk _ | exact leT_sl | exact leT_sln | exact leT_nil | (refine leT_agg (by repeat (first | exact leL_refl _ | refine leL_cons (by first | exact leT_refl _ | exact leT_sl | exact leT_sln | exact leT_nil) ?_)))) ?_))) | (refine leT_agg (by repeat (first | exact leL_refl _ | refine leL_cons (by first | exact leT_refl _ | exact leT_virt | exact leT_junk _ | exact leT_sl | exact leT_sln | exact leT_nil | (refine leT_agg (by repeat (first | exact leL_refl _ | refine leL_cons (by first | exact leT_refl _ | exact leT_sl | exact leT_sln | exact leT_nil) ?_)))) ?_)))) | (first | exact leT_refl _ | exact leT_sl | exact leT_sln | exact leT_nil | (refine leT_tup (by repeat (first | exact leL_refl _ | refine leL_cons (by first | exact leT_refl _ | exact leT_virt | exact leT_junk _ | exact leT_sl | exact leT_sln | exact leT_nil | (refine leT_agg (by repeat (first | exact leL_refl _ | refine leL_cons (by first | exact leT_refl _ | exact leT_sl | exact leT_sln | exact leT_nil) ?_)))) ?_))) | (refine leT_agg (by repeat (first | exact leL_refl _ | refine leL_cons (by first | exact leT_refl _ | exact leT_virt | exact leT_junk _ | exact leT_sl | exact leT_sln | exact leT_nil | (refine leT_agg (by repeat (first | exact leL_refl _ | refine leL_cons (by first | exact leT_refl _ | exact leT_sl | exact leT_sln | exact leT_nil) ?_)))) ?_)))) | (simp only [List.append_assoc, List.cons_append, List.nil_append]; exact leT_refl _) | (rw [List.take_of_length_le (by simp)]; (try simp only [List.append_assoc, List.cons_append, List.nil_append]); exact leT_refl _)
theorem F17_ok : ∀ (n : Nat) (a0 : N26) (a1 : Int) (r : (N29) × (Int)), F17 n a0 a1 = some r → FnC Try.prog 17 [.agg [.imm (.string (bs a0.p0)), .imm (.string (bs a0.p1)), .sl 3 false (List.map eT26 a0.p2)], .imm (.int .i64 a1)] (.tup [.agg [.imm (.string (bs r.1.p0)), .imm (.string (bs r.1.p1)), .sl 3 false (List.map eT29 r.1.p2)], .imm (.int .i64 r.2)]) := fun n => F17_okB n n (Nat.le_refl n)
end Go.Proofs.YtcnkndmegnfofaaX

set_option linter.unusedVariables false
set_option linter.unusedSimpArgs false
namespace Go.Proofs.YtcnkndmegnfofaaX
open Go Go.RowKit Go.Proofs
set_option maxRecDepth 100000
attribute [local go_sem ↓] stepsK_build stepsK_build0 stepsK_bs stepsK_bs0 appendS
attribute [local go_sem] String.reduceEq String.reduceNe reduceCtorEq Int.reduceEq Nat.reduceAdd Nat.reduceSub Nat.reduceMul Nat.reduceLT Nat.reduceLeDiff Nat.reduceEqDiff Nat.reduceBEq Int.reduceToNat Int.reduceLT Int.reduceLE Int.reduceGT Int.reduceGE Int.reduceAdd Int.reduceSub Int.reduceMul Int.reduceNeg Int.reduceBEq Int.reduceBNe Int.reducePow Int.reduceDiv Int.reduceMod Int.reduceTDiv Int.reduceTMod Int.reduceNatCast
/-! ### xmlin.Kids -/
def F20_S1 (a1 : List UInt8) (a0 : N26) (x1 : Int) (x2 : List (N26)) : St := ⟨[.junk, .imm (.string (bs a1)), .junk, .junk, .junk, .rsl 0 3 0 x2.length, .junk, .junk, .junk, .sl 3 false (List.map eT26 a0.p2), .imm (.int .i64 (a0.p2.length : Int)), .imm (.int .i64 x1), .junk, .junk, .junk, .junk, .junk, .junk, .junk, .junk, .junk, .junk, .junk, .junk, .junk], [some (.buf 27 3 (List.map eT26 x2) 0)]⟩
def F20_L1 : Nat → (List UInt8) → (N26) → (Int) → (List (N26)) → Option (List (N26))
  | 0, _, _, _, _ => none
  | m1 + 1, a1, a0, x1, x2 => iteB (decide (x1 < (a0.p2.length : Int))) (grd (0 ≤ x1 ∧ x1 < (a0.p2.length : Int)) (iteB (((a0.p2.getD x1.toNat default).p0) == a1) (grd ((x2.length + 1) ≤ 549755813888) (F20_L1 m1 a1 a0 (IntKind.wrap .i64 (x1 + (1 : Int))) (x2 ++ [(a0.p2.getD x1.toNat default)]))) (F20_L1 m1 a1 a0 (IntKind.wrap .i64 (x1 + (1 : Int))) x2))) (some x2)
def F20 (n : Nat) (a0 : N26) (a1 : List UInt8) : Option (List (N26)) := F20_L1 n a1 a0 (0 : Int) []
set_option maxHeartbeats 4000000 in
theorem F20_ok : ∀ (n : Nat) (a0 : N26) (a1 : List UInt8) (r : List (N26)), F20 n a0 a1 = some r → FnC Try.prog 20 [.agg [.imm (.string (bs a0.p0)), .imm (.string (bs a0.p1)), .sl 3 false (List.map eT26 a0.p2)], .imm (.string (bs a1))] (.sl 3 false (List.map eT26 r))
  | n, a0, a1, r, h => by
    unfold F20 at h
    refine FnC.goX mixed Try.func20 (by kernel_rfl) rfl ?_
    simp only [Try.ntmps20, List.length_cons, List.length_nil, List.replicate, List.cons_append, List.nil_append, Nat.reduceAdd, Nat.reduceSub]
    refine runX_seq ?_
    refine runX_regionC fun C hC => ?_
    try simp -implicitDefEqProofs (maxSteps := 4000000) (disch := first | omega | decide | (simp only [go_sem]; omega)) only [go_sem, ↓reduceIte]
    repeat (with_reducible refine And.intro (by first | assumption | omega | (simp; done) | (simp; omega)) ?_)
    refine toEnd hC ?_
    refine endX_seq ?_
    refine runX_seq ?_
    refine runX_regionC fun C hC => ?_
    try simp -implicitDefEqProofs (maxSteps := 4000000) (disch := first | omega | decide | (simp only [go_sem]; omega)) only [go_sem, ↓reduceIte]
    repeat (with_reducible refine And.intro (by first | assumption | omega | (simp; done) | (simp; omega)) ?_)
    refine toEnd hC ?_
    refine endX_seq ?_
    refine runX_seq ?_
    refine runX_seq ?_
    refine runX_regionC fun C hC => ?_
    try simp -implicitDefEqProofs (maxSteps := 4000000) (disch := first | omega | decide | (simp only [go_sem]; omega)) only [go_sem, ↓reduceIte]
    repeat (with_reducible refine And.intro (by first | assumption | omega | (simp; done) | (simp; omega)) ?_)
    refine toEnd hC ?_
    refine endX_seq ?_
    refine runX_block ?_
    refine runX_loop [1, 5, 9, 10, 11] (fun m S => ∃ (x1 : Int) (x2 : List (N26)), S = F20_S1 a1 a0 x1 x2 ∧ m ≤ n ∧ F20_L1 m a1 a0 x1 x2 = some r) n ⟨F20_S1 a1 a0 (0 : Int) [], ?_, (0 : Int), [], rfl, Nat.le_refl _, h⟩ ?_
    · (try simp -implicitDefEqProofs (maxSteps := 4000000) (disch := first | omega | decide | (simp only [go_sem]; omega)) only [go_sem, ↓reduceIte])
      simp only [F20_S1]
      refine leS_trans (leS_pad _ _ 1) ?_
      simp only [List.replicate, List.cons_append, List.nil_append]
      refine leS_virt 0 27 3 rfl ?_ ?_ rfl
      · repeat (first | exact leL_refl _ | refine leL_cons (by first | exact leT_refl _ | exact leT_virt | exact leT_junk _ | exact leT_sl | exact leT_sln | exact leT_nil | (refine leT_agg (by repeat (first | exact leL_refl _ | refine leL_cons (by first | exact leT_refl _ | exact leT_sl | exact leT_sln | exact leT_nil) ?_)))) ?_)
      · repeat (first | exact leOs_refl _ | refine leOs.cons (by first | exact leO.same _ | (refine leO.box (leT_agg (by repeat (first | exact leL_refl _ | refine leL_cons (by first | exact leT_refl _ | exact leT_virt | exact leT_junk _ | exact leT_sl | exact leT_sln | exact leT_nil | (refine leT_agg (by repeat (first | exact leL_refl _ | refine leL_cons (by first | exact leT_refl _ | exact leT_sl | exact leT_sln | exact leT_nil) ?_)))) ?_))) rfl) | (refine leO.box (by first | exact leT_virt | exact leT_sl | exact leT_sln) rfl)) ?_)
    · clear h
      rintro m1 S ⟨x1, x2, rfl, hm1, h⟩
      cases m1 with
      | zero => first | cases (show (none : Option _) = some _ from h) | (rw [F20_L1] at h; cases h)
      | succ m1 =>
        rw [F20_L1] at h
        simp only [F20_S1]
        refine runX_seq ?_
        refine runX_regionC fun C hC => ?_
        try simp -implicitDefEqProofs (maxSteps := 4000000) (disch := first | omega | decide | (simp only [go_sem]; omega)) only [go_sem, ↓reduceIte]
        repeat (with_reducible refine And.intro (by first | assumption | omega | (simp; done) | (simp; omega)) ?_)
        refine toEnd hC ?_
        refine endX_seq ?_
        refine runX_seq ?_
        rcases iteB_some h with ⟨c3, h⟩ | ⟨c3, h⟩
        · refine runX_condT rfl c3 ?_
          refine runX_skip ?_
          refine endX_seq ?_
          refine runX_seq ?_
          refine runX_block ?_
          refine runX_seq ?_
          refine runX_regionC fun C hC => ?_
          obtain ⟨g4, h⟩ := grd_some h
          try simp -implicitDefEqProofs (maxSteps := 4000000) (disch := first | omega | decide | (simp only [go_sem]; omega)) only [go_sem, ↓reduceIte]
          repeat (with_reducible refine And.intro (by first | assumption | omega | (simp; done) | (simp; omega)) ?_)
          refine toEnd hC ?_
          refine endX_seq ?_
          refine runX_seq ?_
          refine runX_regionC fun C hC => ?_
          try simp -implicitDefEqProofs (maxSteps := 4000000) (disch := first | omega | decide | (simp only [go_sem]; omega)) only [go_sem, ↓reduceIte]
          repeat (with_reducible refine And.intro (by first | assumption | omega | (simp; done) | (simp; omega)) ?_)
          refine toEnd hC ?_
          refine endX_seq ?_
          rcases iteB_some h with ⟨c5, h⟩ | ⟨c5, h⟩
          · refine runX_condT rfl c5 ?_
            refine runX_regionC fun C hC => ?_
            try simp -implicitDefEqProofs (maxSteps := 4000000) (disch := first | omega | decide | (simp only [go_sem]; omega)) only [go_sem, ↓reduceIte]
            repeat (with_reducible refine And.intro (by first | assumption | omega | (simp; done) | (simp; omega)) ?_)
            refine bs_go <| buildX_val ?_
            obtain ⟨g6, h⟩ := grd_some h
            try simp -implicitDefEqProofs (maxSteps := 4000000) (disch := first | omega | decide | (simp only [go_sem]; omega)) only [go_sem, ↓reduceIte]
            repeat (with_reducible refine And.intro (by first | assumption | omega | (simp; done) | (simp; omega)) ?_)
            refine toEnd hC ?_
            refine endX_blk ?_
            refine endX_seq ?_
            refine runX_regionC fun C hC => ?_
            try simp -implicitDefEqProofs (maxSteps := 4000000) (disch := first | omega | decide | (simp only [go_sem]; omega)) only [go_sem, ↓reduceIte]
            repeat (with_reducible refine And.intro (by first | assumption | omega | (simp; done) | (simp; omega)) ?_)
            refine toEnd hC ?_
            refine endX_q (roundQ_normal ⟨m1, by omega, F20_S1 a1 a0 (IntKind.wrap .i64 (x1 + (1 : Int))) (x2 ++ [(a0.p2.getD x1.toNat default)]), ?_, (IntKind.wrap .i64 (x1 + (1 : Int))), (x2 ++ [(a0.p2.getD x1.toNat default)]), rfl, by omega, h⟩)
            simp only [F20_S1]
            (try simp -implicitDefEqProofs (maxSteps := 4000000) (disch := first | omega | decide | (simp only [go_sem]; omega)) only [go_sem, ↓reduceIte])
            first | exact leS_refl _ | (refine leS_le ?_ ?_ <;> first | exact leL_refl _ | exact leOs_refl _ | (repeat (first | exact leL_refl _ | refine leL_cons (by first | exact leT_refl _ | exact leT_virt | exact leT_junk _ | exact leT_sl | exact leT_sln | exact leT_nil | (refine leT_agg (by repeat (first | exact leL_refl _ | refine leL_cons (by first | exact leT_refl _ | exact leT_sl | exact leT_sln | exact leT_nil) ?_)))) ?_)))
          · refine runX_condF rfl c5 ?_
            refine runX_skip ?_
            refine endX_blk ?_
            refine endX_seq ?_
            refine runX_regionC fun C hC => ?_
            try simp -implicitDefEqProofs (maxSteps := 4000000) (disch := first | omega | decide | (simp only [go_sem]; omega)) only [go_sem, ↓reduceIte]
            repeat (with_reducible refine And.intro (by first | assumption | omega | (simp; done) | (simp; omega)) ?_)
            refine toEnd hC ?_
            refine endX_q (roundQ_normal ⟨m1, by omega, F20_S1 a1 a0 (IntKind.wrap .i64 (x1 + (1 : Int))) x2, ?_, (IntKind.wrap .i64 (x1 + (1 : Int))), x2, rfl, by omega, h⟩)
            simp only [F20_S1]
            (try simp -implicitDefEqProofs (maxSteps := 4000000) (disch := first | omega | decide | (simp only [go_sem]; omega)) only [go_sem, ↓reduceIte])
            first | exact leS_refl _ | (refine leS_le ?_ ?_ <;> first | exact leL_refl _ | exact leOs_refl _ | (repeat (first | exact leL_refl _ | refine leL_cons (by first | exact leT_refl _ | exact leT_virt | exact leT_junk _ | exact leT_sl | exact leT_sln | exact leT_nil | (refine leT_agg (by repeat (first | exact leL_refl _ | refine leL_cons (by first | exact leT_refl _ | exact leT_sl | exact leT_sln | exact leT_nil) ?_)))) ?_)))
        · refine runX_condF rfl c3 ?_
          refine runX_exit ?_
          refine endX_seqE ?_
          refine endX_q (roundQ_exit ?_)
          refine endX_blkE ?_
          refine endX_seq ?_
          refine runX_seq ?_
          refine runX_regionC fun C hC => ?_
          try simp -implicitDefEqProofs (maxSteps := 4000000) (disch := first | omega | decide | (simp only [go_sem]; omega)) only [go_sem, ↓reduceIte]
          repeat (with_reducible refine And.intro (by first | assumption | omega | (simp; done) | (simp; omega)) ?_)
          refine toEnd hC ?_
          refine endX_seq ?_
          refine runX_ret ?_
          refine endX_q ?_
          obtain rfl := Option.some.inj h
          show RetW _ _ _ _ _
          simp only [RetW]
          (try simp -implicitDefEqProofs (maxSteps := 4000000) (disch := first | omega | decide | (simp only [go_sem]; omega)) only [go_sem, ↓reduceIte])
          (try simp (disch := omega) only [if_pos, Nat.sub_zero])
          exact leT_refl _
end Go.Proofs.YtcnkndmegnfofaaX

set_option linter.unusedVariables false
set_option linter.unusedSimpArgs false
namespace Go.Proofs.YtcnkndmegnfofaaX
open Go Go.RowKit Go.Proofs
set_option maxRecDepth 100000
attribute [local go_sem ↓] stepsK_build stepsK_build0 stepsK_bs stepsK_bs0 appendS
attribute [local go_sem] String.reduceEq String.reduceNe reduceCtorEq Int.reduceEq Nat.reduceAdd Nat.reduceSub Nat.reduceMul Nat.reduceLT Nat.reduceLeDiff Nat.reduceEqDiff Nat.reduceBEq Int.reduceToNat Int.reduceLT Int.reduceLE Int.reduceGT Int.reduceGE Int.reduceAdd Int.reduceSub Int.reduceMul Int.reduceNeg Int.reduceBEq Int.reduceBNe Int.reducePow Int.reduceDiv Int.reduceMod Int.reduceTDiv Int.reduceTMod Int.reduceNatCast
/-! ### xmlin.Kid -/
def F18 (n : Nat) (a0 : N26) (a1 : List UInt8) : Option ((N26) × (Bool)) := (F20 n a0 a1).bind fun v1 => iteB ((v1.length : Int) == (0 : Int)) (some ((N26.mk [] [] []), false)) (grd ((0 : Int) < (v1.length : Int)) (some ((v1.getD (0 : Int).toNat default), true)))
set_option maxHeartbeats 4000000 in
theorem F18_ok : ∀ (n : Nat) (a0 : N26) (a1 : List UInt8) (r : (N26) × (Bool)), F18 n a0 a1 = some r → FnC Try.prog 18 [.agg [.imm (.string (bs a0.p0)), .imm (.string (bs a0.p1)), .sl 3 false (List.map eT26 a0.p2)], .imm (.string (bs a1))] (.tup [.agg [.imm (.string (bs r.1.p0)), .imm (.string (bs r.1.p1)), .sl 3 false (List.map eT26 r.1.p2)], .imm (.bool r.2)])
  | n, a0, a1, r, h => by
    unfold F18 at h
    refine FnC.goX mixed Try.func18 (by kernel_rfl) rfl ?_
    simp only [Try.ntmps18, List.length_cons, List.length_nil, List.replicate, List.cons_append, List.nil_append, Nat.reduceAdd, Nat.reduceSub]
    refine runX_seq ?_
    refine runX_regionC fun C hC => ?_
    try simp -implicitDefEqProofs (maxSteps := 4000000) (disch := first | omega | decide | (simp only [go_sem]; omega)) only [go_sem, ↓reduceIte]
    repeat (with_reducible refine And.intro (by first | assumption | omega | (simp; done) | (simp; omega)) ?_)
    refine toEnd hC ?_
    refine endX_seq ?_
    refine runX_seq ?_
    refine runX_regionC fun C hC => ?_
    obtain ⟨v1, h1, h⟩ := bnd_some h
    try simp -implicitDefEqProofs (maxSteps := 4000000) (disch := first | omega | decide | (simp only [go_sem]; omega)) only [go_sem, ↓reduceIte]
    repeat (with_reducible refine And.intro (by first | assumption | omega | (simp; done) | (simp; omega)) ?_)
    refine callG_X (by first | rfl | (simp only [go_sem]; done) | (simp only [closedL, closedT, Bool.and_true]; exact closedL_map _ (fun _ => by first | rfl | (simp only [go_sem]; done)) _)) (F20_ok n a0 a1 _ h1) (by repeat (first | exact leL_refl _ | refine leL_cons (by first | exact leT_refl _ | exact leT_virt | exact leT_junk _ | exact leT_sl | exact leT_sln | exact leT_nil | (refine leT_agg (by repeat (first | exact leL_refl _ | refine leL_cons (by first | exact leT_refl _ | exact leT_sl | exact leT_sln | exact leT_nil) ?_)))) ?_)) ?_
    try simp -implicitDefEqProofs (maxSteps := 4000000) (disch := first | omega | decide | (simp only [go_sem]; omega)) only [go_sem, ↓reduceIte]
    repeat (with_reducible refine And.intro (by first | assumption | omega | (simp; done) | (simp; omega)) ?_)
    refine toEnd hC ?_
    refine endX_seq ?_
    refine runX_seq ?_
    refine runX_seq ?_
    refine runX_regionC fun C hC => ?_
    try simp -implicitDefEqProofs (maxSteps := 4000000) (disch := first | omega | decide | (simp only [go_sem]; omega)) only [go_sem, ↓reduceIte]
    repeat (with_reducible refine And.intro (by first | assumption | omega | (simp; done) | (simp; omega)) ?_)
    refine toEnd hC ?_
    refine endX_seq ?_
    rcases iteB_some h with ⟨c2, h⟩ | ⟨c2, h⟩
    · refine runX_condT rfl c2 ?_
      refine runX_seq ?_
      refine runX_regionC fun C hC => ?_
      simp only [runK_region, runK_draw, liteL, liteL2, dstsL, gL, List.getD_cons_zero, List.getD_cons_succ]
      try simp -implicitDefEqProofs (maxSteps := 4000000) (disch := first | omega | decide | (simp only [go_sem]; omega)) only [go_sem, ↓reduceIte]
      repeat (with_reducible refine And.intro (by first | assumption | omega | (simp; done) | (simp; omega)) ?_)
      refine bldG_of [.imm (.string (bs [])), .imm (.string (bs [])), .sl 0 true []] (by kernel_rfl) ?_
      try simp -implicitDefEqProofs (maxSteps := 4000000) (disch := first | omega | decide | (simp only [go_sem]; omega)) only [go_sem, ↓reduceIte]
      repeat (with_reducible refine And.intro (by first | assumption | omega | (simp; done) | (simp; omega)) ?_)
      refine toEnd hC ?_
      refine endX_seq ?_
      refine runX_ret ?_
      refine endX_seqR ?_
      refine endX_q ?_
      obtain rfl := Option.some.inj h
      show RetW _ _ _ _ _
      simp only [RetW]
      (try simp -implicitDefEqProofs (maxSteps := 4000000) (disch := first | omega | decide | (simp only [go_sem]; omega)) only [go_sem, ↓reduceIte])
      (try simp (disch := omega) only [if_pos, Nat.sub_zero])
      first | exact leT_refl _ | (refine ⟨rfl, ?_⟩; first | exact leT_refl _ | exact leT_sl | exact leT_sln | exact leT_nil | (refine leT_tup (by repeat (first | exact leL_refl _ | refine leL_cons (by first | exact leT_refl _ | exact leT_virt | exact leT_junk _ | exact leT_sl | exact leT_sln | exact leT_nil | (refine leT_agg (by repeat (first | exact leL_refl _ | refine leL_cons (by first | exact leT_refl _ | exact leT_sl | exact leT_sln | exact leT_nil) ?_)))) ?_))) | (refine leT_agg (by repeat (first | exact leL_refl _ | refine leL_cons (by first | exact leT_refl _ | exact leT_virt | exact leT_junk _ | exact leT_sl | exact leT_sln | exact leT_nil | (refine leT_agg (by repeat (first | exact leL_refl _ | refine leL_cons (by first | exact leT_refl _ | exact leT_sl | exact leT_sln | exact leT_nil) ?_)))) ?_)))) | (first | exact leT_refl _ | exact leT_sl | exact leT_sln | exact leT_nil | (refine leT_tup (by repeat (first | exact leL_refl _ | refine leL_cons (by first | exact leT_refl _ | exact leT_virt | exact leT_junk _ | exact leT_sl | exact leT_sln | exact leT_nil | (refine leT_agg (by repeat (first | exact leL_refl _ | refine leL_cons (by first | exact leT_refl _ | exact leT_sl | exact leT_sln | exact leT_nil) ?_)))) ?_))) | (refine leT_agg (by repeat (first | exact leL_refl _ | refine leL_cons (by first | exact leT_refl _ | exact leT_virt | exact leT_junk _ | exact leT_sl | exact leT_sln | exact leT_nil | (refine leT_agg (by repeat (first | exact leL_refl _ | refine leL_cons (by first | exact leT_refl _ | exact leT_sl | exact leT_sln | exact leT_nil) ?_)))) ?_)))) | (simp only [List.append_assoc, List.cons_append, List.nil_append]; exact leT_refl _) | (rw [List.take_of_length_le (by simp)]; (try simp only [List.append_assoc, List.cons_append, List.nil_append]); exact leT_refl _)
    · refine runX_condF rfl c2 ?_
      refine runX_skip ?_
      refine endX_seq ?_
      refine runX_seq ?_
      refine runX_regionC fun C hC => ?_
      obtain ⟨g3, h⟩ := grd_some h
      try simp -implicitDefEqProofs (maxSteps := 4000000) (disch := first | omega | decide | (simp only [go_sem]; omega)) only [go_sem, ↓reduceIte]
      repeat (with_reducible refine And.intro (by first | assumption | omega | (simp; done) | (simp; omega)) ?_)
      refine toEnd hC ?_
      refine endX_seq ?_
      refine runX_ret ?_
      refine endX_q ?_
      obtain rfl := Option.some.inj h
      show RetW _ _ _ _ _
      simp only [RetW]
      (try simp -implicitDefEqProofs (maxSteps := 4000000) (disch := first | omega | decide | (simp only [go_sem]; omega)) only [go_sem, ↓reduceIte])
      (try simp (disch := omega) only [if_pos, Nat.sub_zero])
      first | exact leT_refl _ | (refine ⟨rfl, ?_⟩; first | exact leT_refl _ | exact leT_sl | exact leT_sln | exact leT_nil | (refine leT_tup (by repeat (first | exact leL_refl _ | refine leL_cons (by first | exact leT_refl _ | exact leT_virt | exact leT_junk _ | exact leT_sl | exact leT_sln | exact leT_nil | (refine leT_agg (by repeat (first | exact leL_refl _ | refine leL_cons (by first | exact leT_refl _ | exact leT_sl | exact leT_sln | exact leT_nil) ?_)))) ?_))) | (refine leT_agg (by repeat (first | exact leL_refl _ | refine leL_cons (by first | exact leT_refl _ | exact leT_virt | exact leT_junk _ | exact leT_sl | exact leT_sln | exact leT_nil | (refine leT_agg (by repeat (first | exact leL_refl _ | refine leL_cons (by first | exact leT_refl _ | exact leT_sl | exact leT_sln | exact leT_nil) ?_)))) ?_)))) | (first | exact leT_refl _ | exact leT_sl | exact leT_sln | exact leT_nil | (refine leT_tup (by repeat (first | exact leL_refl _ | refine leL_cons (by first | exact leT_refl _ | exact leT_virt | exact leT_junk _ | exact leT_sl | exact leT_sln | exact leT_nil | (refine leT_agg (by repeat (first | exact leL_refl _ | refine leL_cons (by first | exact leT_refl _ | exact leT_sl | exact leT_sln | exact leT_nil) ?_)))) ?_))) | (refine leT_agg (by repeat (first | exact leL_refl _ | refine leL_cons (by first | exact leT_refl _ | exact leT_virt | exact leT_junk _ | exact leT_sl | exact leT_sln | exact leT_nil | (refine leT_agg (by repeat (first | exact leL_refl _ | refine leL_cons (by first | exact leT_refl _ | exact leT_sl | exact leT_sln | exact leT_nil) ?_)))) ?_)))) | (simp only [List.append_assoc, List.cons_append, List.nil_append]; exact leT_refl _) | (rw [List.take_of_length_le (by simp)]; (try simp only [List.append_assoc, List.cons_append, List.nil_append]); exact leT_refl _)
end Go.Proofs.YtcnkndmegnfofaaX

set_option linter.unusedVariables false
set_option linter.unusedSimpArgs false
namespace Go.Proofs.YtcnkndmegnfofaaX
open Go Go.RowKit Go.Proofs
set_option maxRecDepth 100000
attribute [local go_sem ↓] stepsK_build stepsK_build0 stepsK_bs stepsK_bs0 appendS
attribute [local go_sem] String.reduceEq String.reduceNe reduceCtorEq Int.reduceEq Nat.reduceAdd Nat.reduceSub Nat.reduceMul Nat.reduceLT Nat.reduceLeDiff Nat.reduceEqDiff Nat.reduceBEq Int.reduceToNat Int.reduceLT Int.reduceLE Int.reduceGT Int.reduceGE Int.reduceAdd Int.reduceSub Int.reduceMul Int.reduceNeg Int.reduceBEq Int.reduceBNe Int.reducePow Int.reduceDiv Int.reduceMod Int.reduceTDiv Int.reduceTMod Int.reduceNatCast
/-! ### xmlin.Value -/
def F19 (n : Nat) (a0 : N26) (a1 : List UInt8) : Option ((List UInt8) × (Bool)) := (F18 n a0 a1).bind fun v1 => iteB (!v1.2) (some ([], false)) (iteB (decide ((0 : Int) < (v1.1.p2.length : Int))) (some ([], false)) (some (v1.1.p1, true)))
set_option maxHeartbeats 4000000 in
theorem F19_ok : ∀ (n : Nat) (a0 : N26) (a1 : List UInt8) (r : (List UInt8) × (Bool)), F19 n a0 a1 = some r → FnC Try.prog 19 [.agg [.imm (.string (bs a0.p0)), .imm (.string (bs a0.p1)), .sl 3 false (List.map eT26 a0.p2)], .imm (.string (bs a1))] (.tup [.imm (.string (bs r.1)), .imm (.bool r.2)])
  | n, a0, a1, r, h => by
    unfold F19 at h
    refine FnC.goX mixed Try.func19 (by kernel_rfl) rfl ?_
    simp only [Try.ntmps19, List.length_cons, List.length_nil, List.replicate, List.cons_append, List.nil_append, Nat.reduceAdd, Nat.reduceSub]
    refine runX_seq ?_
    refine runX_regionC fun C hC => ?_
    try simp -implicitDefEqProofs (maxSteps := 4000000) (disch := first | omega | decide | (simp only [go_sem]; omega)) only [go_sem, ↓reduceIte]
    repeat (with_reducible refine And.intro (by first | assumption | omega | (simp; done) | (simp; omega)) ?_)
    refine toEnd hC ?_
    refine endX_seq ?_
    refine runX_seq ?_
    refine runX_regionC fun C hC => ?_
    obtain ⟨v1, h1, h⟩ := bnd_some h
    try simp -implicitDefEqProofs (maxSteps := 4000000) (disch := first | omega | decide | (simp only [go_sem]; omega)) only [go_sem, ↓reduceIte]
    repeat (with_reducible refine And.intro (by first | assumption | omega | (simp; done) | (simp; omega)) ?_)
    refine callG_X (by first | rfl | (simp only [go_sem]; done) | (simp only [closedL, closedT, Bool.and_true]; exact closedL_map _ (fun _ => by first | rfl | (simp only [go_sem]; done)) _)) (F18_ok n a0 a1 _ h1) (by repeat (first | exact leL_refl _ | refine leL_cons (by first | exact leT_refl _ | exact leT_virt | exact leT_junk _ | exact leT_sl | exact leT_sln | exact leT_nil | (refine leT_agg (by repeat (first | exact leL_refl _ | refine leL_cons (by first | exact leT_refl _ | exact leT_sl | exact leT_sln | exact leT_nil) ?_)))) ?_)) ?_
    try simp -implicitDefEqProofs (maxSteps := 4000000) (disch := first | omega | decide | (simp only [go_sem]; omega)) only [go_sem, ↓reduceIte]
    repeat (with_reducible refine And.intro (by first | assumption | omega | (simp; done) | (simp; omega)) ?_)
    refine toEnd hC ?_
    refine endX_seq ?_
    refine runX_seq ?_
    refine runX_seq ?_
    refine runX_regionC fun C hC => ?_
    try simp -implicitDefEqProofs (maxSteps := 4000000) (disch := first | omega | decide | (simp only [go_sem]; omega)) only [go_sem, ↓reduceIte]
    repeat (with_reducible refine And.intro (by first | assumption | omega | (simp; done) | (simp; omega)) ?_)
    rcases iteB_some h with ⟨c2, h⟩ | ⟨c2, h⟩
    · refine guardK_F c2 ?_
      try simp -implicitDefEqProofs (maxSteps := 4000000) (disch := first | omega | decide | (simp only [go_sem]; omega)) only [go_sem, ↓reduceIte]
      repeat (with_reducible refine And.intro (by first | assumption | omega | (simp; done) | (simp; omega)) ?_)
      refine toEnd hC ?_
      refine endX_seq ?_
      refine runX_condT rfl rfl ?_
      refine runX_seq ?_
      refine runX_regionC fun C hC => ?_
      try simp -implicitDefEqProofs (maxSteps := 4000000) (disch := first | omega | decide | (simp only [go_sem]; omega)) only [go_sem, ↓reduceIte]
      repeat (with_reducible refine And.intro (by first | assumption | omega | (simp; done) | (simp; omega)) ?_)
      refine toEnd hC ?_
      refine endX_seq ?_
      refine runX_ret ?_
      refine endX_seqR ?_
      refine endX_q ?_
      obtain rfl := Option.some.inj h
      show RetW _ _ _ _ _
      simp only [RetW]
      (try simp -implicitDefEqProofs (maxSteps := 4000000) (disch := first | omega | decide | (simp only [go_sem]; omega)) only [go_sem, ↓reduceIte])
      (try simp (disch := omega) only [if_pos, Nat.sub_zero])
      exact leT_refl _
    · refine guardK_T c2 ?_
      try simp -implicitDefEqProofs (maxSteps := 4000000) (disch := first | omega | decide | (simp only [go_sem]; omega)) only [go_sem, ↓reduceIte]
      repeat (with_reducible refine And.intro (by first | assumption | omega | (simp; done) | (simp; omega)) ?_)
      refine toEnd hC ?_
      refine endX_seq ?_
      rcases iteB_some h with ⟨c3, h⟩ | ⟨c3, h⟩
      · refine runX_condT rfl c3 ?_
        refine runX_seq ?_
        refine runX_regionC fun C hC => ?_
        try simp -implicitDefEqProofs (maxSteps := 4000000) (disch := first | omega | decide | (simp only [go_sem]; omega)) only [go_sem, ↓reduceIte]
        repeat (with_reducible refine And.intro (by first | assumption | omega | (simp; done) | (simp; omega)) ?_)
        refine toEnd hC ?_
        refine endX_seq ?_
        refine runX_ret ?_
        refine endX_seqR ?_
        refine endX_q ?_
        obtain rfl := Option.some.inj h
        show RetW _ _ _ _ _
        simp only [RetW]
        (try simp -implicitDefEqProofs (maxSteps := 4000000) (disch := first | omega | decide | (simp only [go_sem]; omega)) only [go_sem, ↓reduceIte])
        (try simp (disch := omega) only [if_pos, Nat.sub_zero])
        exact leT_refl _
      · refine runX_condF rfl c3 ?_
        refine runX_skip ?_
        refine endX_seq ?_
        refine runX_seq ?_
        refine runX_regionC fun C hC => ?_
        try simp -implicitDefEqProofs (maxSteps := 4000000) (disch := first | omega | decide | (simp only [go_sem]; omega)) only [go_sem, ↓reduceIte]
        repeat (with_reducible refine And.intro (by first | assumption | omega | (simp; done) | (simp; omega)) ?_)
        refine toEnd hC ?_
        refine endX_seq ?_
        refine runX_ret ?_
        refine endX_q ?_
        obtain rfl := Option.some.inj h
        show RetW _ _ _ _ _
        simp only [RetW]
        (try simp -implicitDefEqProofs (maxSteps := 4000000) (disch := first | omega | decide | (simp only [go_sem]; omega)) only [go_sem, ↓reduceIte])
        (try simp (disch := omega) only [if_pos, Nat.sub_zero])
        exact leT_refl _
end Go.Proofs.YtcnkndmegnfofaaX

set_option linter.unusedVariables false
set_option linter.unusedSimpArgs false
namespace Go.Proofs.YtcnkndmegnfofaaX
open Go Go.RowKit Go.Proofs
set_option maxRecDepth 100000
attribute [local go_sem ↓] stepsK_build stepsK_build0 stepsK_bs stepsK_bs0 appendS
attribute [local go_sem] String.reduceEq String.reduceNe reduceCtorEq Int.reduceEq Nat.reduceAdd Nat.reduceSub Nat.reduceMul Nat.reduceLT Nat.reduceLeDiff Nat.reduceEqDiff Nat.reduceBEq Int.reduceToNat Int.reduceLT Int.reduceLE Int.reduceGT Int.reduceGE Int.reduceAdd Int.reduceSub Int.reduceMul Int.reduceNeg Int.reduceBEq Int.reduceBNe Int.reducePow Int.reduceDiv Int.reduceMod Int.reduceTDiv Int.reduceTMod Int.reduceNatCast
/-! ### shadowboxlaw35.XmlinKids -/
theorem F4_LE0 : leL anyE ([.agg [.imm (.string (bs [])), .imm (.string (bs [])), .sl 3 true [.agg [.imm (.string (bs ([97] : List UInt8))), .imm (.string (bs ([98] : List UInt8))), .sl 0 true []]]], .imm (.string (bs ([97] : List UInt8)))]) ([.agg [.imm (.string (bs ((N26.mk [] [] ([(N26.mk ([97] : List UInt8) ([98] : List UInt8) [])])).p0))), .imm (.string (bs ((N26.mk [] [] ([(N26.mk ([97] : List UInt8) ([98] : List UInt8) [])])).p1))), .sl 3 false (List.map eT26 ((N26.mk [] [] ([(N26.mk ([97] : List UInt8) ([98] : List UInt8) [])])).p2))], .imm (.string (bs ([97] : List UInt8)))]) := by
  (try simp -implicitDefEqProofs (maxSteps := 4000000) (disch := first | omega | decide | (simp only [go_sem]; omega)) only [go_sem, ↓reduceIte])
  repeat (first | exact leL_refl _ | refine leL_cons (by first | exact leT_refl _ | exact leT_sl | exact leT_sln | (refine leT_slX (by repeat (first | exact leE_refl _ | refine leE_cons (by first | exact leT_refl _ | exact leT_sl | (refine leT_agg (by repeat (first | exact leL_refl _ | refine leL_cons (by first | exact leT_refl _ | exact leT_sl | exact leT_sln) ?_)))) ?_)) rfl) | (refine leT_agg (by repeat (first | exact leL_refl _ | refine leL_cons (by first | exact leT_refl _ | exact leT_sl | exact leT_sln | (refine leT_slX (by repeat (first | exact leE_refl _ | refine leE_cons (by first | exact leT_refl _ | exact leT_sl | (refine leT_agg (by repeat (first | exact leL_refl _ | refine leL_cons (by first | exact leT_refl _ | exact leT_sl | exact leT_sln) ?_)))) ?_)) rfl)) ?_)))) ?_)
def F4_S1 (a1 : List UInt8) (v4 : (N26) × (Bool)) (v5 : (List UInt8) × (Bool)) (v6 : List (N26)) (a0 : N26) (x7 : Int) (x8 : Int) : St := ⟨[.junk, .imm (.string (bs a1)), .ref 0 0 0 0, .junk, .junk, .junk, .junk, .ref 2 0 0 0, .imm (.bool v4.2), .imm (.string (bs v5.1)), .imm (.bool v5.2), .sl 3 false (List.map eT26 v6), .imm (.int .i64 x7), .imm (.int .i64 x8), .junk, .junk, .junk, .junk, .junk, .junk, .junk, .junk, .junk, .junk, .junk, .junk, .junk, .junk, .junk, .junk, .junk, .junk, .junk, .junk, .junk, .junk, .junk, .junk, .junk, .junk, .junk, .junk, .junk, .junk, .junk, .junk, .junk, .junk, .junk, .junk, .junk, .junk, .junk, .junk, .junk, .junk, .junk, .junk, .junk, .junk, .junk, .junk, .junk, .junk, .junk, .junk, .junk, .junk, .junk, .junk, .junk, .junk, .junk, .junk, .junk, .junk, .junk, .junk, .junk, .junk, .junk, .junk, .junk, .junk, .junk, .junk, .junk, .junk, .junk, .junk, .junk, .junk, .junk, .junk, .junk, .junk, .junk, .junk, .junk, .junk, .junk, .junk, .junk, .junk, .junk, .junk, .junk, .junk, .junk, .junk, .junk, .junk, .junk, .junk, .junk, .junk, .junk, .junk, .junk, .junk, .junk, .junk, .junk, .junk, .junk, .junk, .junk, .junk, .junk, .junk, .junk, .junk, .junk, .junk, .junk, .junk, .junk, .junk, .junk, .junk, .junk, .junk, .junk, .junk, .junk, .junk, .junk, .junk, .junk, .junk, .junk, .junk, .junk, .junk, .junk, .junk, .junk, .junk, .junk, .junk, .junk, .junk, .junk, .junk, .junk, .junk, .junk, .junk, .junk, .junk, .junk], [some (.box 27 (.agg [.imm (.string (bs a0.p0)), .imm (.string (bs a0.p1)), .sl 3 false (List.map eT26 a0.p2)]) false), none, some (.box 27 (.agg [.imm (.string (bs v4.1.p0)), .imm (.string (bs v4.1.p1)), .sl 3 false (List.map eT26 v4.1.p2)]) false)]⟩
def F4_L1 : Nat → (List UInt8) → ((N26) × (Bool)) → ((List UInt8) × (Bool)) → (List (N26)) → (N26) → (Int) → (Int) → Option (Bool)
  | 0, _, _, _, _, _, _, _ => none
  | m1 + 1, a1, v4, v5, v6, a0, x7, x8 => iteB (decide (x8 < (a0.p2.length : Int))) (grd (0 ≤ x8 ∧ x8 < (a0.p2.length : Int)) (iteB (!(((a0.p2.getD x8.toNat default).p0) == a1)) (F4_L1 m1 a1 v4 v5 v6 a0 x7 (IntKind.wrap .i64 (x8 + (1 : Int)))) (grd (0 ≤ x8 ∧ x8 < (a0.p2.length : Int)) (iteB (x7 == (0 : Int)) (iteB (!v4.2) (some false) (iteB (!(v4.1.p1 == ((a0.p2.getD x8.toNat default).p1))) (some false) (iteB ((v4.1.p2.length : Int) != (((a0.p2.getD x8.toNat default).p2).length : Int)) (some false) (iteB (!(v5.2 == ((((a0.p2.getD x8.toNat default).p2).length : Int) == (0 : Int)))) (some false) (iteB v5.2 (iteB (!(v5.1 == ((a0.p2.getD x8.toNat default).p1))) (some false) (iteB (decide ((v6.length : Int) ≤ x7)) (some false) (grd (0 ≤ x7 ∧ x7 < (v6.length : Int)) (iteB (!(((v6.getD x7.toNat default).p0) == a1)) (some false) (grd (0 ≤ x7 ∧ x7 < (v6.length : Int)) (iteB (!(((v6.getD x7.toNat default).p1) == ((a0.p2.getD x8.toNat default).p1))) (some false) (grd (0 ≤ x7 ∧ x7 < (v6.length : Int)) (iteB ((((v6.getD x7.toNat default).p2).length : Int) != (((a0.p2.getD x8.toNat default).p2).length : Int)) (some false) (F4_L1 m1 a1 v4 v5 v6 a0 (IntKind.wrap .i64 (x7 + (1 : Int))) (IntKind.wrap .i64 (x8 + (1 : Int)))))))))))) (iteB (decide ((v6.length : Int) ≤ x7)) (some false) (grd (0 ≤ x7 ∧ x7 < (v6.length : Int)) (iteB (!(((v6.getD x7.toNat default).p0) == a1)) (some false) (grd (0 ≤ x7 ∧ x7 < (v6.length : Int)) (iteB (!(((v6.getD x7.toNat default).p1) == ((a0.p2.getD x8.toNat default).p1))) (some false) (grd (0 ≤ x7 ∧ x7 < (v6.length : Int)) (iteB ((((v6.getD x7.toNat default).p2).length : Int) != (((a0.p2.getD x8.toNat default).p2).length : Int)) (some false) (F4_L1 m1 a1 v4 v5 v6 a0 (IntKind.wrap .i64 (x7 + (1 : Int))) (IntKind.wrap .i64 (x8 + (1 : Int)))))))))))))))) (iteB (decide ((v6.length : Int) ≤ x7)) (some false) (grd (0 ≤ x7 ∧ x7 < (v6.length : Int)) (iteB (!(((v6.getD x7.toNat default).p0) == a1)) (some false) (grd (0 ≤ x7 ∧ x7 < (v6.length : Int)) (iteB (!(((v6.getD x7.toNat default).p1) == ((a0.p2.getD x8.toNat default).p1))) (some false) (grd (0 ≤ x7 ∧ x7 < (v6.length : Int)) (iteB ((((v6.getD x7.toNat default).p2).length : Int) != (((a0.p2.getD x8.toNat default).p2).length : Int)) (some false) (F4_L1 m1 a1 v4 v5 v6 a0 (IntKind.wrap .i64 (x7 + (1 : Int))) (IntKind.wrap .i64 (x8 + (1 : Int))))))))))))))) ((F19 m1 (N26.mk [] [] ([(N26.mk ([97] : List UInt8) ([98] : List UInt8) [])])) ([97] : List UInt8)).bind fun v41 => iteB (x7 == (v6.length : Int)) (iteB (v4.2 == (decide ((0 : Int) < x7))) (iteB v4.2 (iteB (v41.1 == ([98] : List UInt8)) (some v41.2) (some false)) (iteB (!v5.2) (iteB (v41.1 == ([98] : List UInt8)) (some v41.2) (some false)) (some false))) (some false)) (some false))
def F4 (n : Nat) (a0 : N26) (a1 : List UInt8) : Option (Bool) := (F17 n a0 (0 : Int)).bind fun v1 => iteB (decide ((3000 : Int) ≤ v1.2)) (some true) (iteB (decide ((100 : Int) < (a1.length : Int))) (some true) ((F18 n a0 a1).bind fun v4 => (F19 n a0 a1).bind fun v5 => (F20 n a0 a1).bind fun v6 => F4_L1 n a1 v4 v5 v6 a0 (0 : Int) (0 : Int)))
set_option maxHeartbeats 4000000 in
theorem F4_ok : ∀ (n : Nat) (a0 : N26) (a1 : List UInt8) (r : Bool), F4 n a0 a1 = some r → FnC Try.prog 4 [.agg [.imm (.string (bs a0.p0)), .imm (.string (bs a0.p1)), .sl 3 false (List.map eT26 a0.p2)], .imm (.string (bs a1))] (.imm (.bool r))
  | n, a0, a1, r, h => by
    unfold F4 at h
    refine FnC.goX mixed Try.func4 (by kernel_rfl) rfl ?_
    simp only [Try.ntmps4, List.length_cons, List.length_nil, List.replicate, List.cons_append, List.nil_append, Nat.reduceAdd, Nat.reduceSub]
    refine runX_seq ?_
    refine runX_regionC fun C hC => ?_
    try simp -implicitDefEqProofs (maxSteps := 4000000) (disch := first | omega | decide | (simp only [go_sem]; omega)) only [go_sem, ↓reduceIte]
    repeat (with_reducible refine And.intro (by first | assumption | omega | (simp; done) | (simp; omega)) ?_)
    refine toEnd hC ?_
    refine endX_seq ?_
    refine runX_seq ?_
    refine runX_regionC fun C hC => ?_
    obtain ⟨v1, h1, h⟩ := bnd_some h
    try simp -implicitDefEqProofs (maxSteps := 4000000) (disch := first | omega | decide | (simp only [go_sem]; omega)) only [go_sem, ↓reduceIte]
    repeat (with_reducible refine And.intro (by first | assumption | omega | (simp; done) | (simp; omega)) ?_)
    refine callG_X (by first | rfl | (simp only [go_sem]; done) | (simp only [closedL, closedT, Bool.and_true]; exact closedL_map _ (fun _ => by first | rfl | (simp only [go_sem]; done)) _)) (F17_ok n a0 (0 : Int) _ h1) (by repeat (first | exact leL_refl _ | refine leL_cons (by first | exact leT_refl _ | exact leT_virt | exact leT_junk _ | exact leT_sl | exact leT_sln | exact leT_nil | (refine leT_agg (by repeat (first | exact leL_refl _ | refine leL_cons (by first | exact leT_refl _ | exact leT_sl | exact leT_sln | exact leT_nil) ?_)))) ?_)) ?_
    try simp -implicitDefEqProofs (maxSteps := 4000000) (disch := first | omega | decide | (simp only [go_sem]; omega)) only [go_sem, ↓reduceIte]
    repeat (with_reducible refine And.intro (by first | assumption | omega | (simp; done) | (simp; omega)) ?_)
    refine toEnd hC ?_
    refine endX_seq ?_
    refine runX_seq ?_
    refine runX_seq ?_
    refine runX_regionC fun C hC => ?_
    try simp -implicitDefEqProofs (maxSteps := 4000000) (disch := first | omega | decide | (simp only [go_sem]; omega)) only [go_sem, ↓reduceIte]
    repeat (with_reducible refine And.intro (by first | assumption | omega | (simp; done) | (simp; omega)) ?_)
    rcases iteB_some h with ⟨c2, h⟩ | ⟨c2, h⟩
    · refine guardK_F c2 ?_
      try simp -implicitDefEqProofs (maxSteps := 4000000) (disch := first | omega | decide | (simp only [go_sem]; omega)) only [go_sem, ↓reduceIte]
      repeat (with_reducible refine And.intro (by first | assumption | omega | (simp; done) | (simp; omega)) ?_)
      refine toEnd hC ?_
      refine endX_seq ?_
      refine runX_condT rfl rfl ?_
      refine runX_seq ?_
      refine runX_regionC fun C hC => ?_
      try simp -implicitDefEqProofs (maxSteps := 4000000) (disch := first | omega | decide | (simp only [go_sem]; omega)) only [go_sem, ↓reduceIte]
      repeat (with_reducible refine And.intro (by first | assumption | omega | (simp; done) | (simp; omega)) ?_)
      refine toEnd hC ?_
      refine endX_seq ?_
      refine runX_ret ?_
      refine endX_seqR ?_
      refine endX_q ?_
      obtain rfl := Option.some.inj h
      show RetW _ _ _ _ _
      simp only [RetW]
      (try simp -implicitDefEqProofs (maxSteps := 4000000) (disch := first | omega | decide | (simp only [go_sem]; omega)) only [go_sem, ↓reduceIte])
      (try simp (disch := omega) only [if_pos, Nat.sub_zero])
      exact leT_refl _
    · refine guardK_T c2 ?_
      try simp -implicitDefEqProofs (maxSteps := 4000000) (disch := first | omega | decide | (simp only [go_sem]; omega)) only [go_sem, ↓reduceIte]
      repeat (with_reducible refine And.intro (by first | assumption | omega | (simp; done) | (simp; omega)) ?_)
      refine toEnd hC ?_
      refine endX_seq ?_
      rcases iteB_some h with ⟨c3, h⟩ | ⟨c3, h⟩
      · refine runX_condT rfl c3 ?_
        refine runX_seq ?_
        refine runX_regionC fun C hC => ?_
        try simp -implicitDefEqProofs (maxSteps := 4000000) (disch := first | omega | decide | (simp only [go_sem]; omega)) only [go_sem, ↓reduceIte]
        repeat (with_reducible refine And.intro (by first | assumption | omega | (simp; done) | (simp; omega)) ?_)
        refine toEnd hC ?_
        refine endX_seq ?_
        refine runX_ret ?_
        refine endX_seqR ?_
        refine endX_q ?_
        obtain rfl := Option.some.inj h
        show RetW _ _ _ _ _
        simp only [RetW]
        (try simp -implicitDefEqProofs (maxSteps := 4000000) (disch := first | omega | decide | (simp only [go_sem]; omega)) only [go_sem, ↓reduceIte])
        (try simp (disch := omega) only [if_pos, Nat.sub_zero])
        exact leT_refl _
      · refine runX_condF rfl c3 ?_
        refine runX_skip ?_
        refine endX_seq ?_
        refine runX_seq ?_
        refine runX_regionC fun C hC => ?_
        obtain ⟨v4, h4, h⟩ := bnd_some h
        try simp -implicitDefEqProofs (maxSteps := 4000000) (disch := first | omega | decide | (simp only [go_sem]; omega)) only [go_sem, ↓reduceIte]
        repeat (with_reducible refine And.intro (by first | assumption | omega | (simp; done) | (simp; omega)) ?_)
        refine callG_X (by first | rfl | (simp only [go_sem]; done) | (simp only [closedL, closedT, Bool.and_true]; exact closedL_map _ (fun _ => by first | rfl | (simp only [go_sem]; done)) _)) (F18_ok n a0 a1 _ h4) (by repeat (first | exact leL_refl _ | refine leL_cons (by first | exact leT_refl _ | exact leT_virt | exact leT_junk _ | exact leT_sl | exact leT_sln | exact leT_nil | (refine leT_agg (by repeat (first | exact leL_refl _ | refine leL_cons (by first | exact leT_refl _ | exact leT_sl | exact leT_sln | exact leT_nil) ?_)))) ?_)) ?_
        try simp -implicitDefEqProofs (maxSteps := 4000000) (disch := first | omega | decide | (simp only [go_sem]; omega)) only [go_sem, ↓reduceIte]
        repeat (with_reducible refine And.intro (by first | assumption | omega | (simp; done) | (simp; omega)) ?_)
        refine toEnd hC ?_
        refine endX_seq ?_
        refine runX_seq ?_
        refine runX_regionC fun C hC => ?_
        obtain ⟨v5, h5, h⟩ := bnd_some h
        try simp -implicitDefEqProofs (maxSteps := 4000000) (disch := first | omega | decide | (simp only [go_sem]; omega)) only [go_sem, ↓reduceIte]
        repeat (with_reducible refine And.intro (by first | assumption | omega | (simp; done) | (simp; omega)) ?_)
        refine callG_X (by first | rfl | (simp only [go_sem]; done) | (simp only [closedL, closedT, Bool.and_true]; exact closedL_map _ (fun _ => by first | rfl | (simp only [go_sem]; done)) _)) (F19_ok n a0 a1 _ h5) (by repeat (first | exact leL_refl _ | refine leL_cons (by first | exact leT_refl _ | exact leT_virt | exact leT_junk _ | exact leT_sl | exact leT_sln | exact leT_nil | (refine leT_agg (by repeat (first | exact leL_refl _ | refine leL_cons (by first | exact leT_refl _ | exact leT_sl | exact leT_sln | exact leT_nil) ?_)))) ?_)) ?_
        try simp -implicitDefEqProofs (maxSteps := 4000000) (disch := first | omega | decide | (simp only [go_sem]; omega)) only [go_sem, ↓reduceIte]
        repeat (with_reducible refine And.intro (by first | assumption | omega | (simp; done) | (simp; omega)) ?_)
        refine toEnd hC ?_
        refine endX_seq ?_
        refine runX_seq ?_
        refine runX_regionC fun C hC => ?_
        obtain ⟨v6, h6, h⟩ := bnd_some h
        try simp -implicitDefEqProofs (maxSteps := 4000000) (disch := first | omega | decide | (simp only [go_sem]; omega)) only [go_sem, ↓reduceIte]
        repeat (with_reducible refine And.intro (by first | assumption | omega | (simp; done) | (simp; omega)) ?_)
        refine callG_X (by first | rfl | (simp only [go_sem]; done) | (simp only [closedL, closedT, Bool.and_true]; exact closedL_map _ (fun _ => by first | rfl | (simp only [go_sem]; done)) _)) (F20_ok n a0 a1 _ h6) (by repeat (first | exact leL_refl _ | refine leL_cons (by first | exact leT_refl _ | exact leT_virt | exact leT_junk _ | exact leT_sl | exact leT_sln | exact leT_nil | (refine leT_agg (by repeat (first | exact leL_refl _ | refine leL_cons (by first | exact leT_refl _ | exact leT_sl | exact leT_sln | exact leT_nil) ?_)))) ?_)) ?_
        try simp -implicitDefEqProofs (maxSteps := 4000000) (disch := first | omega | decide | (simp only [go_sem]; omega)) only [go_sem, ↓reduceIte]
        repeat (with_reducible refine And.intro (by first | assumption | omega | (simp; done) | (simp; omega)) ?_)
        refine toEnd hC ?_
        refine endX_seq ?_
        refine runX_seq ?_
        refine runX_regionC fun C hC => ?_
        try simp -implicitDefEqProofs (maxSteps := 4000000) (disch := first | omega | decide | (simp only [go_sem]; omega)) only [go_sem, ↓reduceIte]
        repeat (with_reducible refine And.intro (by first | assumption | omega | (simp; done) | (simp; omega)) ?_)
        refine toEnd hC ?_
        refine endX_seq ?_
        refine runX_seq ?_
        refine runX_seq ?_
        refine runX_regionC fun C hC => ?_
        try simp -implicitDefEqProofs (maxSteps := 4000000) (disch := first | omega | decide | (simp only [go_sem]; omega)) only [go_sem, ↓reduceIte]
        repeat (with_reducible refine And.intro (by first | assumption | omega | (simp; done) | (simp; omega)) ?_)
        refine toEnd hC ?_
        refine endX_seq ?_
        refine runX_block ?_
        refine runX_loop [1, 2, 7, 8, 9, 10, 11, 12, 13] (fun m S => ∃ (x7 : Int) (x8 : Int), S = F4_S1 a1 v4 v5 v6 a0 x7 x8 ∧ m ≤ n ∧ F4_L1 m a1 v4 v5 v6 a0 x7 x8 = some r) n ⟨F4_S1 a1 v4 v5 v6 a0 (0 : Int) (0 : Int), ?_, (0 : Int), (0 : Int), rfl, Nat.le_refl _, h⟩ ?_
        · simp only [F4_S1]
          (try simp -implicitDefEqProofs (maxSteps := 4000000) (disch := first | omega | decide | (simp only [go_sem]; omega)) only [go_sem, ↓reduceIte])
          first | exact leS_refl _ | (refine leS_le ?_ ?_ <;> first | exact leL_refl _ | exact leOs_refl _ | (repeat (first | exact leL_refl _ | refine leL_cons (by first | exact leT_refl _ | exact leT_virt | exact leT_junk _ | exact leT_sl | exact leT_sln | exact leT_nil | (refine leT_agg (by repeat (first | exact leL_refl _ | refine leL_cons (by first | exact leT_refl _ | exact leT_sl | exact leT_sln | exact leT_nil) ?_)))) ?_)))
        · clear h
          rintro m1 S ⟨x7, x8, rfl, hm1, h⟩
          cases m1 with
          | zero => first | cases (show (none : Option _) = some _ from h) | (rw [F4_L1] at h; cases h)
          | succ m1 =>
            rw [F4_L1] at h
            simp only [F4_S1]
            refine runX_seq ?_
            refine runX_seq ?_
            refine runX_regionC fun C hC => ?_
            try simp -implicitDefEqProofs (maxSteps := 4000000) (disch := first | omega | decide | (simp only [go_sem]; omega)) only [go_sem, ↓reduceIte]
            repeat (with_reducible refine And.intro (by first | assumption | omega | (simp; done) | (simp; omega)) ?_)
            refine toEnd hC ?_
            refine endX_seq ?_
            rcases iteB_some h with ⟨c9, h⟩ | ⟨c9, h⟩
            · refine runX_condT rfl c9 ?_
              refine runX_skip ?_
              refine endX_seq ?_
              refine runX_seq ?_
              refine runX_block ?_
              refine runX_seq ?_
              refine runX_seq ?_
              refine runX_regionC fun C hC => ?_
              obtain ⟨g10, h⟩ := grd_some h
              try simp -implicitDefEqProofs (maxSteps := 4000000) (disch := first | omega | decide | (simp only [go_sem]; omega)) only [go_sem, ↓reduceIte]
              repeat (with_reducible refine And.intro (by first | assumption | omega | (simp; done) | (simp; omega)) ?_)
              refine toEnd hC ?_
              refine endX_seq ?_
              rcases iteB_some h with ⟨c11, h⟩ | ⟨c11, h⟩
              · refine runX_condT rfl c11 ?_
                refine runX_exit ?_
                refine endX_seqE ?_
                refine endX_blkE ?_
                refine endX_seq ?_
                refine runX_regionC fun C hC => ?_
                try simp -implicitDefEqProofs (maxSteps := 4000000) (disch := first | omega | decide | (simp only [go_sem]; omega)) only [go_sem, ↓reduceIte]
                repeat (with_reducible refine And.intro (by first | assumption | omega | (simp; done) | (simp; omega)) ?_)
                refine toEnd hC ?_
                refine endX_q (roundQ_normal ⟨m1, by omega, F4_S1 a1 v4 v5 v6 a0 x7 (IntKind.wrap .i64 (x8 + (1 : Int))), ?_, x7, (IntKind.wrap .i64 (x8 + (1 : Int))), rfl, by omega, h⟩)
                simp only [F4_S1]
                (try simp -implicitDefEqProofs (maxSteps := 4000000) (disch := first | omega | decide | (simp only [go_sem]; omega)) only [go_sem, ↓reduceIte])
                first | exact leS_refl _ | (refine leS_le ?_ ?_ <;> first | exact leL_refl _ | exact leOs_refl _ | (repeat (first | exact leL_refl _ | refine leL_cons (by first | exact leT_refl _ | exact leT_virt | exact leT_junk _ | exact leT_sl | exact leT_sln | exact leT_nil | (refine leT_agg (by repeat (first | exact leL_refl _ | refine leL_cons (by first | exact leT_refl _ | exact leT_sl | exact leT_sln | exact leT_nil) ?_)))) ?_)))
              · refine runX_condF rfl c11 ?_
                refine runX_skip ?_
                refine endX_seq ?_
                refine runX_seq ?_
                refine runX_regionC fun C hC => ?_
                obtain ⟨g12, h⟩ := grd_some h
                try simp -implicitDefEqProofs (maxSteps := 4000000) (disch := first | omega | decide | (simp only [go_sem]; omega)) only [go_sem, ↓reduceIte]
                repeat (with_reducible refine And.intro (by first | assumption | omega | (simp; done) | (simp; omega)) ?_)
                refine toEnd hC ?_
                refine endX_seq ?_
                refine runX_seq ?_
                refine runX_seq ?_
                refine runX_regionC fun C hC => ?_
                try simp -implicitDefEqProofs (maxSteps := 4000000) (disch := first | omega | decide | (simp only [go_sem]; omega)) only [go_sem, ↓reduceIte]
                repeat (with_reducible refine And.intro (by first | assumption | omega | (simp; done) | (simp; omega)) ?_)
                rcases iteB_some h with ⟨c13, h⟩ | ⟨c13, h⟩
                · refine guardK_T c13 ?_
                  try simp -implicitDefEqProofs (maxSteps := 4000000) (disch := first | omega | decide | (simp only [go_sem]; omega)) only [go_sem, ↓reduceIte]
                  repeat (with_reducible refine And.intro (by first | assumption | omega | (simp; done) | (simp; omega)) ?_)
                  rcases iteB_some h with ⟨c14, h⟩ | ⟨c14, h⟩
                  · refine guardK_F c14 ?_
                    try simp -implicitDefEqProofs (maxSteps := 4000000) (disch := first | omega | decide | (simp only [go_sem]; omega)) only [go_sem, ↓reduceIte]
                    repeat (with_reducible refine And.intro (by first | assumption | omega | (simp; done) | (simp; omega)) ?_)
                    refine toEnd hC ?_
                    refine endX_seq ?_
                    refine runX_condT rfl rfl ?_
                    refine runX_seq ?_
                    refine runX_regionC fun C hC => ?_
                    try simp -implicitDefEqProofs (maxSteps := 4000000) (disch := first | omega | decide | (simp only [go_sem]; omega)) only [go_sem, ↓reduceIte]
                    repeat (with_reducible refine And.intro (by first | assumption | omega | (simp; done) | (simp; omega)) ?_)
                    refine toEnd hC ?_
                    refine endX_seq ?_
                    refine runX_ret ?_
                    refine endX_seqR ?_
                    refine endX_blkR ?_
                    refine endX_seqR ?_
                    refine endX_q (roundQ_ret ?_)
                    refine endX_blkR ?_
                    refine endX_seqR ?_
                    refine endX_q ?_
                    obtain rfl := Option.some.inj h
                    show RetW _ _ _ _ _
                    simp only [RetW]
                    (try simp -implicitDefEqProofs (maxSteps := 4000000) (disch := first | omega | decide | (simp only [go_sem]; omega)) only [go_sem, ↓reduceIte])
                    (try simp (disch := omega) only [if_pos, Nat.sub_zero])
                    exact leT_refl _
                  · refine guardK_T c14 ?_
                    try simp -implicitDefEqProofs (maxSteps := 4000000) (disch := first | omega | decide | (simp only [go_sem]; omega)) only [go_sem, ↓reduceIte]
                    repeat (with_reducible refine And.intro (by first | assumption | omega | (simp; done) | (simp; omega)) ?_)
                    rcases iteB_some h with ⟨c15, h⟩ | ⟨c15, h⟩
                    · refine guardK_F c15 ?_
                      try simp -implicitDefEqProofs (maxSteps := 4000000) (disch := first | omega | decide | (simp only [go_sem]; omega)) only [go_sem, ↓reduceIte]
                      repeat (with_reducible refine And.intro (by first | assumption | omega | (simp; done) | (simp; omega)) ?_)
                      refine toEnd hC ?_
                      refine endX_seq ?_
                      refine runX_condT rfl rfl ?_
                      refine runX_seq ?_
                      refine runX_regionC fun C hC => ?_
                      try simp -implicitDefEqProofs (maxSteps := 4000000) (disch := first | omega | decide | (simp only [go_sem]; omega)) only [go_sem, ↓reduceIte]
                      repeat (with_reducible refine And.intro (by first | assumption | omega | (simp; done) | (simp; omega)) ?_)
                      refine toEnd hC ?_
                      refine endX_seq ?_
                      refine runX_ret ?_
                      refine endX_seqR ?_
                      refine endX_blkR ?_
                      refine endX_seqR ?_
                      refine endX_q (roundQ_ret ?_)
                      refine endX_blkR ?_
                      refine endX_seqR ?_
                      refine endX_q ?_
                      obtain rfl := Option.some.inj h
                      show RetW _ _ _ _ _
                      simp only [RetW]
                      (try simp -implicitDefEqProofs (maxSteps := 4000000) (disch := first | omega | decide | (simp only [go_sem]; omega)) only [go_sem, ↓reduceIte])
                      (try simp (disch := omega) only [if_pos, Nat.sub_zero])
                      exact leT_refl _
                    · refine guardK_T c15 ?_
                      try simp -implicitDefEqProofs (maxSteps := 4000000) (disch := first | omega | decide | (simp only [go_sem]; omega)) only [go_sem, ↓reduceIte]
                      repeat (with_reducible refine And.intro (by first | assumption | omega | (simp; done) | (simp; omega)) ?_)
                      rcases iteB_some h with ⟨c16, h⟩ | ⟨c16, h⟩
                      · refine guardK_F c16 ?_
                        try simp -implicitDefEqProofs (maxSteps := 4000000) (disch := first | omega | decide | (simp only [go_sem]; omega)) only [go_sem, ↓reduceIte]
                        repeat (with_reducible refine And.intro (by first | assumption | omega | (simp; done) | (simp; omega)) ?_)
                        refine toEnd hC ?_
                        refine endX_seq ?_
                        refine runX_condT rfl rfl ?_
                        refine runX_seq ?_
                        refine runX_regionC fun C hC => ?_
                        try simp -implicitDefEqProofs (maxSteps := 4000000) (disch := first | omega | decide | (simp only [go_sem]; omega)) only [go_sem, ↓reduceIte]
                        repeat (with_reducible refine And.intro (by first | assumption | omega | (simp; done) | (simp; omega)) ?_)
                        refine toEnd hC ?_
                        refine endX_seq ?_
                        refine runX_ret ?_
                        refine endX_seqR ?_
                        refine endX_blkR ?_
                        refine endX_seqR ?_
                        refine endX_q (roundQ_ret ?_)
                        refine endX_blkR ?_
                        refine endX_seqR ?_
                        refine endX_q ?_
                        obtain rfl := Option.some.inj h
                        show RetW _ _ _ _ _
                        simp only [RetW]
                        (try simp -implicitDefEqProofs (maxSteps := 4000000) (disch := first | omega | decide | (simp only [go_sem]; omega)) only [go_sem, ↓reduceIte])
                        (try simp (disch := omega) only [if_pos, Nat.sub_zero])
                        exact leT_refl _
                      · refine guardK_T c16 ?_
                        try simp -implicitDefEqProofs (maxSteps := 4000000) (disch := first | omega | decide | (simp only [go_sem]; omega)) only [go_sem, ↓reduceIte]
                        repeat (with_reducible refine And.intro (by first | assumption | omega | (simp; done) | (simp; omega)) ?_)
                        rcases iteB_some h with ⟨c17, h⟩ | ⟨c17, h⟩
                        · refine guardK_F c17 ?_
                          try simp -implicitDefEqProofs (maxSteps := 4000000) (disch := first | omega | decide | (simp only [go_sem]; omega)) only [go_sem, ↓reduceIte]
                          repeat (with_reducible refine And.intro (by first | assumption | omega | (simp; done) | (simp; omega)) ?_)
                          refine toEnd hC ?_
                          refine endX_seq ?_
                          refine runX_condT rfl rfl ?_
                          refine runX_seq ?_
                          refine runX_regionC fun C hC => ?_
                          try simp -implicitDefEqProofs (maxSteps := 4000000) (disch := first | omega | decide | (simp only [go_sem]; omega)) only [go_sem, ↓reduceIte]
                          repeat (with_reducible refine And.intro (by first | assumption | omega | (simp; done) | (simp; omega)) ?_)
                          refine toEnd hC ?_
                          refine endX_seq ?_
                          refine runX_ret ?_
                          refine endX_seqR ?_
                          refine endX_blkR ?_
                          refine endX_seqR ?_
                          refine endX_q (roundQ_ret ?_)
                          refine endX_blkR ?_
                          refine endX_seqR ?_
                          refine endX_q ?_
                          obtain rfl := Option.some.inj h
                          show RetW _ _ _ _ _
                          simp only [RetW]
                          (try simp -implicitDefEqProofs (maxSteps := 4000000) (disch := first | omega | decide | (simp only [go_sem]; omega)) only [go_sem, ↓reduceIte])
                          (try simp (disch := omega) only [if_pos, Nat.sub_zero])
                          exact leT_refl _
                        · refine guardK_T c17 ?_
                          try simp -implicitDefEqProofs (maxSteps := 4000000) (disch := first | omega | decide | (simp only [go_sem]; omega)) only [go_sem, ↓reduceIte]
                          repeat (with_reducible refine And.intro (by first | assumption | omega | (simp; done) | (simp; omega)) ?_)
                          rcases iteB_some h with ⟨c18, h⟩ | ⟨c18, h⟩
                          · refine guardK_T c18 ?_
                            try simp -implicitDefEqProofs (maxSteps := 4000000) (disch := first | omega | decide | (simp only [go_sem]; omega)) only [go_sem, ↓reduceIte]
                            repeat (with_reducible refine And.intro (by first | assumption | omega | (simp; done) | (simp; omega)) ?_)
                            refine toEnd hC ?_
                            refine endX_seq ?_
                            rcases iteB_some h with ⟨c19, h⟩ | ⟨c19, h⟩
                            · refine runX_condT rfl c19 ?_
                              refine runX_seq ?_
                              refine runX_regionC fun C hC => ?_
                              try simp -implicitDefEqProofs (maxSteps := 4000000) (disch := first | omega | decide | (simp only [go_sem]; omega)) only [go_sem, ↓reduceIte]
                              repeat (with_reducible refine And.intro (by first | assumption | omega | (simp; done) | (simp; omega)) ?_)
                              refine toEnd hC ?_
                              refine endX_seq ?_
                              refine runX_ret ?_
                              refine endX_seqR ?_
                              refine endX_blkR ?_
                              refine endX_seqR ?_
                              refine endX_q (roundQ_ret ?_)
                              refine endX_blkR ?_
                              refine endX_seqR ?_
                              refine endX_q ?_
                              obtain rfl := Option.some.inj h
                              show RetW _ _ _ _ _
                              simp only [RetW]
                              (try simp -implicitDefEqProofs (maxSteps := 4000000) (disch := first | omega | decide | (simp only [go_sem]; omega)) only [go_sem, ↓reduceIte])
                              (try simp (disch := omega) only [if_pos, Nat.sub_zero])
                              exact leT_refl _
                            · refine runX_condF rfl c19 ?_
                              refine runX_skip ?_
                              refine endX_seq ?_
                              refine runX_seq ?_
                              refine runX_seq ?_
                              refine runX_drawC mixed (by kernel_rfl) fun C hC => ?_
                              try simp -implicitDefEqProofs (maxSteps := 4000000) (disch := first | omega | decide | (simp only [go_sem]; omega)) only [go_sem, ↓reduceIte]
                              repeat (with_reducible refine And.intro (by first | assumption | omega | (simp; done) | (simp; omega)) ?_)
                              rcases iteB_some h with ⟨c20, h⟩ | ⟨c20, h⟩
                              · refine guardD_F c20 ?_
                                try simp -implicitDefEqProofs (maxSteps := 4000000) (disch := first | omega | decide | (simp only [go_sem]; omega)) only [go_sem, ↓reduceIte]
                                repeat (with_reducible refine And.intro (by first | assumption | omega | (simp; done) | (simp; omega)) ?_)
                                refine toEnd hC ?_
                                refine endX_seq ?_
                                refine runX_condT rfl rfl ?_
                                refine runX_seq ?_
                                refine runX_regionC fun C hC => ?_
                                try simp -implicitDefEqProofs (maxSteps := 4000000) (disch := first | omega | decide | (simp only [go_sem]; omega)) only [go_sem, ↓reduceIte]
                                repeat (with_reducible refine And.intro (by first | assumption | omega | (simp; done) | (simp; omega)) ?_)
                                refine toEnd hC ?_
                                refine endX_seq ?_
                                refine runX_ret ?_
                                refine endX_seqR ?_
                                refine endX_blkR ?_
                                refine endX_seqR ?_
                                refine endX_q (roundQ_ret ?_)
                                refine endX_blkR ?_
                                refine endX_seqR ?_
                                refine endX_q ?_
                                obtain rfl := Option.some.inj h
                                show RetW _ _ _ _ _
                                simp only [RetW]
                                (try simp -implicitDefEqProofs (maxSteps := 4000000) (disch := first | omega | decide | (simp only [go_sem]; omega)) only [go_sem, ↓reduceIte])
                                (try simp (disch := omega) only [if_pos, Nat.sub_zero])
                                exact leT_refl _
                              · refine guardD_T c20 ?_
                                obtain ⟨g21, h⟩ := grd_some h
                                try simp -implicitDefEqProofs (maxSteps := 4000000) (disch := first | omega | decide | (simp only [go_sem]; omega)) only [go_sem, ↓reduceIte]
                                repeat (with_reducible refine And.intro (by first | assumption | omega | (simp; done) | (simp; omega)) ?_)
                                rcases iteB_some h with ⟨c22, h⟩ | ⟨c22, h⟩
                                · refine guardD_F c22 ?_
                                  try simp -implicitDefEqProofs (maxSteps := 4000000) (disch := first | omega | decide | (simp only [go_sem]; omega)) only [go_sem, ↓reduceIte]
                                  repeat (with_reducible refine And.intro (by first | assumption | omega | (simp; done) | (simp; omega)) ?_)
                                  refine toEnd hC ?_
                                  refine endX_seq ?_
                                  refine runX_condT rfl rfl ?_
                                  refine runX_seq ?_
                                  refine runX_regionC fun C hC => ?_
                                  try simp -implicitDefEqProofs (maxSteps := 4000000) (disch := first | omega | decide | (simp only [go_sem]; omega)) only [go_sem, ↓reduceIte]
                                  repeat (with_reducible refine And.intro (by first | assumption | omega | (simp; done) | (simp; omega)) ?_)
                                  refine toEnd hC ?_
                                  refine endX_seq ?_
                                  refine runX_ret ?_
                                  refine endX_seqR ?_
                                  refine endX_blkR ?_
                                  refine endX_seqR ?_
                                  refine endX_q (roundQ_ret ?_)
                                  refine endX_blkR ?_
                                  refine endX_seqR ?_
                                  refine endX_q ?_
                                  obtain rfl := Option.some.inj h
                                  show RetW _ _ _ _ _
                                  simp only [RetW]
                                  (try simp -implicitDefEqProofs (maxSteps := 4000000) (disch := first | omega | decide | (simp only [go_sem]; omega)) only [go_sem, ↓reduceIte])
                                  (try simp (disch := omega) only [if_pos, Nat.sub_zero])
                                  exact leT_refl _
                                · refine guardD_T c22 ?_
                                  obtain ⟨g23, h⟩ := grd_some h
                                  try simp -implicitDefEqProofs (maxSteps := 4000000) (disch := first | omega | decide | (simp only [go_sem]; omega)) only [go_sem, ↓reduceIte]
                                  repeat (with_reducible refine And.intro (by first | assumption | omega | (simp; done) | (simp; omega)) ?_)
                                  rcases iteB_some h with ⟨c24, h⟩ | ⟨c24, h⟩
                                  · refine guardD_F c24 ?_
                                    try simp -implicitDefEqProofs (maxSteps := 4000000) (disch := first | omega | decide | (simp only [go_sem]; omega)) only [go_sem, ↓reduceIte]
                                    repeat (with_reducible refine And.intro (by first | assumption | omega | (simp; done) | (simp; omega)) ?_)
                                    refine toEnd hC ?_
                                    refine endX_seq ?_
                                    refine runX_condT rfl rfl ?_
                                    refine runX_seq ?_
                                    refine runX_regionC fun C hC => ?_
                                    try simp -implicitDefEqProofs (maxSteps := 4000000) (disch := first | omega | decide | (simp only [go_sem]; omega)) only [go_sem, ↓reduceIte]
                                    repeat (with_reducible refine And.intro (by first | assumption | omega | (simp; done) | (simp; omega)) ?_)
                                    refine toEnd hC ?_
                                    refine endX_seq ?_
                                    refine runX_ret ?_
                                    refine endX_seqR ?_
                                    refine endX_blkR ?_
                                    refine endX_seqR ?_
                                    refine endX_q (roundQ_ret ?_)
                                    refine endX_blkR ?_
                                    refine endX_seqR ?_
                                    refine endX_q ?_
                                    obtain rfl := Option.some.inj h
                                    show RetW _ _ _ _ _
                                    simp only [RetW]
                                    (try simp -implicitDefEqProofs (maxSteps := 4000000) (disch := first | omega | decide | (simp only [go_sem]; omega)) only [go_sem, ↓reduceIte])
                                    (try simp (disch := omega) only [if_pos, Nat.sub_zero])
                                    exact leT_refl _
                                  · refine guardD_T c24 ?_
                                    obtain ⟨g25, h⟩ := grd_some h
                                    try simp -implicitDefEqProofs (maxSteps := 4000000) (disch := first | omega | decide | (simp only [go_sem]; omega)) only [go_sem, ↓reduceIte]
                                    repeat (with_reducible refine And.intro (by first | assumption | omega | (simp; done) | (simp; omega)) ?_)
                                    refine toEnd hC ?_
                                    refine endX_seq ?_
                                    rcases iteB_some h with ⟨c26, h⟩ | ⟨c26, h⟩
                                    · refine runX_condT rfl c26 ?_
                                      refine runX_seq ?_
                                      refine runX_regionC fun C hC => ?_
                                      try simp -implicitDefEqProofs (maxSteps := 4000000) (disch := first | omega | decide | (simp only [go_sem]; omega)) only [go_sem, ↓reduceIte]
                                      repeat (with_reducible refine And.intro (by first | assumption | omega | (simp; done) | (simp; omega)) ?_)
                                      refine toEnd hC ?_
                                      refine endX_seq ?_
                                      refine runX_ret ?_
                                      refine endX_seqR ?_
                                      refine endX_blkR ?_
                                      refine endX_seqR ?_
                                      refine endX_q (roundQ_ret ?_)
                                      refine endX_blkR ?_
                                      refine endX_seqR ?_
                                      refine endX_q ?_
                                      obtain rfl := Option.some.inj h
                                      show RetW _ _ _ _ _
                                      simp only [RetW]
                                      (try simp -implicitDefEqProofs (maxSteps := 4000000) (disch := first | omega | decide | (simp only [go_sem]; omega)) only [go_sem, ↓reduceIte])
                                      (try simp (disch := omega) only [if_pos, Nat.sub_zero])
                                      exact leT_refl _
                                    · refine runX_condF rfl c26 ?_
                                      refine runX_skip ?_
                                      refine endX_seq ?_
                                      refine runX_regionC fun C hC => ?_
                                      try simp -implicitDefEqProofs (maxSteps := 4000000) (disch := first | omega | decide | (simp only [go_sem]; omega)) only [go_sem, ↓reduceIte]
                                      repeat (with_reducible refine And.intro (by first | assumption | omega | (simp; done) | (simp; omega)) ?_)
                                      refine toEnd hC ?_
                                      refine endX_blk ?_
                                      refine endX_seq ?_
                                      refine runX_regionC fun C hC => ?_
                                      try simp -implicitDefEqProofs (maxSteps := 4000000) (disch := first | omega | decide | (simp only [go_sem]; omega)) only [go_sem, ↓reduceIte]
                                      repeat (with_reducible refine And.intro (by first | assumption | omega | (simp; done) | (simp; omega)) ?_)
                                      refine toEnd hC ?_
                                      refine endX_q (roundQ_normal ⟨m1, by omega, F4_S1 a1 v4 v5 v6 a0 (IntKind.wrap .i64 (x7 + (1 : Int))) (IntKind.wrap .i64 (x8 + (1 : Int))), ?_, (IntKind.wrap .i64 (x7 + (1 : Int))), (IntKind.wrap .i64 (x8 + (1 : Int))), rfl, by omega, h⟩)
                                      simp only [F4_S1]
                                      (try simp -implicitDefEqProofs (maxSteps := 4000000) (disch := first | omega | decide | (simp only [go_sem]; omega)) only [go_sem, ↓reduceIte])
                                      first | exact leS_refl _ | (refine leS_le ?_ ?_ <;> first | exact leL_refl _ | exact leOs_refl _ | (repeat (first | exact leL_refl _ | refine leL_cons (by first | exact leT_refl _ | exact leT_virt | exact leT_junk _ | exact leT_sl | exact leT_sln | exact leT_nil | (refine leT_agg (by repeat (first | exact leL_refl _ | refine leL_cons (by first | exact leT_refl _ | exact leT_sl | exact leT_sln | exact leT_nil) ?_)))) ?_)))
                          · refine guardK_F c18 ?_
                            try simp -implicitDefEqProofs (maxSteps := 4000000) (disch := first | omega | decide | (simp only [go_sem]; omega)) only [go_sem, ↓reduceIte]
                            repeat (with_reducible refine And.intro (by first | assumption | omega | (simp; done) | (simp; omega)) ?_)
                            refine toEnd hC ?_
                            refine endX_seq ?_
                            refine runX_condF rfl rfl ?_
                            refine runX_skip ?_
                            refine endX_seq ?_
                            refine runX_seq ?_
                            refine runX_seq ?_
                            refine runX_drawC mixed (by kernel_rfl) fun C hC => ?_
                            try simp -implicitDefEqProofs (maxSteps := 4000000) (disch := first | omega | decide | (simp only [go_sem]; omega)) only [go_sem, ↓reduceIte]
                            repeat (with_reducible refine And.intro (by first | assumption | omega | (simp; done) | (simp; omega)) ?_)
                            rcases iteB_some h with ⟨c27, h⟩ | ⟨c27, h⟩
                            · refine guardD_F c27 ?_
                              try simp -implicitDefEqProofs (maxSteps := 4000000) (disch := first | omega | decide | (simp only [go_sem]; omega)) only [go_sem, ↓reduceIte]
                              repeat (with_reducible refine And.intro (by first | assumption | omega | (simp; done) | (simp; omega)) ?_)
                              refine toEnd hC ?_
                              refine endX_seq ?_
                              refine runX_condT rfl rfl ?_
                              refine runX_seq ?_
                              refine runX_regionC fun C hC => ?_
                              try simp -implicitDefEqProofs (maxSteps := 4000000) (disch := first | omega | decide | (simp only [go_sem]; omega)) only [go_sem, ↓reduceIte]
                              repeat (with_reducible refine And.intro (by first | assumption | omega | (simp; done) | (simp; omega)) ?_)
                              refine toEnd hC ?_
                              refine endX_seq ?_
                              refine runX_ret ?_
                              refine endX_seqR ?_
                              refine endX_blkR ?_
                              refine endX_seqR ?_
                              refine endX_q (roundQ_ret ?_)
                              refine endX_blkR ?_
                              refine endX_seqR ?_
                              refine endX_q ?_
                              obtain rfl := Option.some.inj h
                              show RetW _ _ _ _ _
                              simp only [RetW]
                              (try simp -implicitDefEqProofs (maxSteps := 4000000) (disch := first | omega | decide | (simp only [go_sem]; omega)) only [go_sem, ↓reduceIte])
                              (try simp (disch := omega) only [if_pos, Nat.sub_zero])
                              exact leT_refl _
                            · refine guardD_T c27 ?_
                              obtain ⟨g28, h⟩ := grd_some h
                              try simp -implicitDefEqProofs (maxSteps := 4000000) (disch := first | omega | decide | (simp only [go_sem]; omega)) only [go_sem, ↓reduceIte]
                              repeat (with_reducible refine And.intro (by first | assumption | omega | (simp; done) | (simp; omega)) ?_)
                              rcases iteB_some h with ⟨c29, h⟩ | ⟨c29, h⟩
                              · refine guardD_F c29 ?_
                                try simp -implicitDefEqProofs (maxSteps := 4000000) (disch := first | omega | decide | (simp only [go_sem]; omega)) only [go_sem, ↓reduceIte]
                                repeat (with_reducible refine And.intro (by first | assumption | omega | (simp; done) | (simp; omega)) ?_)
                                refine toEnd hC ?_
                                refine endX_seq ?_
                                refine runX_condT rfl rfl ?_
                                refine runX_seq ?_
                                refine runX_regionC fun C hC => ?_
                                try simp -implicitDefEqProofs (maxSteps := 4000000) (disch := first | omega | decide | (simp only [go_sem]; omega)) only [go_sem, ↓reduceIte]
                                repeat (with_reducible refine And.intro (by first | assumption | omega | (simp; done) | (simp; omega)) ?_)
                                refine toEnd hC ?_
                                refine endX_seq ?_
                                refine runX_ret ?_
                                refine endX_seqR ?_
                                refine endX_blkR ?_
                                refine endX_seqR ?_
                                refine endX_q (roundQ_ret ?_)
                                refine endX_blkR ?_
                                refine endX_seqR ?_
                                refine endX_q ?_
                                obtain rfl := Option.some.inj h
                                show RetW _ _ _ _ _
                                simp only [RetW]
                                (try simp -implicitDefEqProofs (maxSteps := 4000000) (disch := first | omega | decide | (simp only [go_sem]; omega)) only [go_sem, ↓reduceIte])
                                (try simp (disch := omega) only [if_pos, Nat.sub_zero])
                                exact leT_refl _
                              · refine guardD_T c29 ?_
                                obtain ⟨g30, h⟩ := grd_some h
                                try simp -implicitDefEqProofs (maxSteps := 4000000) (disch := first | omega | decide | (simp only [go_sem]; omega)) only [go_sem, ↓reduceIte]
                                repeat (with_reducible refine And.intro (by first | assumption | omega | (simp; done) | (simp; omega)) ?_)
                                rcases iteB_some h with ⟨c31, h⟩ | ⟨c31, h⟩
                                · refine guardD_F c31 ?_
                                  try simp -implicitDefEqProofs (maxSteps := 4000000) (disch := first | omega | decide | (simp only [go_sem]; omega)) only [go_sem, ↓reduceIte]
                                  repeat (with_reducible refine And.intro (by first | assumption | omega | (simp; done) | (simp; omega)) ?_)
                                  refine toEnd hC ?_
                                  refine endX_seq ?_
                                  refine runX_condT rfl rfl ?_
                                  refine runX_seq ?_
                                  refine runX_regionC fun C hC => ?_
                                  try simp -implicitDefEqProofs (maxSteps := 4000000) (disch := first | omega | decide | (simp only [go_sem]; omega)) only [go_sem, ↓reduceIte]
                                  repeat (with_reducible refine And.intro (by first | assumption | omega | (simp; done) | (simp; omega)) ?_)
                                  refine toEnd hC ?_
                                  refine endX_seq ?_
                                  refine runX_ret ?_
                                  refine endX_seqR ?_
                                  refine endX_blkR ?_
                                  refine endX_seqR ?_
                                  refine endX_q (roundQ_ret ?_)
                                  refine endX_blkR ?_
                                  refine endX_seqR ?_
                                  refine endX_q ?_
                                  obtain rfl := Option.some.inj h
                                  show RetW _ _ _ _ _
                                  simp only [RetW]
                                  (try simp -implicitDefEqProofs (maxSteps := 4000000) (disch := first | omega | decide | (simp only [go_sem]; omega)) only [go_sem, ↓reduceIte])
                                  (try simp (disch := omega) only [if_pos, Nat.sub_zero])
                                  exact leT_refl _
                                · refine guardD_T c31 ?_
                                  obtain ⟨g32, h⟩ := grd_some h
                                  try simp -implicitDefEqProofs (maxSteps := 4000000) (disch := first | omega | decide | (simp only [go_sem]; omega)) only [go_sem, ↓reduceIte]
                                  repeat (with_reducible refine And.intro (by first | assumption | omega | (simp; done) | (simp; omega)) ?_)
                                  refine toEnd hC ?_
                                  refine endX_seq ?_
                                  rcases iteB_some h with ⟨c33, h⟩ | ⟨c33, h⟩
                                  · refine runX_condT rfl c33 ?_
                                    refine runX_seq ?_
                                    refine runX_regionC fun C hC => ?_
                                    try simp -implicitDefEqProofs (maxSteps := 4000000) (disch := first | omega | decide | (simp only [go_sem]; omega)) only [go_sem, ↓reduceIte]
                                    repeat (with_reducible refine And.intro (by first | assumption | omega | (simp; done) | (simp; omega)) ?_)
                                    refine toEnd hC ?_
                                    refine endX_seq ?_
                                    refine runX_ret ?_
                                    refine endX_seqR ?_
                                    refine endX_blkR ?_
                                    refine endX_seqR ?_
                                    refine endX_q (roundQ_ret ?_)
                                    refine endX_blkR ?_
                                    refine endX_seqR ?_
                                    refine endX_q ?_
                                    obtain rfl := Option.some.inj h
                                    show RetW _ _ _ _ _
                                    simp only [RetW]
                                    (try simp -implicitDefEqProofs (maxSteps := 4000000) (disch := first | omega | decide | (simp only [go_sem]; omega)) only [go_sem, ↓reduceIte])
                                    (try simp (disch := omega) only [if_pos, Nat.sub_zero])
                                    exact leT_refl _
                                  · refine runX_condF rfl c33 ?_
                                    refine runX_skip ?_
                                    refine endX_seq ?_
                                    refine runX_regionC fun C hC => ?_
                                    try simp -implicitDefEqProofs (maxSteps := 4000000) (disch := first | omega | decide | (simp only [go_sem]; omega)) only [go_sem, ↓reduceIte]
                                    repeat (with_reducible refine And.intro (by first | assumption | omega | (simp; done) | (simp; omega)) ?_)
                                    refine toEnd hC ?_
                                    refine endX_blk ?_
                                    refine endX_seq ?_
                                    refine runX_regionC fun C hC => ?_
                                    try simp -implicitDefEqProofs (maxSteps := 4000000) (disch := first | omega | decide | (simp only [go_sem]; omega)) only [go_sem, ↓reduceIte]
                                    repeat (with_reducible refine And.intro (by first | assumption | omega | (simp; done) | (simp; omega)) ?_)
                                    refine toEnd hC ?_
                                    refine endX_q (roundQ_normal ⟨m1, by omega, F4_S1 a1 v4 v5 v6 a0 (IntKind.wrap .i64 (x7 + (1 : Int))) (IntKind.wrap .i64 (x8 + (1 : Int))), ?_, (IntKind.wrap .i64 (x7 + (1 : Int))), (IntKind.wrap .i64 (x8 + (1 : Int))), rfl, by omega, h⟩)
                                    simp only [F4_S1]
                                    (try simp -implicitDefEqProofs (maxSteps := 4000000) (disch := first | omega | decide | (simp only [go_sem]; omega)) only [go_sem, ↓reduceIte])
                                    first | exact leS_refl _ | (refine leS_le ?_ ?_ <;> first | exact leL_refl _ | exact leOs_refl _ | (repeat (first | exact leL_refl _ | refine leL_cons (by first | exact leT_refl _ | exact leT_virt | exact leT_junk _ | exact leT_sl | exact leT_sln | exact leT_nil | (refine leT_agg (by repeat (first | exact leL_refl _ | refine leL_cons (by first | exact leT_refl _ | exact leT_sl | exact leT_sln | exact leT_nil) ?_)))) ?_)))
                · refine guardK_F c13 ?_
                  try simp -implicitDefEqProofs (maxSteps := 4000000) (disch := first | omega | decide | (simp only [go_sem]; omega)) only [go_sem, ↓reduceIte]
                  repeat (with_reducible refine And.intro (by first | assumption | omega | (simp; done) | (simp; omega)) ?_)
                  refine toEnd hC ?_
                  refine endX_seq ?_
                  refine runX_condF rfl rfl ?_
                  refine runX_skip ?_
                  refine endX_seq ?_
                  refine runX_seq ?_
                  refine runX_seq ?_
                  refine runX_drawC mixed (by kernel_rfl) fun C hC => ?_
                  try simp -implicitDefEqProofs (maxSteps := 4000000) (disch := first | omega | decide | (simp only [go_sem]; omega)) only [go_sem, ↓reduceIte]
                  repeat (with_reducible refine And.intro (by first | assumption | omega | (simp; done) | (simp; omega)) ?_)
                  rcases iteB_some h with ⟨c34, h⟩ | ⟨c34, h⟩
                  · refine guardD_F c34 ?_
                    try simp -implicitDefEqProofs (maxSteps := 4000000) (disch := first | omega | decide | (simp only [go_sem]; omega)) only [go_sem, ↓reduceIte]
                    repeat (with_reducible refine And.intro (by first | assumption | omega | (simp; done) | (simp; omega)) ?_)
                    refine toEnd hC ?_
                    refine endX_seq ?_
                    refine runX_condT rfl rfl ?_
                    refine runX_seq ?_
                    refine runX_regionC fun C hC => ?_
                    try simp -implicitDefEqProofs (maxSteps := 4000000) (disch := first | omega | decide | (simp only [go_sem]; omega)) only [go_sem, ↓reduceIte]
                    repeat (with_reducible refine And.intro (by first | assumption | omega | (simp; done) | (simp; omega)) ?_)
                    refine toEnd hC ?_
                    refine endX_seq ?_
                    refine runX_ret ?_
                    refine endX_seqR ?_
                    refine endX_blkR ?_
                    refine endX_seqR ?_
                    refine endX_q (roundQ_ret ?_)
                    refine endX_blkR ?_
                    refine endX_seqR ?_
                    refine endX_q ?_
                    obtain rfl := Option.some.inj h
                    show RetW _ _ _ _ _
                    simp only [RetW]
                    (try simp -implicitDefEqProofs (maxSteps := 4000000) (disch := first | omega | decide | (simp only [go_sem]; omega)) only [go_sem, ↓reduceIte])
                    (try simp (disch := omega) only [if_pos, Nat.sub_zero])
                    exact leT_refl _
                  · refine guardD_T c34 ?_
                    obtain ⟨g35, h⟩ := grd_some h
                    try simp -implicitDefEqProofs (maxSteps := 4000000) (disch := first | omega | decide | (simp only [go_sem]; omega)) only [go_sem, ↓reduceIte]
                    repeat (with_reducible refine And.intro (by first | assumption | omega | (simp; done) | (simp; omega)) ?_)
                    rcases iteB_some h with ⟨c36, h⟩ | ⟨c36, h⟩
                    · refine guardD_F c36 ?_
                      try simp -implicitDefEqProofs (maxSteps := 4000000) (disch := first | omega | decide | (simp only [go_sem]; omega)) only [go_sem, ↓reduceIte]
                      repeat (with_reducible refine And.intro (by first | assumption | omega | (simp; done) | (simp; omega)) ?_)
                      refine toEnd hC ?_
                      refine endX_seq ?_
                      refine runX_condT rfl rfl ?_
                      refine runX_seq ?_
                      refine runX_regionC fun C hC => ?_
                      try simp -implicitDefEqProofs (maxSteps := 4000000) (disch := first | omega | decide | (simp only [go_sem]; omega)) only [go_sem, ↓reduceIte]
                      repeat (with_reducible refine And.intro (by first | assumption | omega | (simp; done) | (simp; omega)) ?_)
                      refine toEnd hC ?_
                      refine endX_seq ?_
                      refine runX_ret ?_
                      refine endX_seqR ?_
                      refine endX_blkR ?_
                      refine endX_seqR ?_
                      refine endX_q (roundQ_ret ?_)
                      refine endX_blkR ?_
                      refine endX_seqR ?_
                      refine endX_q ?_
                      obtain rfl := Option.some.inj h
                      show RetW _ _ _ _ _
                      simp only [RetW]
                      (try simp -implicitDefEqProofs (maxSteps := 4000000) (disch := first | omega | decide | (simp only [go_sem]; omega)) only [go_sem, ↓reduceIte])
                      (try simp (disch := omega) only [if_pos, Nat.sub_zero])
                      exact leT_refl _
                    · refine guardD_T c36 ?_
                      obtain ⟨g37, h⟩ := grd_some h
                      try simp -implicitDefEqProofs (maxSteps := 4000000) (disch := first | omega | decide | (simp only [go_sem]; omega)) only [go_sem, ↓reduceIte]
                      repeat (with_reducible refine And.intro (by first | assumption | omega | (simp; done) | (simp; omega)) ?_)
                      rcases iteB_some h with ⟨c38, h⟩ | ⟨c38, h⟩
                      · refine guardD_F c38 ?_
                        try simp -implicitDefEqProofs (maxSteps := 4000000) (disch := first | omega | decide | (simp only [go_sem]; omega)) only [go_sem, ↓reduceIte]
                        repeat (with_reducible refine And.intro (by first | assumption | omega | (simp; done) | (simp; omega)) ?_)
                        refine toEnd hC ?_
                        refine endX_seq ?_
                        refine runX_condT rfl rfl ?_
                        refine runX_seq ?_
                        refine runX_regionC fun C hC => ?_
                        try simp -implicitDefEqProofs (maxSteps := 4000000) (disch := first | omega | decide | (simp only [go_sem]; omega)) only [go_sem, ↓reduceIte]
                        repeat (with_reducible refine And.intro (by first | assumption | omega | (simp; done) | (simp; omega)) ?_)
                        refine toEnd hC ?_
                        refine endX_seq ?_
                        refine runX_ret ?_
                        refine endX_seqR ?_
                        refine endX_blkR ?_
                        refine endX_seqR ?_
                        refine endX_q (roundQ_ret ?_)
                        refine endX_blkR ?_
                        refine endX_seqR ?_
                        refine endX_q ?_
                        obtain rfl := Option.some.inj h
                        show RetW _ _ _ _ _
                        simp only [RetW]
                        (try simp -implicitDefEqProofs (maxSteps := 4000000) (disch := first | omega | decide | (simp only [go_sem]; omega)) only [go_sem, ↓reduceIte])
                        (try simp (disch := omega) only [if_pos, Nat.sub_zero])
                        exact leT_refl _
                      · refine guardD_T c38 ?_
                        obtain ⟨g39, h⟩ := grd_some h
                        try simp -implicitDefEqProofs (maxSteps := 4000000) (disch := first | omega | decide | (simp only [go_sem]; omega)) only [go_sem, ↓reduceIte]
                        repeat (with_reducible refine And.intro (by first | assumption | omega | (simp; done) | (simp; omega)) ?_)
                        refine toEnd hC ?_
                        refine endX_seq ?_
                        rcases iteB_some h with ⟨c40, h⟩ | ⟨c40, h⟩
                        · refine runX_condT rfl c40 ?_
                          refine runX_seq ?_
                          refine runX_regionC fun C hC => ?_
                          try simp -implicitDefEqProofs (maxSteps := 4000000) (disch := first | omega | decide | (simp only [go_sem]; omega)) only [go_sem, ↓reduceIte]
                          repeat (with_reducible refine And.intro (by first | assumption | omega | (simp; done) | (simp; omega)) ?_)
                          refine toEnd hC ?_
                          refine endX_seq ?_
                          refine runX_ret ?_
                          refine endX_seqR ?_
                          refine endX_blkR ?_
                          refine endX_seqR ?_
                          refine endX_q (roundQ_ret ?_)
                          refine endX_blkR ?_
                          refine endX_seqR ?_
                          refine endX_q ?_
                          obtain rfl := Option.some.inj h
                          show RetW _ _ _ _ _
                          simp only [RetW]
                          (try simp -implicitDefEqProofs (maxSteps := 4000000) (disch := first | omega | decide | (simp only [go_sem]; omega)) only [go_sem, ↓reduceIte])
                          (try simp (disch := omega) only [if_pos, Nat.sub_zero])
                          exact leT_refl _
                        · refine runX_condF rfl c40 ?_
                          refine runX_skip ?_
                          refine endX_seq ?_
                          refine runX_regionC fun C hC => ?_
                          try simp -implicitDefEqProofs (maxSteps := 4000000) (disch := first | omega | decide | (simp only [go_sem]; omega)) only [go_sem, ↓reduceIte]
                          repeat (with_reducible refine And.intro (by first | assumption | omega | (simp; done) | (simp; omega)) ?_)
                          refine toEnd hC ?_
                          refine endX_blk ?_
                          refine endX_seq ?_
                          refine runX_regionC fun C hC => ?_
                          try simp -implicitDefEqProofs (maxSteps := 4000000) (disch := first | omega | decide | (simp only [go_sem]; omega)) only [go_sem, ↓reduceIte]
                          repeat (with_reducible refine And.intro (by first | assumption | omega | (simp; done) | (simp; omega)) ?_)
                          refine toEnd hC ?_
                          refine endX_q (roundQ_normal ⟨m1, by omega, F4_S1 a1 v4 v5 v6 a0 (IntKind.wrap .i64 (x7 + (1 : Int))) (IntKind.wrap .i64 (x8 + (1 : Int))), ?_, (IntKind.wrap .i64 (x7 + (1 : Int))), (IntKind.wrap .i64 (x8 + (1 : Int))), rfl, by omega, h⟩)
                          simp only [F4_S1]
                          (try simp -implicitDefEqProofs (maxSteps := 4000000) (disch := first | omega | decide | (simp only [go_sem]; omega)) only [go_sem, ↓reduceIte])
                          first | exact leS_refl _ | (refine leS_le ?_ ?_ <;> first | exact leL_refl _ | exact leOs_refl _ | (repeat (first | exact leL_refl _ | refine leL_cons (by first | exact leT_refl _ | exact leT_virt | exact leT_junk _ | exact leT_sl | exact leT_sln | exact leT_nil | (refine leT_agg (by repeat (first | exact leL_refl _ | refine leL_cons (by first | exact leT_refl _ | exact leT_sl | exact leT_sln | exact leT_nil) ?_)))) ?_)))
            · refine runX_condF rfl c9 ?_
              refine runX_exit ?_
              refine endX_seqE ?_
              refine endX_q (roundQ_exit ?_)
              refine endX_blkE ?_
              refine endX_seq ?_
              refine runX_seq ?_
              refine runX_regionC fun C hC => ?_
              simp only [runK_region, runK_draw, liteL, liteL2, dstsL, gL, List.getD_cons_zero, List.getD_cons_succ]
              try simp -implicitDefEqProofs (maxSteps := 4000000) (disch := first | omega | decide | (simp only [go_sem]; omega)) only [go_sem, ↓reduceIte]
              repeat (with_reducible refine And.intro (by first | assumption | omega | (simp; done) | (simp; omega)) ?_)
              refine bldG_of [.imm (.string (bs ([97] : List UInt8))), .imm (.string (bs ([98] : List UInt8))), .sl 0 true []] (by kernel_rfl) ?_
              try simp -implicitDefEqProofs (maxSteps := 4000000) (disch := first | omega | decide | (simp only [go_sem]; omega)) only [go_sem, ↓reduceIte]
              repeat (with_reducible refine And.intro (by first | assumption | omega | (simp; done) | (simp; omega)) ?_)
              refine bs_go <| buildX_val ?_
              try simp -implicitDefEqProofs (maxSteps := 4000000) (disch := first | omega | decide | (simp only [go_sem]; omega)) only [go_sem, ↓reduceIte]
              repeat (with_reducible refine And.intro (by first | assumption | omega | (simp; done) | (simp; omega)) ?_)
              refine bldG_of [.imm (.string (bs [])), .imm (.string (bs [])), .sl 3 true [.agg [.imm (.string (bs ([97] : List UInt8))), .imm (.string (bs ([98] : List UInt8))), .sl 0 true []]]] (by kernel_rfl) ?_
              obtain ⟨v41, h41, h⟩ := bnd_some h
              try simp -implicitDefEqProofs (maxSteps := 4000000) (disch := first | omega | decide | (simp only [go_sem]; omega)) only [go_sem, ↓reduceIte]
              repeat (with_reducible refine And.intro (by first | assumption | omega | (simp; done) | (simp; omega)) ?_)
              refine callG_X (by first | rfl | (simp only [go_sem]; done) | (simp only [closedL, closedT, Bool.and_true]; exact closedL_map _ (fun _ => by first | rfl | (simp only [go_sem]; done)) _)) (F19_ok m1 (N26.mk [] [] ([(N26.mk ([97] : List UInt8) ([98] : List UInt8) [])])) ([97] : List UInt8) _ h41) (by exact F4_LE0) ?_
              try simp -implicitDefEqProofs (maxSteps := 4000000) (disch := first | omega | decide | (simp only [go_sem]; omega)) only [go_sem, ↓reduceIte]
              repeat (with_reducible refine And.intro (by first | assumption | omega | (simp; done) | (simp; omega)) ?_)
              refine toEnd hC ?_
              refine endX_seq ?_
              refine runX_seq ?_
              refine runX_regionC fun C hC => ?_
              try simp -implicitDefEqProofs (maxSteps := 4000000) (disch := first | omega | decide | (simp only [go_sem]; omega)) only [go_sem, ↓reduceIte]
              repeat (with_reducible refine And.intro (by first | assumption | omega | (simp; done) | (simp; omega)) ?_)
              rcases iteB_some h with ⟨c42, h⟩ | ⟨c42, h⟩
              · refine guardK_T c42 ?_
                try simp -implicitDefEqProofs (maxSteps := 4000000) (disch := first | omega | decide | (simp only [go_sem]; omega)) only [go_sem, ↓reduceIte]
                repeat (with_reducible refine And.intro (by first | assumption | omega | (simp; done) | (simp; omega)) ?_)
                rcases iteB_some h with ⟨c43, h⟩ | ⟨c43, h⟩
                · refine guardK_T c43 ?_
                  try simp -implicitDefEqProofs (maxSteps := 4000000) (disch := first | omega | decide | (simp only [go_sem]; omega)) only [go_sem, ↓reduceIte]
                  repeat (with_reducible refine And.intro (by first | assumption | omega | (simp; done) | (simp; omega)) ?_)
                  rcases iteB_some h with ⟨c44, h⟩ | ⟨c44, h⟩
                  · refine guardK_F c44 ?_
                    try simp -implicitDefEqProofs (maxSteps := 4000000) (disch := first | omega | decide | (simp only [go_sem]; omega)) only [go_sem, ↓reduceIte]
                    repeat (with_reducible refine And.intro (by first | assumption | omega | (simp; done) | (simp; omega)) ?_)
                    rcases iteB_some h with ⟨c45, h⟩ | ⟨c45, h⟩
                    · refine guardK_T c45 ?_
                      try simp -implicitDefEqProofs (maxSteps := 4000000) (disch := first | omega | decide | (simp only [go_sem]; omega)) only [go_sem, ↓reduceIte]
                      repeat (with_reducible refine And.intro (by first | assumption | omega | (simp; done) | (simp; omega)) ?_)
                      refine toEnd hC ?_
                      refine endX_seq ?_
                      refine runX_ret ?_
                      refine endX_q ?_
                      obtain rfl := Option.some.inj h
                      show RetW _ _ _ _ _
                      simp only [RetW]
                      (try simp -implicitDefEqProofs (maxSteps := 4000000) (disch := first | omega | decide | (simp only [go_sem]; omega)) only [go_sem, ↓reduceIte])
                      (try simp (disch := omega) only [if_pos, Nat.sub_zero])
                      exact leT_refl _
                    · refine guardK_F c45 ?_
                      try simp -implicitDefEqProofs (maxSteps := 4000000) (disch := first | omega | decide | (simp only [go_sem]; omega)) only [go_sem, ↓reduceIte]
                      repeat (with_reducible refine And.intro (by first | assumption | omega | (simp; done) | (simp; omega)) ?_)
                      refine toEnd hC ?_
                      refine endX_seq ?_
                      refine runX_ret ?_
                      refine endX_q ?_
                      obtain rfl := Option.some.inj h
                      show RetW _ _ _ _ _
                      simp only [RetW]
                      (try simp -implicitDefEqProofs (maxSteps := 4000000) (disch := first | omega | decide | (simp only [go_sem]; omega)) only [go_sem, ↓reduceIte])
                      (try simp (disch := omega) only [if_pos, Nat.sub_zero])
                      exact leT_refl _
                  · refine guardK_T c44 ?_
                    try simp -implicitDefEqProofs (maxSteps := 4000000) (disch := first | omega | decide | (simp only [go_sem]; omega)) only [go_sem, ↓reduceIte]
                    repeat (with_reducible refine And.intro (by first | assumption | omega | (simp; done) | (simp; omega)) ?_)
                    rcases iteB_some h with ⟨c46, h⟩ | ⟨c46, h⟩
                    · refine guardK_T c46 ?_
                      try simp -implicitDefEqProofs (maxSteps := 4000000) (disch := first | omega | decide | (simp only [go_sem]; omega)) only [go_sem, ↓reduceIte]
                      repeat (with_reducible refine And.intro (by first | assumption | omega | (simp; done) | (simp; omega)) ?_)
                      rcases iteB_some h with ⟨c47, h⟩ | ⟨c47, h⟩
                      · refine guardK_T c47 ?_
                        try simp -implicitDefEqProofs (maxSteps := 4000000) (disch := first | omega | decide | (simp only [go_sem]; omega)) only [go_sem, ↓reduceIte]
                        repeat (with_reducible refine And.intro (by first | assumption | omega | (simp; done) | (simp; omega)) ?_)
                        refine toEnd hC ?_
                        refine endX_seq ?_
                        refine runX_ret ?_
                        refine endX_q ?_
                        obtain rfl := Option.some.inj h
                        show RetW _ _ _ _ _
                        simp only [RetW]
                        (try simp -implicitDefEqProofs (maxSteps := 4000000) (disch := first | omega | decide | (simp only [go_sem]; omega)) only [go_sem, ↓reduceIte])
                        (try simp (disch := omega) only [if_pos, Nat.sub_zero])
                        exact leT_refl _
                      · refine guardK_F c47 ?_
                        try simp -implicitDefEqProofs (maxSteps := 4000000) (disch := first | omega | decide | (simp only [go_sem]; omega)) only [go_sem, ↓reduceIte]
                        repeat (with_reducible refine And.intro (by first | assumption | omega | (simp; done) | (simp; omega)) ?_)
                        refine toEnd hC ?_
                        refine endX_seq ?_
                        refine runX_ret ?_
                        refine endX_q ?_
                        obtain rfl := Option.some.inj h
                        show RetW _ _ _ _ _
                        simp only [RetW]
                        (try simp -implicitDefEqProofs (maxSteps := 4000000) (disch := first | omega | decide | (simp only [go_sem]; omega)) only [go_sem, ↓reduceIte])
                        (try simp (disch := omega) only [if_pos, Nat.sub_zero])
                        exact leT_refl _
                    · refine guardK_F c46 ?_
                      try simp -implicitDefEqProofs (maxSteps := 4000000) (disch := first | omega | decide | (simp only [go_sem]; omega)) only [go_sem, ↓reduceIte]
                      repeat (with_reducible refine And.intro (by first | assumption | omega | (simp; done) | (simp; omega)) ?_)
                      refine toEnd hC ?_
                      refine endX_seq ?_
                      refine runX_ret ?_
                      refine endX_q ?_
                      obtain rfl := Option.some.inj h
                      show RetW _ _ _ _ _
                      simp only [RetW]
                      (try simp -implicitDefEqProofs (maxSteps := 4000000) (disch := first | omega | decide | (simp only [go_sem]; omega)) only [go_sem, ↓reduceIte])
                      (try simp (disch := omega) only [if_pos, Nat.sub_zero])
                      exact leT_refl _
                · refine guardK_F c43 ?_
                  try simp -implicitDefEqProofs (maxSteps := 4000000) (disch := first | omega | decide | (simp only [go_sem]; omega)) only [go_sem, ↓reduceIte]
                  repeat (with_reducible refine And.intro (by first | assumption | omega | (simp; done) | (simp; omega)) ?_)
                  refine toEnd hC ?_
                  refine endX_seq ?_
                  refine runX_ret ?_
                  refine endX_q ?_
                  obtain rfl := Option.some.inj h
                  show RetW _ _ _ _ _
                  simp only [RetW]
                  (try simp -implicitDefEqProofs (maxSteps := 4000000) (disch := first | omega | decide | (simp only [go_sem]; omega)) only [go_sem, ↓reduceIte])
                  (try simp (disch := omega) only [if_pos, Nat.sub_zero])
                  exact leT_refl _
              · refine guardK_F c42 ?_
                try simp -implicitDefEqProofs (maxSteps := 4000000) (disch := first | omega | decide | (simp only [go_sem]; omega)) only [go_sem, ↓reduceIte]
                repeat (with_reducible refine And.intro (by first | assumption | omega | (simp; done) | (simp; omega)) ?_)
                refine toEnd hC ?_
                refine endX_seq ?_
                refine runX_ret ?_
                refine endX_q ?_
                obtain rfl := Option.some.inj h
                show RetW _ _ _ _ _
                simp only [RetW]
                (try simp -implicitDefEqProofs (maxSteps := 4000000) (disch := first | omega | decide | (simp only [go_sem]; omega)) only [go_sem, ↓reduceIte])
                (try simp (disch := omega) only [if_pos, Nat.sub_zero])
                exact leT_refl _
end Go.Proofs.YtcnkndmegnfofaaX

/- Shapes of arguments, as plain values. Of no program. -/
set_option linter.unusedVariables false
namespace Go.Proofs.YtcnkndmegnfofaaX
open Go Go.RowKit
theorem RepR.le {E : Env} {sz : Nat} : ∀ {l l' : List T} {c : List Value}, l.length = l'.length → (∀ i, leT anyE (l.getD i .junk) (l'.getD i .junk)) → RepR E sz l c → RepR E sz l' c
  | [], [], c, _, _, h => h
  | x :: l, y :: l', c, hl, hi, h => by
    simp only [RepR] at h ⊢
    obtain ⟨u, c', h1, h2, h3, h4⟩ := h
    exact ⟨u, c', h1, h2, by simpa using hi 0 E true u trivial (by simpa using h3), RepR.le (by simpa using hl) (fun i => by simpa using hi (i + 1)) h4⟩
  | [], _ :: _, c, hl, _, _ => by simp at hl
  | _ :: _, [], c, hl, _, _ => by simp at hl
theorem leT_slE {sz : Nat} {f : Bool} {l l' : List T} (hl : l.length = l'.length) (h : ∀ i, leT anyE (l.getD i .junk) (l'.getD i .junk)) : leT anyE (.sl sz f l) (.sl sz false l') := fun E cl v hp k => by
  simp only [Rep] at k ⊢
  obtain ⟨a, cap, c, h1, h2, h3, h4, h5⟩ := k
  exact ⟨a, cap, c, by rw [h1, hl], by rw [← hl]; exact h2, (fun h => by cases h), RepR.le hl h h4, h5⟩
theorem elems_shape {α : Type} (enc : α → T) (ok : α → Prop) : ∀ (l : List T), (∀ y ∈ l, ∃ v, leT anyE y (enc v) ∧ ok v) → ∃ vs : List α, vs.length = l.length ∧ (∀ i, leT anyE (l.getD i .junk) ((vs.map enc).getD i .junk)) ∧ ∀ v ∈ vs, ok v
  | [], _ => ⟨[], rfl, fun i => by simp [leT_refl], fun v hv => by simp at hv⟩
  | y :: l, h => by
    obtain ⟨v, h1, h2⟩ := h y (by simp)
    obtain ⟨vs, h3, h4, h5⟩ := elems_shape enc ok l fun z hz => h z (by simp [hz])
    refine ⟨v :: vs, by simp [h3], fun i => ?_, fun w hw => ?_⟩
    · cases i with
      | zero => simpa using h1
      | succ i => simpa using h4 i
    · rcases List.mem_cons.1 hw with rfl | hw
      · exact h2
      · exact h5 w hw
theorem sl_shape {α : Type} (enc : α → T) (ok : α → Prop) (l : List T) (h : ∀ y ∈ l, ∃ v, leT anyE y (enc v) ∧ ok v) {sz : Nat} {f : Bool} : ∃ vs : List α, leT anyE (.sl sz f l) (.sl sz false (vs.map enc)) ∧ vs.length = l.length ∧ ∀ v ∈ vs, ok v := by
  obtain ⟨vs, h1, h2, h3⟩ := elems_shape enc ok l h
  exact ⟨vs, leT_slE (by simp [h1]) h2, h1, h3⟩
theorem arr_shape {α : Type} (enc : α → T) (ok : α → Prop) : ∀ (l : List T), (∀ y ∈ l, ∃ v, y = enc v ∧ T.cells y = [y] ∧ ok v) → ∃ vs : List α, l.flatMap T.cells = vs.map enc ∧ vs.length = l.length ∧ ∀ v ∈ vs, ok v
  | [], _ => ⟨[], rfl, rfl, fun v hv => by simp at hv⟩
  | y :: l, h => by
    obtain ⟨v, rfl, hc, h2⟩ := h y (by simp)
    obtain ⟨vs, h3, h4, h5⟩ := arr_shape enc ok l fun z hz => h z (by simp [hz])
    refine ⟨v :: vs, by rw [List.flatMap_cons, hc, h3]; rfl, by simp [h4], fun w hw => ?_⟩
    rcases List.mem_cons.1 hw with rfl | hw
    · exact h2
    · exact h5 w hw
end Go.Proofs.YtcnkndmegnfofaaX

set_option linter.unusedVariables false
set_option linter.unusedSimpArgs false
namespace Go.Proofs.YtcnkndmegnfofaaX
open Go Go.RowKit Go.Proofs
set_option maxRecDepth 100000
def okT9 (v : List UInt8) : Prop := v.length ≤ 9223372036854775807
def okT26 (v : N26) : Prop := True
theorem shp9 : ∀ (n : Nat) (x : T), ShapeW Try.prog n 9 x → ∃ v : List UInt8, x = .imm (.string (bs v)) ∧ okT9 v
  | 0, x, h => h.elim
  | n + 1, x, h => by
    simp only [ShapeW, Try.underlying9] at h
    obtain ⟨s, rfl, hs⟩ := h
    exact ⟨s.data.toList, by rw [← of_bs], hs⟩
theorem shp27 : ∀ (n : Nat) (x : T), ShapeW Try.prog n 27 x → ∃ v : N26, leT anyE x (.agg [.imm (.string (bs v.p0)), .imm (.string (bs v.p1)), .sl 3 false (List.map eT26 v.p2)]) ∧ okT26 v
  | 0, x, h => h.elim
  | 1, x, h => by
    simp only [ShapeW, Try.underlying27] at h
    obtain ⟨ys, rfl, hl, hf⟩ := h
    match ys, hl with
    | [y0, y1, y2], _ => exact (hf 0 _ y0 rfl rfl).elim
  | m + 2, x, h => by
    rw [ShapeW] at h
    simp only [Try.underlying27] at h
    obtain ⟨ys, rfl, hl, hf⟩ := h
    match ys, hl with
    | [y0, y1, y2], _ =>
      have h0 : ShapeW Try.prog (m + 1) 9 y0 := hf 0 _ y0 rfl rfl
      obtain ⟨v0, rfl, k0⟩ := shp9 (m + 1) _ h0
      have h1 : ShapeW Try.prog (m + 1) 9 y1 := hf 1 _ y1 rfl rfl
      obtain ⟨v1, rfl, k1⟩ := shp9 (m + 1) _ h1
      have h2 : ShapeW Try.prog (m + 1) 25 y2 := hf 2 _ y2 rfl rfl
      rw [ShapeW] at h2
      simp only [Try.underlying25] at h2
      obtain ⟨f2, l2, rfl, _, g2⟩ := h2
      rw [cz27]
      obtain ⟨v2, e2, _, _⟩ := sl_shape eT26 okT26 l2 fun y hy => (by
        obtain ⟨v, hv, hk⟩ := shp27 m y (g2 y hy)
        exact ⟨v, by rw [eT26_def]; exact hv, hk⟩)
      refine ⟨N26.mk v0 v1 v2, leT_agg ?_, trivial⟩
      show leL anyE [_, _, _] _
      exact leL_cons (leT_refl _) (leL_cons (leT_refl _) (leL_cons e2 (leL_nil)))
theorem shapedXmlinKids (main : ∀ (v0 : N26) (v1 : List UInt8), okT26 v0 → okT9 v1 → ∃ n, F4 n v0 v1 = some true) (xs : List T) (h : ShapesW Try.prog [27, 9] xs) : FnC Try.prog 4 xs (tb true) := by
  obtain ⟨x0, xs0, rfl, ⟨n0, h0⟩, x1, xs1, rfl, ⟨n1, h1⟩, rfl⟩ := h
  obtain ⟨v0, e0, k0⟩ := shp27 _ _ h0
  obtain ⟨v1, rfl, k1⟩ := shp9 _ _ h1
  obtain ⟨N, hN⟩ := main v0 v1 k0 k1
  exact (F4_ok N v0 v1 true hN).le (leL_cons (e0) (leL_cons (leT_refl _) (leL_nil))) (leT_refl _)

end Go.Proofs.YtcnkndmegnfofaaX

/- Plain functions with fuel: what they come to. Of no program. -/
set_option linter.unusedVariables false
set_option linter.unusedSimpArgs false
namespace Go.Proofs.YtcnkndmegnfofaaX
open Go

/-- With fuel enough the answer is this. -/
def Ev {α : Type} (f : Nat → Option α) (r : α) : Prop := ∃ N, ∀ n, N ≤ n → f n = some r
theorem Ev.pure {α : Type} {r : α} : Ev (fun _ => some r) r := ⟨0, fun _ _ => rfl⟩
theorem Ev.const {α : Type} {x : Option α} {r : α} (h : x = some r) : Ev (fun _ => x) r := ⟨0, fun _ _ => h⟩
theorem Ev.bind {α β : Type} {f : Nat → Option α} {g : Nat → α → Option β} {v : α} {r : β} (h : Ev f v) (h' : Ev (fun n => g n v) r) : Ev (fun n => (f n).bind (g n)) r := by
  obtain ⟨N, h⟩ := h
  obtain ⟨M, h'⟩ := h'
  exact ⟨max N M, fun n hn => by show (f n).bind (g n) = _; rw [h n (by omega)]; exact h' n (by omega)⟩
theorem Ev.step {α : Type} {f : Nat → Option α} {r : α} (h : Ev (fun n => f (n + 1)) r) : Ev f r := by
  obtain ⟨N, h⟩ := h
  refine ⟨N + 1, fun n hn => ?_⟩
  obtain ⟨m, rfl⟩ : ∃ m, n = m + 1 := ⟨n - 1, by omega⟩
  exact h m (by omega)
theorem Ev.congr {α : Type} {f g : Nat → Option α} {r : α} (h : Ev g r) (e : ∀ n, f n = g n) : Ev f r := by
  obtain ⟨N, h⟩ := h
  exact ⟨N, fun n hn => (e n).trans (h n hn)⟩
theorem Ev.grd {α : Type} {p : Prop} [Decidable p] {f : Nat → Option α} {r : α} (hp : p) (h : Ev f r) : Ev (fun n => grd p (f n)) r := h.congr fun n => if_pos hp
theorem Ev.ofT {α : Type} {b : Bool} {f g : Nat → Option α} {r : α} (hb : b = true) (h : Ev f r) : Ev (fun n => iteB b (f n) (g n)) r := h.congr fun n => by rw [hb]; rfl
theorem Ev.ofF {α : Type} {b : Bool} {f g : Nat → Option α} {r : α} (hb : b = false) (h : Ev g r) : Ev (fun n => iteB b (f n) (g n)) r := h.congr fun n => by rw [hb]; rfl
theorem Ev.ite {α : Type} {b : Bool} {f g : Nat → Option α} {r : α} (h1 : b = true → Ev f r) (h2 : b = false → Ev g r) : Ev (fun n => iteB b (f n) (g n)) r := by
  cases hb : b with
  | true => exact (h1 hb).congr fun n => rfl
  | false => exact (h2 hb).congr fun n => rfl
theorem iteB_t {α : Type} (x y : Option α) : iteB true x y = x := rfl
theorem iteB_f {α : Type} (x y : Option α) : iteB false x y = y := rfl
theorem grd_t {α : Type} {p : Prop} [Decidable p] (x : Option α) (h : p) : grd p x = x := if_pos h
theorem grd_True {α : Type} [Decidable True] (x : Option α) : grd True x = x := if_pos trivial
theorem bind_some' {α β : Type} (v : α) (g : α → Option β) : (some v).bind g = g v := rfl
theorem w64 {n : Int} (h : -9223372036854775808 ≤ n ∧ n ≤ 9223372036854775807) : IntKind.wrap .i64 n = n := Go.IntWalk.i64_in _ h
theorem w32 {n : Int} (h : -2147483648 ≤ n ∧ n ≤ 2147483647) : IntKind.wrap .i32 n = n := Go.IntWalk.i32_in _ h
theorem wu8 {n : Int} (h : 0 ≤ n ∧ n ≤ 255) : IntKind.wrap .u8 n = n := Go.IntWalk.u8_in _ h
theorem wu32 {n : Int} (h : 0 ≤ n ∧ n ≤ 4294967295) : IntKind.wrap .u32 n = n := Go.IntWalk.u32_in _ h
theorem wu64 {n : Int} (h : 0 ≤ n ∧ n ≤ 18446744073709551615) : IntKind.wrap .u64 n = n := Go.IntWalk.u64_in _ h
/-- Bytes as numbers. -/
theorem u8_beq (a b : UInt8) : ((a.toNat : Int) == (b.toNat : Int)) = (a == b) := by
  rw [Bool.eq_iff_iff, beq_iff_eq, beq_iff_eq]
  exact ⟨fun h => UInt8.toNat_inj.1 (by omega), fun h => by rw [h]⟩
theorem u8_lit (a : UInt8) (k : Nat) (hk : k < 256) : ((a.toNat : Int) == ((k : Nat) : Int)) = (a == UInt8.ofNat k) := by
  rw [Bool.eq_iff_iff, beq_iff_eq, beq_iff_eq]
  constructor
  · intro h
    apply UInt8.toNat_inj.1
    rw [UInt8.toNat_ofNat']
    omega
  · intro h
    subst h
    rw [UInt8.toNat_ofNat']
    omega
theorem u8_lt (a : UInt8) : (0 : Int) ≤ (a.toNat : Int) ∧ (a.toNat : Int) ≤ 255 := by
  have := a.toNat_lt; omega
theorem drop_cons {α : Type} (l : List α) (i : Nat) (d : α) (h : i < l.length) : l.drop i = l.getD i d :: l.drop (i + 1) := by
  rw [List.drop_eq_getElem_cons h, List.getD_eq_getElem?_getD, List.getElem?_eq_getElem h]; rfl
theorem toNat_nat (n : Nat) : ((n : Int)).toNat = n := rfl
end Go.Proofs.YtcnkndmegnfofaaX

/- Bytes as numbers. Of no program. -/
set_option linter.unusedVariables false
set_option linter.unusedSimpArgs false
namespace Go.Proofs.YtcnkndmegnfofaaX
open Go

def Bytes (l : List Int) : Prop := ∀ x ∈ l, 0 ≤ x ∧ x ≤ 255
theorem Bytes.nil : Bytes [] := by intro x hx; cases hx
theorem Bytes.cons {a : Int} {r : List Int} (h : 0 ≤ a ∧ a ≤ 255) (hr : Bytes r) : Bytes (a :: r) := by
  intro x hx
  rcases List.mem_cons.1 hx with rfl | hx
  · exact h
  · exact hr x hx
theorem Bytes.head {a : Int} {r : List Int} (h : Bytes (a :: r)) : 0 ≤ a ∧ a ≤ 255 := h a (by simp)
theorem Bytes.tail {a : Int} {r : List Int} (h : Bytes (a :: r)) : Bytes r := fun x hx => h x (by simp [hx])
theorem Bytes.drop {l : List Int} (h : Bytes l) (n : Nat) : Bytes (l.drop n) := fun x hx => h x (List.mem_of_mem_drop hx)
theorem Bytes.append {l r : List Int} (h : Bytes l) (h' : Bytes r) : Bytes (l ++ r) := fun x hx => by
  rcases List.mem_append.1 hx with hx | hx
  · exact h x hx
  · exact h' x hx
def bt (s : List UInt8) (i : Nat) : Int := ((s.getD i 0).toNat : Int)
def ints (s : List UInt8) : List Int := s.map ofB
theorem ints_len (s : List UInt8) : (ints s).length = s.length := by simp [ints]
theorem ints_bytes (s : List UInt8) : Bytes (ints s) := by
  intro x hx
  unfold ints at hx
  obtain ⟨c, _, rfl⟩ := List.mem_map.1 hx
  exact u8_lt c
theorem ints_drop (s : List UInt8) (i : Nat) : ints (s.drop i) = (ints s).drop i := by simp [ints, List.map_drop]
theorem ints_take (s : List UInt8) (i : Nat) : ints (s.take i) = (ints s).take i := by simp [ints, List.map_take]
theorem bt_bd (s : List UInt8) (i : Nat) : 0 ≤ bt s i ∧ bt s i ≤ 255 := u8_lt _
theorem ints_get (s : List UInt8) (i : Nat) : (ints s).getD i 0 = bt s i := by
  unfold ints bt
  rw [List.getD_eq_getElem?_getD, List.getElem?_map, List.getD_eq_getElem?_getD]
  cases s[i]? <;> rfl
theorem drop_bt (s : List UInt8) (i : Nat) (h : i < s.length) : (ints s).drop i = bt s i :: (ints s).drop (i + 1) := by
  rw [drop_cons (ints s) i 0 (by rw [ints_len]; exact h), ints_get]
theorem ofB_toB {x : Int} (h : 0 ≤ x ∧ x ≤ 255) : ofB (toB x) = x := by
  unfold ofB toB
  rw [UInt8.toNat_ofNat']
  omega
theorem map_toB_eq {l : List Int} (hl : Bytes l) (t : List UInt8) : (l.map toB == t) = decide (l = ints t) := by
  rw [Bool.eq_iff_iff, beq_iff_eq, decide_eq_true_eq]
  constructor
  · rintro rfl
    unfold ints
    rw [List.map_map]
    conv => lhs; rw [← List.map_id l]
    exact List.map_congr_left fun x hx => (ofB_toB (hl x hx)).symm
  · rintro rfl
    unfold ints
    rw [List.map_map]
    conv => rhs; rw [← List.map_id t]
    refine List.map_congr_left fun x _ => ?_
    show UInt8.ofNat ((x.toNat : Int)).toNat = x
    rw [toNat_nat]; simp
theorem ints_cons (s : List UInt8) (h : s.length ≠ 0) : ∃ a r, ints s = a :: r := by
  cases hb : ints s with
  | nil => have := ints_len s; rw [hb] at this; simp at this; omega
  | cons a r => exact ⟨a, r, rfl⟩
theorem of_ints {s : List UInt8} {l : List Int} (h : ints s = l) : s = l.map toB := by
  have hb : Bytes l := h ▸ ints_bytes s
  have := map_toB_eq hb s
  rw [h, decide_eq_true rfl] at this
  exact (beq_iff_eq.1 this).symm
theorem ints_toB {l : List Int} (h : Bytes l) : ints (l.map toB) = l := by
  have := map_toB_eq h (l.map toB)
  rw [beq_self_eq_true] at this
  exact (of_decide_eq_true this.symm).symm
theorem toB_inj : ∀ {a b : List Int}, Bytes a → Bytes b → a.map toB = b.map toB → a = b := fun ha hb h => by
  have := congrArg ints h
  rwa [ints_toB ha, ints_toB hb] at this
theorem bq {a b : Int} (h : ¬ a = b) : (a == b) = false := beq_eq_false_iff_ne.2 h
theorem bqt {a b : Int} (h : a = b) : (a == b) = true := by rw [h]; exact beq_self_eq_true b
theorem all_bytes {l : List Int} (h : Bytes l) : (l.all fun x => decide (0 ≤ x) && decide (x < 256)) = true := by
  rw [List.all_eq_true]
  intro x hx
  have := h x hx
  simp only [Bool.and_eq_true, decide_eq_true_eq]
  omega
theorem bs_bool {p : Prop} [Decidable p] {b : Bool} (h : (b = true) ↔ p) : b = decide p := by
  cases b with
  | true => exact (decide_eq_true (h.1 rfl)).symm
  | false => exact (decide_eq_false (fun e => by cases h.2 e)).symm
theorem g64 (i : Nat) (h : i ≤ 1000000000) : IntKind.wrap .i64 ((i : Int) + 1) = ((i + 1 : Nat) : Int) := by rw [w64 (by omega)]; omega
end Go.Proofs.YtcnkndmegnfofaaX

/- XmlinKids: the first child of a name, its text, and all children of it. -/
set_option linter.unusedVariables false
set_option linter.unusedSimpArgs false
namespace Go.Proofs.YtcnkndmegnfofaaX
open Go

abbrev Nd := N26
abbrev NdR := N29
/-! ### How great an element is -/
theorem own_loop (deep B : Int) (hB : 1 ≤ B ∧ B ≤ 1000000) (x : Nd) (hrec : ∀ y : Nd, ∃ v : NdR × Int, Ev (fun n => F17 n y (IntKind.wrap .i64 (deep + 1))) v ∧ 1 ≤ v.2 ∧ v.2 ≤ B) :
    ∀ (d i : Nat) (z : Int) (l : List NdR), i + d = x.p2.length → (i : Int) + 1 ≤ z → z ≤ 6001 + B → l.length ≤ i → ∃ v : NdR × Int, Ev (fun n => F17_L1 n deep x z (i : Int) l) v ∧ 1 ≤ v.2 ∧ v.2 ≤ 6001 + B ∧ (v.2 < 3000 → (x.p2.length : Int) < 3000) := by
  intro d
  induction d with
  | zero =>
    intro i z l hi h1 h2 hl
    refine ⟨(.mk x.p0 x.p1 l, z), Ev.step (Ev.pure.congr fun n => ?_), by dsimp only; omega, by dsimp only; omega, fun h => by dsimp only at h; omega⟩
    rw [F17_L1, decide_eq_false (by omega), iteB_f]
  | succ d ih =>
    intro i z l hi h1 h2 hl
    by_cases h3 : z < 3000
    · obtain ⟨w, ⟨N1, e1⟩, g1, g2⟩ := hrec (x.p2.getD i default)
      have hz : IntKind.wrap .i64 (z + w.2) = z + w.2 := w64 (by omega)
      obtain ⟨v, ⟨N2, e2⟩, k1, k2, k3⟩ := ih (i + 1) (z + w.2) (l ++ [w.1]) (by omega) (by omega) (by omega) (by simp; omega)
      refine ⟨v, Ev.step ⟨N1 + N2, fun n hn => ?_⟩, k1, k2, k3⟩
      have q1 := e1 n (by omega)
      have q2 := e2 n (by omega)
      dsimp only at q1 q2
      show F17_L1 (n + 1) deep x z (i : Int) l = _
      rw [F17_L1, decide_eq_true (by omega), iteB_t, decide_eq_true h3, iteB_t, grd_t _ (by omega), toNat_nat, q1, bind_some', grd_t _ (by omega), hz, g64 i (by omega), q2]
    · refine ⟨(.mk x.p0 x.p1 l, z), Ev.step (Ev.pure.congr fun n => ?_), by dsimp only; omega, by dsimp only; omega, fun h => by dsimp only at h; omega⟩
      rw [F17_L1, decide_eq_true (by omega), iteB_t, decide_eq_false h3, iteB_f]
theorem own_any : ∀ (k : Nat), k ≤ 31 → ∀ (x : Nd), ∃ v : NdR × Int, Ev (fun n => F17 n x (31 - (k : Int))) v ∧ 1 ≤ v.2 ∧ v.2 ≤ 9999 + 6001 * k ∧ (0 < k → v.2 < 3000 → (x.p2.length : Int) < 3000)
  | 0, hk, x => by
    refine ⟨(.mk x.p0 x.p1 [], 9999), Ev.step (Ev.pure.congr fun n => ?_), (by show (1 : Int) ≤ 9999; omega), (by show (9999 : Int) ≤ 9999 + 6001 * ((0 : Nat) : Int); omega), fun h => by omega⟩
    rw [F17, decide_eq_true (by omega), iteB_t]
  | k + 1, hk, x => by
    have hd : IntKind.wrap .i64 ((31 - ((k + 1 : Nat) : Int)) + 1) = 31 - (k : Int) := by rw [w64 (by omega)]; omega
    have hm : ∀ k : Nat, (if (3000 : Int) < (k : Int) then (3000 : Int) else (k : Int)) = ((min k 3000 : Nat) : Int) := by
      intro k; split <;> omega
    have hz : IntKind.wrap .i64 (IntKind.wrap .i64 (1 + ((min x.p0.length 3000 : Nat) : Int)) + ((min x.p1.length 3000 : Nat) : Int)) = 1 + ((min x.p0.length 3000 : Nat) : Int) + ((min x.p1.length 3000 : Nat) : Int) := by
      rw [w64 (n := 1 + _) (by omega), w64 (by omega)]
    obtain ⟨v, h1, h2, h3, h4⟩ := own_loop (31 - ((k + 1 : Nat) : Int)) (9999 + 6001 * k) (by omega) x (fun y => by
      rw [hd]
      obtain ⟨v, g1, g2, g3, _⟩ := own_any k (by omega) y
      exact ⟨v, g1, g2, g3⟩) x.p2.length 0 (1 + ((min x.p0.length 3000 : Nat) : Int) + ((min x.p1.length 3000 : Nat) : Int)) [] (by omega) (by omega) (by omega) (by simp)
    refine ⟨v, Ev.step (h1.congr fun n => ?_), h2, by omega, fun _ => h4⟩
    rw [F17, decide_eq_false (by omega), iteB_f, hm, hm, hz]
    rfl
/-! ### The children of a name -/
def kidsT (l : List Nd) (name : List UInt8) : List Nd := l.filter fun k => k.p0 == name
theorem kids_cons (k : Nd) (l : List Nd) (name : List UInt8) : kidsT (k :: l) name = if (k.p0 == name) = true then k :: kidsT l name else kidsT l name := by
  unfold kidsT; rw [List.filter_cons]
theorem kids_loop (x : Nd) (name : List UInt8) (hl : x.p2.length ≤ 3000) : ∀ (d i : Nat) (l : List Nd), i + d = x.p2.length → l.length ≤ i → Ev (fun n => F20_L1 n name x (i : Int) l) (l ++ kidsT (x.p2.drop i) name) := by
  intro d
  induction d with
  | zero =>
    intro i l hi hll
    rw [List.drop_of_length_le (by omega)]
    refine Ev.step (Ev.pure.congr fun n => ?_)
    rw [F20_L1, decide_eq_false (by omega), iteB_f]
    simp [kidsT]
  | succ d ih =>
    intro i l hi hll
    have hd : x.p2.drop i = x.p2.getD i default :: x.p2.drop (i + 1) := drop_cons _ i default (by omega)
    rw [hd, kids_cons]
    generalize hg : x.p2.getD i default = k
    cases h : (k.p0 == name) with
    | true =>
      rw [if_pos rfl]
      have ih' := ih (i + 1) (l ++ [k]) (by omega) (by simp; omega)
      rw [List.append_assoc] at ih'
      refine Ev.step (ih'.congr fun n => ?_)
      rw [F20_L1, decide_eq_true (by omega), iteB_t, toNat_nat, hg, grd_t _ (by omega), h, iteB_t, grd_t _ (by omega), g64 i (by omega)]
    | false =>
      rw [if_neg (by simp)]
      refine Ev.step ((ih (i + 1) l (by omega) (by omega)).congr fun n => ?_)
      rw [F20_L1, decide_eq_true (by omega), iteB_t, toNat_nat, hg, grd_t _ (by omega), h, iteB_f, g64 i (by omega)]
theorem ev_Kids (x : Nd) (name : List UInt8) (hl : x.p2.length ≤ 3000) : Ev (fun n => F20 n x name) (kidsT x.p2 name) := by
  have h := kids_loop x name hl x.p2.length 0 [] (by omega) (by simp)
  rw [List.nil_append, List.drop_zero] at h
  exact h.congr fun n => rfl
def kidT (l : List Nd) : Nd × Bool := match l with
  | [] => (.mk [] [] [], false)
  | k :: _ => (k, true)
def valT (p : Nd × Bool) : List UInt8 × Bool := if p.2 = false then ([], false) else if 0 < p.1.p2.length then ([], false) else (p.1.p1, true)
theorem ev_Kid (x : Nd) (name : List UInt8) (hl : x.p2.length ≤ 3000) : Ev (fun n => F18 n x name) (kidT (kidsT x.p2 name)) := by
  obtain ⟨N, e⟩ := ev_Kids x name hl
  refine ⟨N, fun n hn => ?_⟩
  have q := e n hn
  dsimp only at q
  show F18 n x name = _
  rw [F18, q, bind_some']
  cases kidsT x.p2 name with
  | nil => rfl
  | cons k l => rw [bq (show ¬ ((k :: l : List Nd).length : Int) = 0 by simp; omega), iteB_f, grd_t _ (by rw [List.length_cons]; omega)]; rfl
theorem ev_Value (x : Nd) (name : List UInt8) (hl : x.p2.length ≤ 3000) : Ev (fun n => F19 n x name) (valT (kidT (kidsT x.p2 name))) := by
  obtain ⟨N, e⟩ := ev_Kid x name hl
  refine ⟨N, fun n hn => ?_⟩
  have q := e n hn
  dsimp only at q
  show F19 n x name = _
  rw [F19, q, bind_some']
  unfold valT
  cases h : (kidT (kidsT x.p2 name)).2 with
  | false => rw [if_pos rfl]; rfl
  | true =>
    rw [if_neg (by simp), Bool.not_true, iteB_f]
    by_cases h2 : 0 < (kidT (kidsT x.p2 name)).1.p2.length
    · rw [if_pos h2, decide_eq_true (by omega), iteB_t]
    · rw [if_neg h2, decide_eq_false (by omega), iteB_f]
theorem kids_app (a b : List Nd) (name : List UInt8) : kidsT (a ++ b) name = kidsT a name ++ kidsT b name := by unfold kidsT; rw [List.filter_append]
theorem one_val : valT (kidT (kidsT (N26.p2 (.mk [] [] [.mk [97] [98] []])) [97])) = ([98], true) := rfl
theorem ne_self (k : Nat) : ((k : Int) != (k : Int)) = false := bne_self_eq_false _
theorem law_loop (x : Nd) (name : List UInt8) (hl : x.p2.length ≤ 3000) : ∀ (d i : Nat), i + d = x.p2.length →
    Ev (fun n => F4_L1 n name (kidT (kidsT x.p2 name)) (valT (kidT (kidsT x.p2 name))) (kidsT x.p2 name) x ((kidsT (x.p2.take i) name).length : Int) (i : Int)) true := by
  intro d
  induction d with
  | zero =>
    intro i hi
    rw [List.take_of_length_le (by omega)]
    obtain ⟨N, e⟩ := ev_Value (.mk [] [] [.mk [97] [98] []]) [97] (by decide)
    refine Ev.step ⟨N, fun n hn => ?_⟩
    have q := e n hn
    dsimp only at q
    rw [one_val] at q
    show F4_L1 (n + 1) name _ _ _ x _ (i : Int) = _
    rw [F4_L1, decide_eq_false (by omega), iteB_f, q, bind_some', beq_self_eq_true, iteB_t]
    cases hk : kidsT x.p2 name with
    | nil => rfl
    | cons k l =>
      rw [show ((kidT (k :: l)).2 == decide ((0 : Int) < ((k :: l : List Nd).length : Int))) = true by rw [decide_eq_true (by rw [List.length_cons]; omega)]; rfl, iteB_t]
      rfl
  | succ d ih =>
    intro i hi
    have ih' := ih (i + 1) (by omega)
    have htk : x.p2.take (i + 1) = x.p2.take i ++ [x.p2.getD i default] := by
      rw [List.take_add_one, List.getD_eq_getElem?_getD, List.getElem?_eq_getElem (by omega)]; rfl
    have hall : kidsT x.p2 name = kidsT (x.p2.take i) name ++ kidsT (x.p2.getD i default :: x.p2.drop (i + 1)) name := by
      rw [← kids_app, ← drop_cons _ i default (by omega), List.take_append_drop]
    rw [htk, kids_app] at ih'
    generalize hg : x.p2.getD i default = k at ih' hall
    have hlen : (kidsT (x.p2.take i) name).length ≤ 3000 := by
      have := List.length_filter_le (fun k : Nd => k.p0 == name) (x.p2.take i)
      rw [List.length_take] at this
      unfold kidsT; omega
    cases h : (k.p0 == name) with
    | false =>
      rw [kids_cons, if_neg (by rw [h]; simp), show kidsT [] name = [] from rfl, List.append_nil] at ih'
      refine Ev.step (ih'.congr fun n => ?_)
      rw [F4_L1, decide_eq_true (by omega), iteB_t, toNat_nat, hg, grd_t _ (by omega), h, Bool.not_false, iteB_t, g64 i (by omega)]
    | true =>
      rw [kids_cons, if_pos h, show kidsT [] name = [] from rfl, List.length_append, List.length_singleton] at ih'
      rw [kids_cons, if_pos h] at hall
      rw [hall] at ih' ⊢
      generalize kidsT (x.p2.take i) name = a at hlen ih' ⊢
      generalize kidsT (x.p2.drop (i + 1)) name = b at ih' ⊢
      have hget : (a ++ k :: b).getD a.length default = k := by
        rw [List.getD_eq_getElem?_getD, List.getElem?_append_right (Nat.le_refl _), Nat.sub_self]; rfl
      have hin : 0 ≤ (a.length : Int) ∧ (a.length : Int) < ((a ++ k :: b).length : Int) := by simp; omega
      refine Ev.step (ih'.congr fun n => ?_)
      have tail : ∀ (R : Option Bool), iteB (decide (((a ++ k :: b).length : Int) ≤ (a.length : Int))) (some false) (grd (0 ≤ (a.length : Int) ∧ (a.length : Int) < ((a ++ k :: b).length : Int)) (iteB (!(((a ++ k :: b).getD (a.length : Int).toNat default).p0 == name)) (some false) (grd (0 ≤ (a.length : Int) ∧ (a.length : Int) < ((a ++ k :: b).length : Int)) (iteB (!(((a ++ k :: b).getD (a.length : Int).toNat default).p1 == k.p1)) (some false) (grd (0 ≤ (a.length : Int) ∧ (a.length : Int) < ((a ++ k :: b).length : Int)) (iteB (((((a ++ k :: b).getD (a.length : Int).toNat default).p2).length : Int) != (k.p2.length : Int)) (some false) R)))))) = R := by
        intro R
        rw [toNat_nat, hget, decide_eq_false (by omega), iteB_f]
        simp only [grd_t _ hin]
        rw [h, Bool.not_true, iteB_f, beq_self_eq_true, Bool.not_true, iteB_f, ne_self, iteB_f]
      rw [F4_L1, decide_eq_true (by omega), iteB_t, toNat_nat (n := i), hg, grd_t _ (by omega), h, Bool.not_true, iteB_f, grd_t _ (by omega)]
      simp only [tail]
      rw [g64 i (by omega), g64 a.length (by omega)]
      by_cases h0 : a.length = 0
      · obtain rfl := List.eq_nil_of_length_eq_zero h0
        have hk : kidT ([] ++ k :: b) = (k, true) := rfl
        rw [hk, show ((([] : List Nd).length : Int) == 0) = true from rfl, iteB_t, Bool.not_true, iteB_f, beq_self_eq_true, Bool.not_true, iteB_f, ne_self, iteB_f]
        unfold valT
        rw [if_neg (by simp)]
        by_cases hp : 0 < k.p2.length
        · rw [if_pos hp, bq (show ¬ (k.p2.length : Int) = 0 by omega), beq_self_eq_true, Bool.not_true, iteB_f, iteB_f]
        · rw [if_neg hp, bqt (show (k.p2.length : Int) = 0 by omega), beq_self_eq_true, Bool.not_true, iteB_f, iteB_t, beq_self_eq_true, Bool.not_true, iteB_f]
      · rw [bq (show ¬ (a.length : Int) = 0 by omega), iteB_f]
theorem kids_law (x : Nd) (name : List UInt8) : Ev (fun n => F4 n x name) true := by
  obtain ⟨v, ⟨N0, e0⟩, h1, h2, h3⟩ := own_any 31 (Nat.le_refl _) x
  by_cases hv : 3000 ≤ v.2
  · refine ⟨N0, fun n hn => ?_⟩
    have q0 : F17 n x 0 = some v := e0 n hn
    show F4 n x name = _
    rw [F4, q0, bind_some', decide_eq_true hv, iteB_t]
  · have hl := h3 (by omega) (by omega)
    by_cases hn : 100 < name.length
    · refine ⟨N0, fun n hn' => ?_⟩
      have q0 : F17 n x 0 = some v := e0 n hn'
      show F4 n x name = _
      rw [F4, q0, bind_some', decide_eq_false hv, iteB_f, decide_eq_true (by omega), iteB_t]
    · obtain ⟨N1, e1⟩ := ev_Kid x name (by omega)
      obtain ⟨N2, e2⟩ := ev_Value x name (by omega)
      obtain ⟨N3, e3⟩ := ev_Kids x name (by omega)
      obtain ⟨N4, e4⟩ := law_loop x name (by omega) x.p2.length 0 (by omega)
      refine ⟨N0 + N1 + N2 + N3 + N4, fun n hn' => ?_⟩
      have q0 : F17 n x 0 = some v := e0 n (by omega)
      have q1 := e1 n (by omega)
      have q2 := e2 n (by omega)
      have q3 := e3 n (by omega)
      have q4 := e4 n (by omega)
      dsimp only at q1 q2 q3 q4
      show F4 n x name = _
      rw [F4, q0, bind_some', decide_eq_false hv, iteB_f, decide_eq_false (by omega), iteB_f, q1, bind_some', q2, bind_some', q3, bind_some']
      exact q4
theorem law_main (v0 : Nd) (v1 : List UInt8) (h0 : okT26 v0) (h1 : okT9 v1) : ∃ n, F4 n v0 v1 = some true := by
  obtain ⟨N, h⟩ := kids_law v0 v1
  exact ⟨N, h N (Nat.le_refl _)⟩
end Go.Proofs.YtcnkndmegnfofaaX

set_option linter.unusedVariables false
namespace Go.Proofs.YtcnkndmegnfofaaX
open Go Go.RowKit Go.Proofs
set_option maxRecDepth 100000
theorem shapedRow (xs : List T) (h : ShapesW Try.prog [27, 9] xs) : FnC Try.prog 4 xs (tb true) := shapedXmlinKids law_main xs h
end Go.Proofs.YtcnkndmegnfofaaX
namespace Go.Proofs.Ytcnkndmegnfofaa.xmlinKids
open Go.ChangeShapes Go.WideShapes Go.ChangeAt Go.RowKit
set_option linter.unusedVariables false
theorem own : ownKnob Try.prog.godebug = none := by kernel_rfl
set_option maxRecDepth 100000 in
theorem lifted (os : Os) (started : os.Started) (H : Type) (enc : TypeId × Value → H) :
    ReturnsInHanded {} Try.checked os 4 .any (Rows.xmlinKidsSpec.pre6 enc Try.prog Try.f4 Rows.xmlinKidsRow.domain false) (Rows.xmlinKidsSpec.post enc Try.prog Try.f4 false true false false) := by
  refine returnsInHanded_of_change_sized (C := Try.checked) own started (by kernel_rfl) Try.func4
    (ChangeSpec.witness6 (enc := enc) (C := Try.checked) false ⟨#[], #[.agg #[.string ByteArray.empty, .string ByteArray.empty, .slice none 0 0], .string ByteArray.empty], []⟩ 8 (by kernel_rfl) (by kernel_rfl) (by kernel_rfl) (by kernel_rfl)) ?_
  intro W base args ds gs before hval0 hW hcnd hsz0 _
  exact YtcnkndmegnfofaaX.row_contract (P := Try.prog) (fn := Try.f4) (s := Rows.xmlinKidsSpec) (ts := [27, 9]) (tb := 4) (L := [27, 9, 26, 25]) (by kernel_rfl) (by kernel_rfl) (by kernel_rfl) (by kernel_rfl) (by kernel_rfl) (by kernel_rfl) rfl
    (fun H ds h => by
      match ds, h with
      | [d0, d1], _ => rfl) YtcnkndmegnfofaaX.shapedRow W base args ds gs before hval0 hW
theorem over : Rows.xmlinKidsRow.holds Try.pinned (OpenSpec.ofChange Rows.xmlinKidsSpec) :=
  OpenClaim.holds_of_wide 4 Try.f4 rfl rfl rfl rfl rfl rfl rfl ⟨rfl, rfl, rfl, rfl, rfl⟩ rfl rfl rfl rfl rfl (by kernel_rfl) Try.func4 (by kernel_rfl)
    (of_decide_eq_true (by kernel_rfl)) (by unfold Func.isWrapper; first | (rw [if_pos (by decide +kernel)]; kernel_rfl) | (rw [if_neg (by decide +kernel)]; exact ⟨rfl, rfl⟩))
    (fun os started H enc _ => lifted os started H enc)
theorem proved : Rows.XmlinKidsSaid := over
#print axioms proved
end Go.Proofs.Ytcnkndmegnfofaa.xmlinKids
namespace Go.Proofs.Ytcnkndmegnfofaa
/-- The row, under a short name, for the claim. -/
theorem xmlinKids_holds : Rows.XmlinKidsSaid := xmlinKids.proved
end Go.Proofs.Ytcnkndmegnfofaa
