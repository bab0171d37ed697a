/- Part of the proof of RequestCloses: walks and plain words, merged. -/
import Derived.Test.YtbdkofondpalpaaDoorBRequestClosesb
import Derived.Test.YtbdkofondpalpaaDoorProg
import Derived.KernelRfl
import Derived.Shelf.Strings.SlTrimAscii
import Derived.Shelf.Lays
import Derived.Lib.Bytealg
import Derived.Lib.Strings
import Derived.Shelf.Strings.OnBuilder
import Derived.Shelf.Strings.BuilderX
import Derived.Lib.Join
set_option linter.unusedVariables false
set_option linter.unusedSimpArgs false

/- A struct that is built: the run stops there. Of no program. -/
set_option linter.unusedVariables false
set_option linter.unusedSimpArgs false
namespace Go.Proofs.YtbdkofondpalpaaDoorX
open Go Go.RowKit

def bldG (P : Program) (Q : Exit → St → Prop) (t : TypeId) (parts : List (Nat × T)) (dst : Option Tmp) (rest : List (Op × Option Tmp × Option (Option Tmp × Bool))) (S : St) (k : Kn) : Prop := buildW P t parts fun v => stepsK P Q rest (S.put dst v) k
theorem stepsK_build (P : Program) (Q : Exit → St → Prop) (S : St) (k : Kn) (t : TypeId) (l : List (Nat × Operand)) (dst : Option Tmp) (rest : List (Op × Option Tmp × Option (Option Tmp × Bool))) :
    stepsK P Q ((.build t ⟨l⟩, dst, none) :: rest) S k = bldG P Q t (l.map fun p => (p.1, evalT S p.2)) dst rest S k := by
  rw [stepsK_cons]
  simp only [opW]
  rfl
theorem stepsK_build0 (P : Program) (Q : Exit → St → Prop) (S : St) (k : Kn) (t : TypeId) (dst : Option Tmp) (rest : List (Op × Option Tmp × Option (Option Tmp × Bool))) :
    stepsK P Q ((.build t #[], dst, none) :: rest) S k = bldG P Q t [] dst rest S k := stepsK_build P Q S k t [] dst rest
theorem bldG_of {P : Program} {Q : Exit → St → Prop} {t : TypeId} {parts : List (Nat × T)} {dst : Option Tmp} {rest : List (Op × Option Tmp × Option (Option Tmp × Bool))} {S : St} {k : Kn} (l : List T) (h : buildL P t parts = some l) (hK : stepsK P Q rest (S.put dst (.agg l)) k) : bldG P Q t parts dst rest S k := buildW_of l h hK
/-- .. and a slice that is built. -/
def bsG (P : Program) (Q : Exit → St → Prop) (t : TypeId) (n : Nat) (parts : List (Nat × T)) (dst : Option Tmp) (rest : List (Op × Option Tmp × Option (Option Tmp × Bool))) (S : St) (k : Kn) : Prop := buildSliceX P S.objs.length t n parts fun v eff => stepsK P Q rest ((S.after eff).put dst v) k
theorem stepsK_bs (P : Program) (Q : Exit → St → Prop) (S : St) (k : Kn) (t : TypeId) (n : Nat) (l : List (Nat × Operand)) (dst : Option Tmp) (rest : List (Op × Option Tmp × Option (Option Tmp × Bool))) :
    stepsK P Q ((.buildSlice t n ⟨l⟩, dst, none) :: rest) S k = bsG P Q t n (l.map fun p => (p.1, evalT S p.2)) dst rest S k := by
  rw [stepsK_cons]
  simp only [opW]
  rfl
theorem stepsK_bs0 (P : Program) (Q : Exit → St → Prop) (S : St) (k : Kn) (t : TypeId) (n : Nat) (dst : Option Tmp) (rest : List (Op × Option Tmp × Option (Option Tmp × Bool))) :
    stepsK P Q ((.buildSlice t n #[], dst, none) :: rest) S k = bsG P Q t n [] dst rest S k := stepsK_bs P Q S k t n [] dst rest
theorem bs_go {P : Program} {Q : Exit → St → Prop} {t : TypeId} {n : Nat} {parts : List (Nat × T)} {dst : Option Tmp} {rest : List (Op × Option Tmp × Option (Option Tmp × Bool))} {S : St} {k : Kn} (h : buildSliceX P S.objs.length t n parts fun v eff => stepsK P Q rest ((S.after eff).put dst v) k) : bsG P Q t n parts dst rest S k := h
theorem closedL_map {α : Type} (e : α → T) (h : ∀ x, closedT (e x) = true) : ∀ l : List α, closedL (List.map e l) = true
  | [] => rfl
  | x :: l => by rw [List.map_cons, closedL, h, closedL_map e h l]; rfl
theorem ppL_map {α : Type} (o : Nat) (y : T) (e : α → T) (h : ∀ x, ppT o y (e x) = e x) : ∀ l : List α, ppL o y (List.map e l) = List.map e l
  | [] => rfl
  | x :: l => by rw [List.map_cons, ppL, h, ppL_map o y e h l]
theorem ppL_s (o : Nat) (y : T) (l : List (List UInt8)) : ppL o y (List.map eS l) = List.map eS l := ppL_map o y _ (fun _ => rfl) l
/-- Elements, one by one. -/
def leE (l l' : List T) : Prop := ∀ (E : Env) (sz : Nat) (c : List Value), RepR E sz l c → RepR E sz l' c
theorem leE_refl (l : List T) : leE l l := fun _ _ _ h => h
theorem leE_cons {x y : T} {l l' : List T} (h : leT anyE x y) (h' : leE l l') : leE (x :: l) (y :: l') := fun E sz c k => by
  simp only [RepR] at k ⊢
  obtain ⟨u, c', e, h1, h2, h3⟩ := k
  exact ⟨u, c', e, h1, h E true u trivial h2, h' E sz c' h3⟩
theorem leT_slX {sz : Nat} {f : Bool} {l l' : List T} (h : leE l l') (hl : l'.length = l.length) : leT anyE (.sl sz f l) (.sl sz false l') := fun E cl v hp k => by
  simp only [Rep] at k ⊢
  obtain ⟨a, cap, c, h1, h2, h3, h4, h5⟩ := k
  exact ⟨a, cap, c, by rw [hl]; exact h1, by rw [hl]; exact h2, (fun h => by cases h), h E sz c h4, h5⟩
end Go.Proofs.YtbdkofondpalpaaDoorX

/- Contracts over rows of the caller's, by a run; and their use. Of no program. -/
set_option linter.unusedVariables false
set_option linter.unusedSimpArgs false
namespace Go.Proofs.YtbdkofondpalpaaDoorX
open Go Go.RowKit

/-! ### At a function's end -/
def lockFr (n : Nat) : Nat → List (Option Own) → List (Option Own)
  | _, [] => []
  | i, x :: l => (if i < n then x else x.map Own.lockAll) :: lockFr n (i + 1) l
theorem lockFr_get (n : Nat) : ∀ (l : List (Option Own)) (i o : Nat), (lockFr n i l)[o]? = (l[o]?).map fun x => if i + o < n then x else x.map Own.lockAll
  | [], i, o => by simp [lockFr]
  | x :: l, i, o => by
    cases o with
    | zero => simp [lockFr]
    | succ o =>
      have := lockFr_get n l (i + 1) o
      rw [show i + 1 + o = i + (o + 1) by omega] at this
      simpa [lockFr] using this
theorem Sat.lockFr {B : Base} {S : St} {a : Act} {w : World} {μ : Nat → Option Nat} (hS : Sat B S a w μ) (n : Nat) : Sat B ⟨S.tmps, Go.Proofs.YtbdkofondpalpaaDoorX.lockFr n 0 S.objs⟩ a w μ := by
  refine hS.relock fun i => ?_
  rw [lockFr_get, Nat.zero_add]
  cases h : S.objs[i]? with
  | none => exact .none
  | some x =>
    rw [Option.map_some]
    by_cases hi : i < n
    · rw [if_pos hi]; exact RL.refl _
    · rw [if_neg hi]
      cases x with
      | none => exact .free
      | some y =>
        cases y with
        | box t x lk => exact .box fun _ => rfl
        | buf t sz l lk => exact .buf (Nat.le_max_left _ _) (fun h => Nat.max_le.2 ⟨h, Nat.le_refl _⟩)
        | dead => exact .dead
def lookFr (n : Nat) (o : List (Option Own)) (i : Nat) : Option Own := if i < n then none else o.getD i none
theorem lookFr_some {n : Nat} {o : List (Option Own)} {i : Nat} {x : Own} (h : lookFr n o i = some x) : o[i]? = some (some x) := by
  unfold lookFr at h
  split at h
  · cases h
  · rw [List.getD_eq_getElem?_getD] at h
    cases hz : o[i]? with
    | none => rw [hz] at h; cases h
    | some z => rw [hz] at h; exact congrArg some h
def Own.snap (look : Nat → Option Own) : Own → Own
  | .box t x lk => .box t (dsnap look x) lk
  | .buf t sz l lk => .buf t sz l lk
  | .dead => .dead
theorem dsnapL_length (look : Nat → Option Own) (l : List T) : (dsnapL look l).length = l.length := by rw [dsnapL_eq]; simp
theorem cells_dsnap (look : Nat → Option Own) (x : T) : (dsnap look x).cells.length = x.cells.length := by
  cases x with
  | agg l => simp only [dsnap, T.cells, dsnapL_length]
  | rsl o sz off len =>
    rw [dsnap]; unfold Go.Proofs.YtbdkofondpalpaaDoorX.snap
    dsimp only
    split
    · split <;> rfl
    · rfl
  | _ => rfl
theorem Own.snap_lock (look : Nat → Option Own) (x : Own) : (x.snap look).lock = x.lock := by
  cases x <;> simp only [Own.snap, Own.lock, cells_dsnap]
theorem Own.snap_dead {look : Nat → Option Own} {x : Own} : x.snap look = .dead ↔ x = .dead := by cases x <;> simp [Own.snap]
theorem Sat.snapR {B : Base} {S : St} {a : Act} {w : World} {μ : Nat → Option Nat} (hS : Sat B S a w μ) {look : Nat → Option Own} (hl : ∀ i x, look i = some x → S.objs[i]? = some (some x)) : Sat B ⟨dsnapL look S.tmps, S.objs.map (Option.map (Own.snap look))⟩ a w μ := by
  have hget : ∀ (o : Nat) (y : Own), (S.objs.map (Option.map (Own.snap look)))[o]? = some (some y) → ∃ x, S.objs[o]? = some (some x) ∧ y = x.snap look := by
    intro o y h
    rw [List.getElem?_map] at h
    cases hz : S.objs[o]? with
    | none => rw [hz] at h; cases h
    | some z =>
      rw [hz] at h
      cases z with
      | none => cases h
      | some z =>
        have h : some (some (z.snap look)) = some (some y) := h
        injection h with h; injection h with h
        exact ⟨z, rfl, h.symm⟩
  have hst : Step [] ⟨w, μ, S.objs, B.ban⟩ ⟨w, μ, S.objs.map (Option.map (Own.snap look)), B.ban⟩ := by
    refine ⟨⟨fun b j v ⟨h1, h2, h3⟩ => ⟨h1, fun lk ⟨o, y, k1, k2, k3⟩ => ?_, h3⟩, fun b c t fr hb => ⟨c, fr, hb, rfl⟩⟩, fun o ⟨x, hx⟩ _ => ⟨x.snap look, ?_⟩, fun _ _ _ => rfl⟩
    · obtain ⟨x, e1, rfl⟩ := hget o y k1
      rw [Own.snap_lock] at k3
      exact h2 lk ⟨o, x, e1, k2, k3⟩
    · have hx : S.objs[o]? = some (some x) := hx
      show (S.objs.map _)[o]? = _
      rw [List.getElem?_map, hx]; rfl
  refine ⟨RepL.step hst (dsnapL_rep hS hl _ _ hS.tmps), hS.defers, ⟨fun o y hy => ?_, fun o o' y y' b h1 h2 hd hd' hb hb' => ?_⟩, fun o y b h1 hd hb => ?_, hS.kept⟩
  · obtain ⟨x, hx, rfl⟩ := hget o y hy
    have := hS.objs.at_ o x hx
    cases x with
    | box t x lk =>
      obtain ⟨b, fr, u, h1, h2, h3, h4, h5⟩ := this
      exact ⟨b, fr, u, h1, h2, h3, Rep.step hst (dsnap_rep hS hl _ _ h4), by rw [cells_dsnap]; exact h5⟩
    | buf t sz l lk =>
      obtain ⟨h0, h1⟩ := this
      exact ⟨h0, h1.imp id fun ⟨b, c, fr, c1, c2, h1, h2, h3, h4, h5⟩ => ⟨b, c, fr, c1, c2, h1, h2, h3, h4, RepR.stepC hst.toStepC _ _ _ h5⟩⟩
    | dead => trivial
  · obtain ⟨x, hx, rfl⟩ := hget o y h1
    obtain ⟨x', hx', rfl⟩ := hget o' y' h2
    exact hS.objs.inj o o' x x' b hx hx' (fun e => hd (Own.snap_dead.2 e)) (fun e => hd' (Own.snap_dead.2 e)) hb hb'
  · obtain ⟨x, hx, rfl⟩ := hget o y h1
    rw [Own.snap_lock]
    exact hS.fresh o x b hx (fun e => hd (Own.snap_dead.2 e)) hb
/-- Rows from a number on are locked, and seen as slices; these temporaries alone are kept. -/
def St.fin (S : St) (n : Nat) (ts : List Nat) : St :=
  (St.keep ⟨dsnapL (lookFr n (lockFr n 0 S.objs)) S.tmps, (lockFr n 0 S.objs).map (Option.map (Own.snap (lookFr n (lockFr n 0 S.objs))))⟩ ts).cut n
theorem Sat.fin {B : Base} {S : St} {a : Act} {w : World} {μ : Nat → Option Nat} (hS : Sat B S a w μ) (n : Nat) (ts : List Nat) : Sat B (S.fin n ts) a w μ :=
  (((hS.lockFr n).snapR (look := lookFr n (Go.Proofs.YtbdkofondpalpaaDoorX.lockFr n 0 S.objs)) fun i x h => lookFr_some h).keep ts).cut n

def RetR (P : Program) (fn : Func) (res : T) (n : Nat) (ts : List Nat) (objs' : List (Option Own)) : Exit → St → Prop
  | .normal, S | .ret, S => leOs anyE (S.fin n ts).objs objs' ∧ resW P ⟨(S.fin n ts).tmps, objs'⟩ fn.results.toList fun l => leT anyE (retT l) res
  | _, _ => False
theorem FnR.ofW {P : Program} {f : FuncId} {fn : Func} {c : Code} {objs objs' : List (Option Own)} {args : List T} {res : T} (ts : List Nat) (hf : P.funcs[f]? = some fn) (hn : (fn.name == "runtime.NumGoroutine") = false) (hb : fn.body = some c)
    (hrows : rowsOk objs.length 0 objs = true) (hsame : sameO objs objs' = true) (hrefs : (refsCL args).all (fun o => decide (o < objs.length)) = true)
    (h : WP P c ⟨args ++ List.replicate (fn.ntmps - args.length) .junk, objs⟩ (RetR P fn res objs.length ts objs')) : FnR P f objs args res objs' := by
  refine ⟨⟨fn, hf, hn, by rw [hb]; rfl⟩, hrows, hsame, hrefs, fun B μ vs hO hOwn hv => ?_⟩
  have hlen := hv.length
  rw [Array.length_toList] at hlen
  have hS : Sat B ⟨args ++ List.replicate (fn.ntmps - args.length) .junk, objs⟩ { tmps := vs ++ Array.replicate (fn.ntmps - vs.size) undef, defers := [] } B.w μ := by
    refine ⟨?_, rfl, hO, fun o x b h1 h2 h3 => ?_, ⟨rfl, rfl, rfl, Nat.le_refl _, fun _ _ _ => rfl, fun _ _ _ _ _ => rfl, fun k lk _ c t fr h => ⟨c, fr, h, rfl⟩⟩⟩
    · have e : (vs ++ Array.replicate (fn.ntmps - vs.size) undef).toList = vs.toList ++ List.replicate (fn.ntmps - args.length) undef := by simp [hlen]
      show RepL _ _ _ (vs ++ Array.replicate (fn.ntmps - vs.size) undef).toList
      rw [e]
      refine RepL.append hv ?_
      generalize fn.ntmps - args.length = n
      induction n with
      | zero => simp [RepL]
      | succ n ih => simp only [List.replicate_succ, RepL]; exact ⟨_, _, rfl, by simp only [Rep], ih⟩
    · have h1 : objs[o]? = some (some x) := h1
      obtain ⟨l, hl⟩ : ∃ l, x.lock = some l := by cases x <;> first | exact ⟨_, rfl⟩ | exact absurd rfl h2
      exact .inr ⟨0, l, (hOwn.1 b 0).2 ⟨rfl, o, (List.getElem?_eq_some_iff.1 h1).1, h3⟩, hl, Nat.zero_le _⟩
  refine calls_of_wp hf hb (wp_mono (h B _ _ _ hS) fun e a w' ⟨S, μ1, hQ, hS'⟩ => ?_)
  have main : (leOs anyE (S.fin objs.length ts).objs objs' ∧ resW P ⟨(S.fin objs.length ts).tmps, objs'⟩ fn.results.toList fun l => leT anyE (retT l) res) → a.defers = [] ∧ ∃ v, (results fn a.tmps).run P w' = .ok v w' ∧ (∃ u μ', Ending.returned v = .returned u ∧ Objs ⟨w', μ', objs', B.ban⟩ ∧ Rep ⟨w', μ', objs', B.ban⟩ false res u ∧ Kept B w' ∧ (∀ (o : Nat) (x : Own) (b : Nat), objs'[o]? = some (some x) → x ≠ .dead → μ' o = some b → B.w.heap.size ≤ b ∨ B.own b 0)) := by
    rintro ⟨hR1, hR2⟩
    have hF : Sat B ⟨(S.fin objs.length ts).tmps, objs'⟩ a w' μ1 := (hS'.fin objs.length ts).le (p := anyE) (leL_refl _) hR1 trivial
    obtain ⟨l, us, h1, h3, h4⟩ := res_sound hF _ _ hR2
    refine ⟨hF.defers, if hh : us.toArray.size = 1 then us.toArray[0] else .tuple us.toArray, ?_, _, μ1, rfl, hF.objs, ?_, hF.kept, fun o x b k1 k2 k3 => ?_⟩
    · have hm : (fn.results.mapM (fun | .tmp t => pure (a.tmps.getD t undef) | .cell c t => do loadVar t (← asAddr (a.tmps.getD c undef)) : ResultVar → Sem Value)).run P w' = .ok us.toArray w' := by
        rw [Array.mapM_eq_mapM_toList, Sem.run_map]
        have : (fun | .tmp t => pure (a.tmps.getD t undef) | .cell c t => do loadVar t (← asAddr (a.tmps.getD c undef)) : ResultVar → Sem Value) = rdRes a.tmps := by
          funext r; cases r <;> rfl
        rw [this, h3]; rfl
      unfold results
      exact run_bind (f := fun vs : Array Value => (pure (if h : vs.size = 1 then vs[0] else Value.tuple vs) : Sem Value)) hm
    · refine h1 _ _ _ trivial ?_
      have hul := h4.length
      by_cases h1' : us.length = 1
      · obtain ⟨u, rfl⟩ := List.length_eq_one_iff.1 h1'
        obtain ⟨x, rfl⟩ := List.length_eq_one_iff.1 (hul.symm.trans h1')
        simp only [RepL] at h4
        obtain ⟨v, vs', e1, e2, e3⟩ := h4
        subst e3
        cases e1
        simpa [retT] using e2
      · rw [dif_neg (by simpa using h1')]
        have e : retT l = .tup l := by
          cases l with
          | nil => rfl
          | cons x l => cases l with
            | nil => exact absurd hul h1'
            | cons y l => rfl
        rw [e]
        simp only [Rep]
        exact ⟨_, rfl, by simpa using h4⟩
    · rcases hF.fresh o x b k1 k2 k3 with h | ⟨lk, lk', q1, _⟩
      · exact .inl h
      · have := ((hOwn.1 b lk).1 q1).1
        subst this
        exact .inr q1
  cases e with
  | normal => exact main hQ
  | ret => exact main hQ
  | _ => exact hQ.elim
theorem FnR.goX {P : Program} (hm : P.follows .mixedOrders = true) (ts : List Nat) {f : FuncId} {fn : Func} {c : Code} {objs objs' : List (Option Own)} {args : List T} {res : T} (hf : P.funcs[f]? = some fn) (hn : (fn.name == "runtime.NumGoroutine") = false) (hb : fn.body = some c)
    (hrows : rowsOk objs.length 0 objs = true) (hsame : sameO objs objs' = true) (hrefs : (refsCL args).all (fun o => decide (o < objs.length)) = true)
    (h : runX P (RetR P fn res objs.length ts objs') c ⟨args ++ List.replicate (fn.ntmps - args.length) .junk, objs⟩ .q) : FnR P f objs args res objs' := FnR.ofW ts hf hn hb hrows hsame hrefs h
section
variable {P : Program} {Q : Exit → St → Prop} {g : FuncId} {args args' : List T} {dst : Option Tmp} {rest : List (Op × Option Tmp × Option (Option Tmp × Bool))} {S : St} {k : Kn} {r : T} {objs objs' : List (Option Own)}
theorem callR_X (σ : List Nat) (h : FnR P g objs args' r objs') (hnd : σ.Nodup) (hrel : relsO σ (lookS S) σ objs) (ha : leL anyE args (renFL σ args')) (h2 : stepsK P Q rest ((S.after (.many (movesO σ objs) (newsO σ (lookS S) σ objs'))).put dst (renF σ r)) k) : callG P Q g args dst rest S k :=
  .inr ⟨σ, objs, args', r, objs', h, hnd, hrel, fun E vs hv => ha E false vs trivial hv, h2⟩
end
theorem renFL_map {α : Type} (f : List Nat) (e : α → T) (h : ∀ x, renF f (e x) = e x) : ∀ l : List α, renFL f (List.map e l) = List.map e l
  | [] => rfl
  | x :: l => by rw [List.map_cons, renFL, h, renFL_map f e h l]

/-! ### A pointer of a variable to itself, or none -/
def adT (b : Bool) (o : Nat) : T := match b with | true => .ref o 7777 0 0 | false => .imm (.pointer none)
theorem adT_refs (b : Bool) (o : Nat) : refsT (adT b o) = [] := by cases b <;> rfl
theorem adT_refsC {b : Bool} {o n : Nat} (h : o < n) : (refsC (adT b o)).all (fun q => decide (q < n)) = true := by cases b <;> simp [adT, refsC, h]
theorem adT_ren (f : List Nat) (b : Bool) (o : Nat) : renF f (adT b o) = adT b (f.getD o 0) := by cases b <;> rfl
theorem adT_kill {ks : List Nat} {b : Bool} {o : Nat} (h : ks.contains o = false) : kill ks (adT b o) = adT b o := by
  cases b
  · rfl
  · show (if ks.contains o = true then _ else _) = _
    rw [h]; rfl
theorem adT_snap (look : Nat → Option Own) (b : Bool) (o : Nat) : dsnap look (adT b o) = adT b o := by cases b <;> rfl
theorem adT_cells (b : Bool) (o : Nat) : (adT b o).cells = [adT b o] := by cases b <;> rfl
attribute [go_sem] adT_refs adT_refsC adT_ren adT_kill adT_snap adT_cells
attribute [go_sem] lockFr lookFr Own.snap St.fin renF renFL movesO newsO newO setsO relsO relO renFL_map
end Go.Proofs.YtbdkofondpalpaaDoorX

/- What the program's types are. -/
set_option linter.unusedVariables false
namespace Go.Proofs.YtbdkofondpalpaaDoorX
open Go Go.RowKit Go.Proofs
theorem small_of {P : Program} {t : TypeId} (h : ((P.info? t).all fun i => decide (i.bytes ≤ 256)) = true) : ∀ i, P.info? t = some i → i.bytes ≤ 256 := fun i hi => by
  rw [hi] at h; simpa using h
theorem notInt_of {d : Option TypeDesc} (h : (match d with | some (.int _) => false | some _ => true | none => false) = true) : notInt d := by
  cases d with
  | none => cases h
  | some d => refine ⟨d, rfl, fun k e => ?_⟩; subst e; cases h
theorem mixed : Tryd.prog.follows .mixedOrders = true := by kernel_rfl
theorem sz2 : szOf Tryd.prog 2 = 1 := by kernel_rfl
theorem cz2 : Tryd.prog.cellsOf 2 = 1 := by kernel_rfl
theorem ok2 : okT Tryd.prog 2 = true := by kernel_rfl
theorem ze2 : zeroOf Tryd.prog 2 = .imm (.int .i64 0) := by kernel_rfl
theorem by2 : (∀ i, Tryd.prog.info? 2 = some i → i.bytes ≤ 256) = True := eq_true (small_of (by kernel_rfl))
theorem sz3 : szOf Tryd.prog 3 = 1 := by kernel_rfl
theorem cz3 : Tryd.prog.cellsOf 3 = 1 := by kernel_rfl
theorem ok3 : okT Tryd.prog 3 = true := by kernel_rfl
theorem ze3 : zeroOf Tryd.prog 3 = .imm (.int .i64 0) := by kernel_rfl
theorem by3 : (∀ i, Tryd.prog.info? 3 = some i → i.bytes ≤ 256) = True := eq_true (small_of (by kernel_rfl))
theorem sz4 : szOf Tryd.prog 4 = 1 := by kernel_rfl
theorem cz4 : Tryd.prog.cellsOf 4 = 1 := by kernel_rfl
theorem ok4 : okT Tryd.prog 4 = true := by kernel_rfl
theorem ze4 : zeroOf Tryd.prog 4 = .imm (.bool false) := by kernel_rfl
theorem by4 : (∀ i, Tryd.prog.info? 4 = some i → i.bytes ≤ 256) = True := eq_true (small_of (by kernel_rfl))
theorem ni4 : notInt (Tryd.prog.underlying 4) = True := eq_true (notInt_of (by kernel_rfl))
theorem sz5 : szOf Tryd.prog 5 = 1 := by kernel_rfl
theorem cz5 : Tryd.prog.cellsOf 5 = 1 := by kernel_rfl
theorem ok5 : okT Tryd.prog 5 = true := by kernel_rfl
theorem ze5 : zeroOf Tryd.prog 5 = .imm (.int .u8 0) := by kernel_rfl
theorem by5 : (∀ i, Tryd.prog.info? 5 = some i → i.bytes ≤ 256) = True := eq_true (small_of (by kernel_rfl))
theorem sz6 : szOf Tryd.prog 6 = 1 := by kernel_rfl
theorem cz6 : Tryd.prog.cellsOf 6 = 1 := by kernel_rfl
theorem ok6 : okT Tryd.prog 6 = true := by kernel_rfl
theorem ze6 : zeroOf Tryd.prog 6 = .imm (.int .u8 0) := by kernel_rfl
theorem by6 : (∀ i, Tryd.prog.info? 6 = some i → i.bytes ≤ 256) = True := eq_true (small_of (by kernel_rfl))
theorem sz7 : szOf Tryd.prog 7 = 4 := by kernel_rfl
theorem cz7 : Tryd.prog.cellsOf 7 = 4 := by kernel_rfl
theorem ok7 : okT Tryd.prog 7 = true := by kernel_rfl
theorem ze7 : zeroOf Tryd.prog 7 = .agg [.imm (.int .i64 0), .imm (.int .i64 0), .imm (.bool false), .imm (.int .u8 0)] := by kernel_rfl
theorem by7 : (∀ i, Tryd.prog.info? 7 = some i → i.bytes ≤ 256) = True := eq_true (small_of (by kernel_rfl))
theorem ni7 : notInt (Tryd.prog.underlying 7) = True := eq_true (notInt_of (by kernel_rfl))
theorem sz8 : szOf Tryd.prog 8 = 4 := by kernel_rfl
theorem cz8 : Tryd.prog.cellsOf 8 = 4 := by kernel_rfl
theorem ok8 : okT Tryd.prog 8 = true := by kernel_rfl
theorem ze8 : zeroOf Tryd.prog 8 = .agg [.imm (.int .i64 0), .imm (.int .i64 0), .imm (.bool false), .imm (.int .u8 0)] := by kernel_rfl
theorem by8 : (∀ i, Tryd.prog.info? 8 = some i → i.bytes ≤ 256) = True := eq_true (small_of (by kernel_rfl))
theorem ni8 : notInt (Tryd.prog.underlying 8) = True := eq_true (notInt_of (by kernel_rfl))
theorem sz9 : szOf Tryd.prog 9 = 1 := by kernel_rfl
theorem cz9 : Tryd.prog.cellsOf 9 = 1 := by kernel_rfl
theorem ok9 : okT Tryd.prog 9 = true := by kernel_rfl
theorem ze9 : zeroOf Tryd.prog 9 = .imm (.string ByteArray.empty) := by kernel_rfl
theorem by9 : (∀ i, Tryd.prog.info? 9 = some i → i.bytes ≤ 256) = True := eq_true (small_of (by kernel_rfl))
theorem ni9 : notInt (Tryd.prog.underlying 9) = True := eq_true (notInt_of (by kernel_rfl))
theorem sz10 : szOf Tryd.prog 10 = 1 := by kernel_rfl
theorem cz10 : Tryd.prog.cellsOf 10 = 1 := by kernel_rfl
theorem ok10 : okT Tryd.prog 10 = true := by kernel_rfl
theorem ze10 : zeroOf Tryd.prog 10 = .imm (.string ByteArray.empty) := by kernel_rfl
theorem by10 : (∀ i, Tryd.prog.info? 10 = some i → i.bytes ≤ 256) = True := eq_true (small_of (by kernel_rfl))
theorem ni10 : notInt (Tryd.prog.underlying 10) = True := eq_true (notInt_of (by kernel_rfl))
theorem sz11 : szOf Tryd.prog 11 = 1 := by kernel_rfl
theorem cz11 : Tryd.prog.cellsOf 11 = 1 := by kernel_rfl
theorem ok11 : okT Tryd.prog 11 = true := by kernel_rfl
theorem ze11 : zeroOf Tryd.prog 11 = .imm (.string ByteArray.empty) := by kernel_rfl
theorem by11 : (∀ i, Tryd.prog.info? 11 = some i → i.bytes ≤ 256) = True := eq_true (small_of (by kernel_rfl))
theorem ni11 : notInt (Tryd.prog.underlying 11) = True := eq_true (notInt_of (by kernel_rfl))
theorem sz12 : szOf Tryd.prog 12 = 1 := by kernel_rfl
theorem cz12 : Tryd.prog.cellsOf 12 = 1 := by kernel_rfl
theorem ok12 : okT Tryd.prog 12 = true := by kernel_rfl
theorem ze12 : zeroOf Tryd.prog 12 = .imm (.int .u64 0) := by kernel_rfl
theorem by12 : (∀ i, Tryd.prog.info? 12 = some i → i.bytes ≤ 256) = True := eq_true (small_of (by kernel_rfl))
theorem sz13 : szOf Tryd.prog 13 = 2 := by kernel_rfl
theorem cz13 : Tryd.prog.cellsOf 13 = 2 := by kernel_rfl
theorem ok13 : okT Tryd.prog 13 = true := by kernel_rfl
theorem ze13 : zeroOf Tryd.prog 13 = .agg [.imm (.string ByteArray.empty), .imm (.int .u64 0)] := by kernel_rfl
theorem by13 : (∀ i, Tryd.prog.info? 13 = some i → i.bytes ≤ 256) = True := eq_true (small_of (by kernel_rfl))
theorem ni13 : notInt (Tryd.prog.underlying 13) = True := eq_true (notInt_of (by kernel_rfl))
theorem sz14 : szOf Tryd.prog 14 = 2 := by kernel_rfl
theorem cz14 : Tryd.prog.cellsOf 14 = 2 := by kernel_rfl
theorem ok14 : okT Tryd.prog 14 = true := by kernel_rfl
theorem ze14 : zeroOf Tryd.prog 14 = .agg [.imm (.string ByteArray.empty), .imm (.int .u64 0)] := by kernel_rfl
theorem by14 : (∀ i, Tryd.prog.info? 14 = some i → i.bytes ≤ 256) = True := eq_true (small_of (by kernel_rfl))
theorem ni14 : notInt (Tryd.prog.underlying 14) = True := eq_true (notInt_of (by kernel_rfl))
theorem sz15 : szOf Tryd.prog 15 = 1 := by kernel_rfl
theorem cz15 : Tryd.prog.cellsOf 15 = 1 := by kernel_rfl
theorem ok15 : okT Tryd.prog 15 = true := by kernel_rfl
theorem ze15 : zeroOf Tryd.prog 15 = .imm (.pointer none) := by kernel_rfl
theorem by15 : (∀ i, Tryd.prog.info? 15 = some i → i.bytes ≤ 256) = True := eq_true (small_of (by kernel_rfl))
theorem ni15 : notInt (Tryd.prog.underlying 15) = True := eq_true (notInt_of (by kernel_rfl))
theorem sz16 : szOf Tryd.prog 16 = 1 := by kernel_rfl
theorem cz16 : Tryd.prog.cellsOf 16 = 1 := by kernel_rfl
theorem ok16 : okT Tryd.prog 16 = true := by kernel_rfl
theorem ze16 : zeroOf Tryd.prog 16 = .imm (.pointer none) := by kernel_rfl
theorem by16 : (∀ i, Tryd.prog.info? 16 = some i → i.bytes ≤ 256) = True := eq_true (small_of (by kernel_rfl))
theorem ni16 : notInt (Tryd.prog.underlying 16) = True := eq_true (notInt_of (by kernel_rfl))
theorem sz17 : szOf Tryd.prog 17 = 1 := by kernel_rfl
theorem cz17 : Tryd.prog.cellsOf 17 = 1 := by kernel_rfl
theorem ok17 : okT Tryd.prog 17 = true := by kernel_rfl
theorem ze17 : zeroOf Tryd.prog 17 = .imm (.pointer none) := by kernel_rfl
theorem by17 : (∀ i, Tryd.prog.info? 17 = some i → i.bytes ≤ 256) = True := eq_true (small_of (by kernel_rfl))
theorem ni17 : notInt (Tryd.prog.underlying 17) = True := eq_true (notInt_of (by kernel_rfl))
theorem sz18 : szOf Tryd.prog 18 = 1 := by kernel_rfl
theorem cz18 : Tryd.prog.cellsOf 18 = 1 := by kernel_rfl
theorem ok18 : okT Tryd.prog 18 = true := by kernel_rfl
theorem ze18 : zeroOf Tryd.prog 18 = .agg [.imm (.pointer none)] := by kernel_rfl
theorem by18 : (∀ i, Tryd.prog.info? 18 = some i → i.bytes ≤ 256) = True := eq_true (small_of (by kernel_rfl))
theorem ni18 : notInt (Tryd.prog.underlying 18) = True := eq_true (notInt_of (by kernel_rfl))
theorem sz19 : szOf Tryd.prog 19 = 1 := by kernel_rfl
theorem cz19 : Tryd.prog.cellsOf 19 = 1 := by kernel_rfl
theorem ok19 : okT Tryd.prog 19 = true := by kernel_rfl
theorem ze19 : zeroOf Tryd.prog 19 = .agg [.imm (.pointer none)] := by kernel_rfl
theorem by19 : (∀ i, Tryd.prog.info? 19 = some i → i.bytes ≤ 256) = True := eq_true (small_of (by kernel_rfl))
theorem ni19 : notInt (Tryd.prog.underlying 19) = True := eq_true (notInt_of (by kernel_rfl))
theorem sz20 : szOf Tryd.prog 20 = 1 := by kernel_rfl
theorem cz20 : Tryd.prog.cellsOf 20 = 1 := by kernel_rfl
theorem ok20 : okT Tryd.prog 20 = true := by kernel_rfl
theorem ze20 : zeroOf Tryd.prog 20 = .imm .nilIface := by kernel_rfl
theorem by20 : (∀ i, Tryd.prog.info? 20 = some i → i.bytes ≤ 256) = True := eq_true (small_of (by kernel_rfl))
theorem ni20 : notInt (Tryd.prog.underlying 20) = True := eq_true (notInt_of (by kernel_rfl))
theorem sz21 : szOf Tryd.prog 21 = 1 := by kernel_rfl
theorem cz21 : Tryd.prog.cellsOf 21 = 1 := by kernel_rfl
theorem ok21 : okT Tryd.prog 21 = true := by kernel_rfl
theorem ze21 : zeroOf Tryd.prog 21 = .imm (.int .i32 0) := by kernel_rfl
theorem by21 : (∀ i, Tryd.prog.info? 21 = some i → i.bytes ≤ 256) = True := eq_true (small_of (by kernel_rfl))
theorem sz22 : szOf Tryd.prog 22 = 1 := by kernel_rfl
theorem cz22 : Tryd.prog.cellsOf 22 = 1 := by kernel_rfl
theorem ok22 : okT Tryd.prog 22 = true := by kernel_rfl
theorem ze22 : zeroOf Tryd.prog 22 = .sl 0 true [] := by kernel_rfl
theorem by22 : (∀ i, Tryd.prog.info? 22 = some i → i.bytes ≤ 256) = True := eq_true (small_of (by kernel_rfl))
theorem ni22 : notInt (Tryd.prog.underlying 22) = True := eq_true (notInt_of (by kernel_rfl))
theorem sz23 : szOf Tryd.prog 23 = 2 := by kernel_rfl
theorem cz23 : Tryd.prog.cellsOf 23 = 2 := by kernel_rfl
theorem ok23 : okT Tryd.prog 23 = true := by kernel_rfl
theorem ze23 : zeroOf Tryd.prog 23 = .agg [.imm (.bool false), .imm (.string ByteArray.empty)] := by kernel_rfl
theorem by23 : (∀ i, Tryd.prog.info? 23 = some i → i.bytes ≤ 256) = True := eq_true (small_of (by kernel_rfl))
theorem eg23 : Tryd.prog.eqGuardType Tryd.prog.depth 23 = false := by kernel_rfl
theorem sh23 : Tryd.prog.stoodInHeld 23 = false := by kernel_rfl
theorem ni23 : notInt (Tryd.prog.underlying 23) = True := eq_true (notInt_of (by kernel_rfl))
theorem sz24 : szOf Tryd.prog 24 = 2 := by kernel_rfl
theorem cz24 : Tryd.prog.cellsOf 24 = 2 := by kernel_rfl
theorem ok24 : okT Tryd.prog 24 = true := by kernel_rfl
theorem ze24 : zeroOf Tryd.prog 24 = .agg [.imm (.bool false), .imm (.string ByteArray.empty)] := by kernel_rfl
theorem by24 : (∀ i, Tryd.prog.info? 24 = some i → i.bytes ≤ 256) = True := eq_true (small_of (by kernel_rfl))
theorem eg24 : Tryd.prog.eqGuardType Tryd.prog.depth 24 = false := by kernel_rfl
theorem sh24 : Tryd.prog.stoodInHeld 24 = false := by kernel_rfl
theorem ni24 : notInt (Tryd.prog.underlying 24) = True := eq_true (notInt_of (by kernel_rfl))
theorem sz29 : szOf Tryd.prog 29 = 1 := by kernel_rfl
theorem cz29 : Tryd.prog.cellsOf 29 = 1 := by kernel_rfl
theorem ok29 : okT Tryd.prog 29 = true := by kernel_rfl
theorem ze29 : zeroOf Tryd.prog 29 = .sl 0 true [] := by kernel_rfl
theorem by29 : (∀ i, Tryd.prog.info? 29 = some i → i.bytes ≤ 256) = True := eq_true (small_of (by kernel_rfl))
theorem ni29 : notInt (Tryd.prog.underlying 29) = True := eq_true (notInt_of (by kernel_rfl))
theorem sz32 : szOf Tryd.prog 32 = 1 := by kernel_rfl
theorem cz32 : Tryd.prog.cellsOf 32 = 1 := by kernel_rfl
theorem ok32 : okT Tryd.prog 32 = true := by kernel_rfl
theorem ze32 : zeroOf Tryd.prog 32 = .sl 0 true [] := by kernel_rfl
theorem by32 : (∀ i, Tryd.prog.info? 32 = some i → i.bytes ≤ 256) = True := eq_true (small_of (by kernel_rfl))
theorem ni32 : notInt (Tryd.prog.underlying 32) = True := eq_true (notInt_of (by kernel_rfl))
theorem sz35 : szOf Tryd.prog 35 = 2 := by kernel_rfl
theorem cz35 : Tryd.prog.cellsOf 35 = 2 := by kernel_rfl
theorem ok35 : okT Tryd.prog 35 = true := by kernel_rfl
theorem ze35 : zeroOf Tryd.prog 35 = .agg [.imm (.string ByteArray.empty), .imm (.string ByteArray.empty)] := by kernel_rfl
theorem by35 : (∀ i, Tryd.prog.info? 35 = some i → i.bytes ≤ 256) = True := eq_true (small_of (by kernel_rfl))
theorem eg35 : Tryd.prog.eqGuardType Tryd.prog.depth 35 = false := by kernel_rfl
theorem sh35 : Tryd.prog.stoodInHeld 35 = false := by kernel_rfl
theorem ni35 : notInt (Tryd.prog.underlying 35) = True := eq_true (notInt_of (by kernel_rfl))
theorem sz36 : szOf Tryd.prog 36 = 2 := by kernel_rfl
theorem cz36 : Tryd.prog.cellsOf 36 = 2 := by kernel_rfl
theorem ok36 : okT Tryd.prog 36 = true := by kernel_rfl
theorem ze36 : zeroOf Tryd.prog 36 = .agg [.imm (.string ByteArray.empty), .imm (.string ByteArray.empty)] := by kernel_rfl
theorem by36 : (∀ i, Tryd.prog.info? 36 = some i → i.bytes ≤ 256) = True := eq_true (small_of (by kernel_rfl))
theorem eg36 : Tryd.prog.eqGuardType Tryd.prog.depth 36 = false := by kernel_rfl
theorem sh36 : Tryd.prog.stoodInHeld 36 = false := by kernel_rfl
theorem ni36 : notInt (Tryd.prog.underlying 36) = True := eq_true (notInt_of (by kernel_rfl))
theorem sz37 : szOf Tryd.prog 37 = 2 := by kernel_rfl
theorem cz37 : Tryd.prog.cellsOf 37 = 2 := by kernel_rfl
theorem ok37 : okT Tryd.prog 37 = true := by kernel_rfl
theorem ze37 : zeroOf Tryd.prog 37 = .agg [.imm (.string ByteArray.empty), .imm (.string ByteArray.empty)] := by kernel_rfl
theorem by37 : (∀ i, Tryd.prog.info? 37 = some i → i.bytes ≤ 256) = True := eq_true (small_of (by kernel_rfl))
theorem eg37 : Tryd.prog.eqGuardType Tryd.prog.depth 37 = false := by kernel_rfl
theorem sh37 : Tryd.prog.stoodInHeld 37 = false := by kernel_rfl
theorem ni37 : notInt (Tryd.prog.underlying 37) = True := eq_true (notInt_of (by kernel_rfl))
theorem sz39 : szOf Tryd.prog 39 = 1 := by kernel_rfl
theorem cz39 : Tryd.prog.cellsOf 39 = 1 := by kernel_rfl
theorem ok39 : okT Tryd.prog 39 = true := by kernel_rfl
theorem ze39 : zeroOf Tryd.prog 39 = .sl 0 true [] := by kernel_rfl
theorem by39 : (∀ i, Tryd.prog.info? 39 = some i → i.bytes ≤ 256) = True := eq_true (small_of (by kernel_rfl))
theorem ni39 : notInt (Tryd.prog.underlying 39) = True := eq_true (notInt_of (by kernel_rfl))
theorem sz40 : szOf Tryd.prog 40 = 1 := by kernel_rfl
theorem cz40 : Tryd.prog.cellsOf 40 = 1 := by kernel_rfl
theorem ok40 : okT Tryd.prog 40 = true := by kernel_rfl
theorem ze40 : zeroOf Tryd.prog 40 = .sl 0 true [] := by kernel_rfl
theorem by40 : (∀ i, Tryd.prog.info? 40 = some i → i.bytes ≤ 256) = True := eq_true (small_of (by kernel_rfl))
theorem ni40 : notInt (Tryd.prog.underlying 40) = True := eq_true (notInt_of (by kernel_rfl))
theorem sz43 : szOf Tryd.prog 43 = 2 := by kernel_rfl
theorem cz43 : Tryd.prog.cellsOf 43 = 2 := by kernel_rfl
theorem ok43 : okT Tryd.prog 43 = true := by kernel_rfl
theorem ze43 : zeroOf Tryd.prog 43 = .agg [.imm (.string ByteArray.empty), .imm (.string ByteArray.empty)] := by kernel_rfl
theorem by43 : (∀ i, Tryd.prog.info? 43 = some i → i.bytes ≤ 256) = True := eq_true (small_of (by kernel_rfl))
theorem eg43 : Tryd.prog.eqGuardType Tryd.prog.depth 43 = false := by kernel_rfl
theorem sh43 : Tryd.prog.stoodInHeld 43 = false := by kernel_rfl
theorem ni43 : notInt (Tryd.prog.underlying 43) = True := eq_true (notInt_of (by kernel_rfl))
theorem sz44 : szOf Tryd.prog 44 = 2 := by kernel_rfl
theorem cz44 : Tryd.prog.cellsOf 44 = 2 := by kernel_rfl
theorem ok44 : okT Tryd.prog 44 = true := by kernel_rfl
theorem ze44 : zeroOf Tryd.prog 44 = .agg [.imm (.string ByteArray.empty), .imm (.string ByteArray.empty)] := by kernel_rfl
theorem by44 : (∀ i, Tryd.prog.info? 44 = some i → i.bytes ≤ 256) = True := eq_true (small_of (by kernel_rfl))
theorem eg44 : Tryd.prog.eqGuardType Tryd.prog.depth 44 = false := by kernel_rfl
theorem sh44 : Tryd.prog.stoodInHeld 44 = false := by kernel_rfl
theorem ni44 : notInt (Tryd.prog.underlying 44) = True := eq_true (notInt_of (by kernel_rfl))
theorem sz47 : szOf Tryd.prog 47 = 2 := by kernel_rfl
theorem cz47 : Tryd.prog.cellsOf 47 = 2 := by kernel_rfl
theorem ok47 : okT Tryd.prog 47 = true := by kernel_rfl
theorem ze47 : zeroOf Tryd.prog 47 = .agg [.imm (.string ByteArray.empty), .imm (.string ByteArray.empty)] := by kernel_rfl
theorem by47 : (∀ i, Tryd.prog.info? 47 = some i → i.bytes ≤ 256) = True := eq_true (small_of (by kernel_rfl))
theorem eg47 : Tryd.prog.eqGuardType Tryd.prog.depth 47 = false := by kernel_rfl
theorem sh47 : Tryd.prog.stoodInHeld 47 = false := by kernel_rfl
theorem ni47 : notInt (Tryd.prog.underlying 47) = True := eq_true (notInt_of (by kernel_rfl))
theorem sz53 : szOf Tryd.prog 53 = 1 := by kernel_rfl
theorem cz53 : Tryd.prog.cellsOf 53 = 1 := by kernel_rfl
theorem ok53 : okT Tryd.prog 53 = true := by kernel_rfl
theorem ze53 : zeroOf Tryd.prog 53 = .sl 0 true [] := by kernel_rfl
theorem by53 : (∀ i, Tryd.prog.info? 53 = some i → i.bytes ≤ 256) = True := eq_true (small_of (by kernel_rfl))
theorem ni53 : notInt (Tryd.prog.underlying 53) = True := eq_true (notInt_of (by kernel_rfl))
theorem sz56 : szOf Tryd.prog 56 = 1 := by kernel_rfl
theorem cz56 : Tryd.prog.cellsOf 56 = 1 := by kernel_rfl
theorem ok56 : okT Tryd.prog 56 = true := by kernel_rfl
theorem ze56 : zeroOf Tryd.prog 56 = .sl 0 true [] := by kernel_rfl
theorem by56 : (∀ i, Tryd.prog.info? 56 = some i → i.bytes ≤ 256) = True := eq_true (small_of (by kernel_rfl))
theorem ni56 : notInt (Tryd.prog.underlying 56) = True := eq_true (notInt_of (by kernel_rfl))
theorem sz59 : szOf Tryd.prog 59 = 2 := by kernel_rfl
theorem cz59 : Tryd.prog.cellsOf 59 = 2 := by kernel_rfl
theorem ok59 : okT Tryd.prog 59 = true := by kernel_rfl
theorem ze59 : zeroOf Tryd.prog 59 = .agg [.imm (.bool false), .imm (.string ByteArray.empty)] := by kernel_rfl
theorem by59 : (∀ i, Tryd.prog.info? 59 = some i → i.bytes ≤ 256) = True := eq_true (small_of (by kernel_rfl))
theorem eg59 : Tryd.prog.eqGuardType Tryd.prog.depth 59 = false := by kernel_rfl
theorem sh59 : Tryd.prog.stoodInHeld 59 = false := by kernel_rfl
theorem ni59 : notInt (Tryd.prog.underlying 59) = True := eq_true (notInt_of (by kernel_rfl))
theorem sz62 : szOf Tryd.prog 62 = 1 := by kernel_rfl
theorem cz62 : Tryd.prog.cellsOf 62 = 1 := by kernel_rfl
theorem ok62 : okT Tryd.prog 62 = true := by kernel_rfl
theorem ze62 : zeroOf Tryd.prog 62 = .sl 0 true [] := by kernel_rfl
theorem by62 : (∀ i, Tryd.prog.info? 62 = some i → i.bytes ≤ 256) = True := eq_true (small_of (by kernel_rfl))
theorem ni62 : notInt (Tryd.prog.underlying 62) = True := eq_true (notInt_of (by kernel_rfl))
theorem sz63 : szOf Tryd.prog 63 = 6 := by kernel_rfl
theorem cz63 : Tryd.prog.cellsOf 63 = 6 := by kernel_rfl
theorem ok63 : okT Tryd.prog 63 = true := by kernel_rfl
theorem ze63 : zeroOf Tryd.prog 63 = .agg [.imm (.string ByteArray.empty), .imm (.string ByteArray.empty), .imm (.string ByteArray.empty), .sl 0 true [], .sl 0 true [], .sl 0 true []] := by kernel_rfl
theorem by63 : (∀ i, Tryd.prog.info? 63 = some i → i.bytes ≤ 256) = True := eq_true (small_of (by kernel_rfl))
theorem ni63 : notInt (Tryd.prog.underlying 63) = True := eq_true (notInt_of (by kernel_rfl))
theorem sz64 : szOf Tryd.prog 64 = 6 := by kernel_rfl
theorem cz64 : Tryd.prog.cellsOf 64 = 6 := by kernel_rfl
theorem ok64 : okT Tryd.prog 64 = true := by kernel_rfl
theorem ze64 : zeroOf Tryd.prog 64 = .agg [.imm (.string ByteArray.empty), .imm (.string ByteArray.empty), .imm (.string ByteArray.empty), .sl 0 true [], .sl 0 true [], .sl 0 true []] := by kernel_rfl
theorem by64 : (∀ i, Tryd.prog.info? 64 = some i → i.bytes ≤ 256) = True := eq_true (small_of (by kernel_rfl))
theorem ni64 : notInt (Tryd.prog.underlying 64) = True := eq_true (notInt_of (by kernel_rfl))
theorem sz69 : szOf Tryd.prog 69 = 1 := by kernel_rfl
theorem cz69 : Tryd.prog.cellsOf 69 = 1 := by kernel_rfl
theorem ok69 : okT Tryd.prog 69 = true := by kernel_rfl
theorem ze69 : zeroOf Tryd.prog 69 = .imm (.int .i64 0) := by kernel_rfl
theorem by69 : (∀ i, Tryd.prog.info? 69 = some i → i.bytes ≤ 256) = True := eq_true (small_of (by kernel_rfl))
theorem sz88 : szOf Tryd.prog 88 = 15 := by kernel_rfl
theorem cz88 : Tryd.prog.cellsOf 88 = 15 := by kernel_rfl
theorem ok88 : okT Tryd.prog 88 = true := by kernel_rfl
theorem ze88 : zeroOf Tryd.prog 88 = .agg [.imm (.int .u8 0), .imm (.int .u8 0), .imm (.int .u8 0), .imm (.int .u8 0), .imm (.int .u8 0), .imm (.int .u8 0), .imm (.int .u8 0), .imm (.int .u8 0), .imm (.int .u8 0), .imm (.int .u8 0), .imm (.int .u8 0), .imm (.int .u8 0), .imm (.int .u8 0), .imm (.int .u8 0), .imm (.int .u8 0)] := by kernel_rfl
theorem by88 : (∀ i, Tryd.prog.info? 88 = some i → i.bytes ≤ 256) = True := eq_true (small_of (by kernel_rfl))
theorem eg88 : Tryd.prog.eqGuardType Tryd.prog.depth 88 = false := by kernel_rfl
theorem sh88 : Tryd.prog.stoodInHeld 88 = false := by kernel_rfl
theorem ni88 : notInt (Tryd.prog.underlying 88) = True := eq_true (notInt_of (by kernel_rfl))
theorem sz92 : szOf Tryd.prog 92 = 1 := by kernel_rfl
theorem cz92 : Tryd.prog.cellsOf 92 = 1 := by kernel_rfl
theorem ok92 : okT Tryd.prog 92 = true := by kernel_rfl
theorem ze92 : zeroOf Tryd.prog 92 = .imm (.pointer none) := by kernel_rfl
theorem by92 : (∀ i, Tryd.prog.info? 92 = some i → i.bytes ≤ 256) = True := eq_true (small_of (by kernel_rfl))
theorem ni92 : notInt (Tryd.prog.underlying 92) = True := eq_true (notInt_of (by kernel_rfl))
theorem sz93 : szOf Tryd.prog 93 = 2 := by kernel_rfl
theorem cz93 : Tryd.prog.cellsOf 93 = 2 := by kernel_rfl
theorem ok93 : okT Tryd.prog 93 = true := by kernel_rfl
theorem ze93 : zeroOf Tryd.prog 93 = .agg [.imm (.pointer none), .sl 0 true []] := by kernel_rfl
theorem by93 : (∀ i, Tryd.prog.info? 93 = some i → i.bytes ≤ 256) = True := eq_true (small_of (by kernel_rfl))
theorem ni93 : notInt (Tryd.prog.underlying 93) = True := eq_true (notInt_of (by kernel_rfl))
theorem sz94 : szOf Tryd.prog 94 = 2 := by kernel_rfl
theorem cz94 : Tryd.prog.cellsOf 94 = 2 := by kernel_rfl
theorem ok94 : okT Tryd.prog 94 = true := by kernel_rfl
theorem ze94 : zeroOf Tryd.prog 94 = .agg [.imm (.pointer none), .sl 0 true []] := by kernel_rfl
theorem by94 : (∀ i, Tryd.prog.info? 94 = some i → i.bytes ≤ 256) = True := eq_true (small_of (by kernel_rfl))
theorem ni94 : notInt (Tryd.prog.underlying 94) = True := eq_true (notInt_of (by kernel_rfl))
theorem sz95 : szOf Tryd.prog 95 = 1 := by kernel_rfl
theorem cz95 : Tryd.prog.cellsOf 95 = 1 := by kernel_rfl
theorem ok95 : okT Tryd.prog 95 = true := by kernel_rfl
theorem ze95 : zeroOf Tryd.prog 95 = .imm .nilIface := by kernel_rfl
theorem by95 : (∀ i, Tryd.prog.info? 95 = some i → i.bytes ≤ 256) = True := eq_true (small_of (by kernel_rfl))
theorem ni95 : notInt (Tryd.prog.underlying 95) = True := eq_true (notInt_of (by kernel_rfl))
theorem sz96 : szOf Tryd.prog 96 = 1 := by kernel_rfl
theorem cz96 : Tryd.prog.cellsOf 96 = 1 := by kernel_rfl
theorem ok96 : okT Tryd.prog 96 = true := by kernel_rfl
theorem ze96 : zeroOf Tryd.prog 96 = .imm .nilIface := by kernel_rfl
theorem by96 : (∀ i, Tryd.prog.info? 96 = some i → i.bytes ≤ 256) = True := eq_true (small_of (by kernel_rfl))
theorem ni96 : notInt (Tryd.prog.underlying 96) = True := eq_true (notInt_of (by kernel_rfl))
theorem sz112 : szOf Tryd.prog 112 = 1 := by kernel_rfl
theorem cz112 : Tryd.prog.cellsOf 112 = 1 := by kernel_rfl
theorem ok112 : okT Tryd.prog 112 = true := by kernel_rfl
theorem ze112 : zeroOf Tryd.prog 112 = .imm .nilFunc := by kernel_rfl
theorem by112 : (∀ i, Tryd.prog.info? 112 = some i → i.bytes ≤ 256) = True := eq_true (small_of (by kernel_rfl))
theorem ni112 : notInt (Tryd.prog.underlying 112) = True := eq_true (notInt_of (by kernel_rfl))
theorem sz115 : szOf Tryd.prog 115 = 1 := by kernel_rfl
theorem cz115 : Tryd.prog.cellsOf 115 = 1 := by kernel_rfl
theorem ok115 : okT Tryd.prog 115 = true := by kernel_rfl
theorem ze115 : zeroOf Tryd.prog 115 = .imm (.pointer none) := by kernel_rfl
theorem by115 : (∀ i, Tryd.prog.info? 115 = some i → i.bytes ≤ 256) = True := eq_true (small_of (by kernel_rfl))
theorem ni115 : notInt (Tryd.prog.underlying 115) = True := eq_true (notInt_of (by kernel_rfl))
theorem sz116 : szOf Tryd.prog 116 = 2 := by kernel_rfl
theorem cz116 : Tryd.prog.cellsOf 116 = 2 := by kernel_rfl
theorem ok116 : okT Tryd.prog 116 = true := by kernel_rfl
theorem ze116 : zeroOf Tryd.prog 116 = .agg [.sl 0 true [], .imm (.int .i64 0)] := by kernel_rfl
theorem by116 : (∀ i, Tryd.prog.info? 116 = some i → i.bytes ≤ 256) = True := eq_true (small_of (by kernel_rfl))
theorem ni116 : notInt (Tryd.prog.underlying 116) = True := eq_true (notInt_of (by kernel_rfl))
theorem sz117 : szOf Tryd.prog 117 = 2 := by kernel_rfl
theorem cz117 : Tryd.prog.cellsOf 117 = 2 := by kernel_rfl
theorem ok117 : okT Tryd.prog 117 = true := by kernel_rfl
theorem ze117 : zeroOf Tryd.prog 117 = .agg [.sl 0 true [], .imm (.int .i64 0)] := by kernel_rfl
theorem by117 : (∀ i, Tryd.prog.info? 117 = some i → i.bytes ≤ 256) = True := eq_true (small_of (by kernel_rfl))
theorem ni117 : notInt (Tryd.prog.underlying 117) = True := eq_true (notInt_of (by kernel_rfl))
theorem sz122 : szOf Tryd.prog 122 = 256 := by kernel_rfl
theorem cz122 : Tryd.prog.cellsOf 122 = 256 := by kernel_rfl
theorem ok122 : okT Tryd.prog 122 = true := by kernel_rfl
theorem by122 : (∀ i, Tryd.prog.info? 122 = some i → i.bytes ≤ 256) = True := eq_true (small_of (by kernel_rfl))
theorem eg122 : Tryd.prog.eqGuardType Tryd.prog.depth 122 = false := by kernel_rfl
theorem sh122 : Tryd.prog.stoodInHeld 122 = false := by kernel_rfl
theorem ni122 : notInt (Tryd.prog.underlying 122) = True := eq_true (notInt_of (by kernel_rfl))
theorem sz123 : szOf Tryd.prog 123 = 256 := by kernel_rfl
theorem cz123 : Tryd.prog.cellsOf 123 = 256 := by kernel_rfl
theorem ok123 : okT Tryd.prog 123 = true := by kernel_rfl
theorem by123 : (∀ i, Tryd.prog.info? 123 = some i → i.bytes ≤ 256) = True := eq_true (small_of (by kernel_rfl))
theorem eg123 : Tryd.prog.eqGuardType Tryd.prog.depth 123 = false := by kernel_rfl
theorem sh123 : Tryd.prog.stoodInHeld 123 = false := by kernel_rfl
theorem ni123 : notInt (Tryd.prog.underlying 123) = True := eq_true (notInt_of (by kernel_rfl))
theorem sz127 : szOf Tryd.prog 127 = 1 := by kernel_rfl
theorem cz127 : Tryd.prog.cellsOf 127 = 1 := by kernel_rfl
theorem ok127 : okT Tryd.prog 127 = true := by kernel_rfl
theorem ze127 : zeroOf Tryd.prog 127 = .imm (.pointer none) := by kernel_rfl
theorem by127 : (∀ i, Tryd.prog.info? 127 = some i → i.bytes ≤ 256) = True := eq_true (small_of (by kernel_rfl))
theorem ni127 : notInt (Tryd.prog.underlying 127) = True := eq_true (notInt_of (by kernel_rfl))
theorem sz132 : szOf Tryd.prog 132 = 1 := by kernel_rfl
theorem cz132 : Tryd.prog.cellsOf 132 = 1 := by kernel_rfl
theorem ok132 : okT Tryd.prog 132 = true := by kernel_rfl
theorem ze132 : zeroOf Tryd.prog 132 = .imm (.pointer none) := by kernel_rfl
theorem by132 : (∀ i, Tryd.prog.info? 132 = some i → i.bytes ≤ 256) = True := eq_true (small_of (by kernel_rfl))
theorem ni132 : notInt (Tryd.prog.underlying 132) = True := eq_true (notInt_of (by kernel_rfl))
theorem sz137 : szOf Tryd.prog 137 = 1 := by kernel_rfl
theorem cz137 : Tryd.prog.cellsOf 137 = 1 := by kernel_rfl
theorem ok137 : okT Tryd.prog 137 = true := by kernel_rfl
theorem ze137 : zeroOf Tryd.prog 137 = .imm (.int .u64 0) := by kernel_rfl
theorem by137 : (∀ i, Tryd.prog.info? 137 = some i → i.bytes ≤ 256) = True := eq_true (small_of (by kernel_rfl))
theorem sz145 : szOf Tryd.prog 145 = 1 := by kernel_rfl
theorem cz145 : Tryd.prog.cellsOf 145 = 1 := by kernel_rfl
theorem ok145 : okT Tryd.prog 145 = true := by kernel_rfl
theorem ze145 : zeroOf Tryd.prog 145 = .imm (.int .u64 0) := by kernel_rfl
theorem by145 : (∀ i, Tryd.prog.info? 145 = some i → i.bytes ≤ 256) = True := eq_true (small_of (by kernel_rfl))
theorem sz160 : szOf Tryd.prog 160 = 1 := by kernel_rfl
theorem cz160 : Tryd.prog.cellsOf 160 = 1 := by kernel_rfl
theorem ok160 : okT Tryd.prog 160 = true := by kernel_rfl
theorem ze160 : zeroOf Tryd.prog 160 = .imm (.pointer none) := by kernel_rfl
theorem by160 : (∀ i, Tryd.prog.info? 160 = some i → i.bytes ≤ 256) = True := eq_true (small_of (by kernel_rfl))
theorem ni160 : notInt (Tryd.prog.underlying 160) = True := eq_true (notInt_of (by kernel_rfl))
theorem sz165 : szOf Tryd.prog 165 = 1 := by kernel_rfl
theorem cz165 : Tryd.prog.cellsOf 165 = 1 := by kernel_rfl
theorem ok165 : okT Tryd.prog 165 = true := by kernel_rfl
theorem ze165 : zeroOf Tryd.prog 165 = .imm (.int .i64 0) := by kernel_rfl
theorem by165 : (∀ i, Tryd.prog.info? 165 = some i → i.bytes ≤ 256) = True := eq_true (small_of (by kernel_rfl))
theorem sz172 : szOf Tryd.prog 172 = 1 := by kernel_rfl
theorem cz172 : Tryd.prog.cellsOf 172 = 1 := by kernel_rfl
theorem ok172 : okT Tryd.prog 172 = true := by kernel_rfl
theorem ze172 : zeroOf Tryd.prog 172 = .imm (.int .u32 0) := by kernel_rfl
theorem by172 : (∀ i, Tryd.prog.info? 172 = some i → i.bytes ≤ 256) = True := eq_true (small_of (by kernel_rfl))
theorem sz180 : szOf Tryd.prog 180 = 1 := by kernel_rfl
theorem cz180 : Tryd.prog.cellsOf 180 = 1 := by kernel_rfl
theorem ok180 : okT Tryd.prog 180 = true := by kernel_rfl
theorem ze180 : zeroOf Tryd.prog 180 = .imm (.int .u64 0) := by kernel_rfl
theorem by180 : (∀ i, Tryd.prog.info? 180 = some i → i.bytes ≤ 256) = True := eq_true (small_of (by kernel_rfl))
theorem sz184 : szOf Tryd.prog 184 = 1 := by kernel_rfl
theorem cz184 : Tryd.prog.cellsOf 184 = 1 := by kernel_rfl
theorem ok184 : okT Tryd.prog 184 = true := by kernel_rfl
theorem ze184 : zeroOf Tryd.prog 184 = .imm (.pointer none) := by kernel_rfl
theorem by184 : (∀ i, Tryd.prog.info? 184 = some i → i.bytes ≤ 256) = True := eq_true (small_of (by kernel_rfl))
theorem ni184 : notInt (Tryd.prog.underlying 184) = True := eq_true (notInt_of (by kernel_rfl))
theorem sz187 : szOf Tryd.prog 187 = 256 := by kernel_rfl
theorem cz187 : Tryd.prog.cellsOf 187 = 256 := by kernel_rfl
theorem ok187 : okT Tryd.prog 187 = true := by kernel_rfl
theorem by187 : (∀ i, Tryd.prog.info? 187 = some i → i.bytes ≤ 256) = True := eq_true (small_of (by kernel_rfl))
theorem eg187 : Tryd.prog.eqGuardType Tryd.prog.depth 187 = false := by kernel_rfl
theorem sh187 : Tryd.prog.stoodInHeld 187 = false := by kernel_rfl
theorem ni187 : notInt (Tryd.prog.underlying 187) = True := eq_true (notInt_of (by kernel_rfl))
theorem sz188 : szOf Tryd.prog 188 = 2 := by kernel_rfl
theorem cz188 : Tryd.prog.cellsOf 188 = 2 := by kernel_rfl
theorem ok188 : okT Tryd.prog 188 = true := by kernel_rfl
theorem ze188 : zeroOf Tryd.prog 188 = .agg [.imm (.int .u8 0), .imm (.int .u8 0)] := by kernel_rfl
theorem by188 : (∀ i, Tryd.prog.info? 188 = some i → i.bytes ≤ 256) = True := eq_true (small_of (by kernel_rfl))
theorem eg188 : Tryd.prog.eqGuardType Tryd.prog.depth 188 = false := by kernel_rfl
theorem sh188 : Tryd.prog.stoodInHeld 188 = false := by kernel_rfl
theorem ni188 : notInt (Tryd.prog.underlying 188) = True := eq_true (notInt_of (by kernel_rfl))
theorem sz189 : szOf Tryd.prog 189 = 2 := by kernel_rfl
theorem cz189 : Tryd.prog.cellsOf 189 = 2 := by kernel_rfl
theorem ok189 : okT Tryd.prog 189 = true := by kernel_rfl
theorem ze189 : zeroOf Tryd.prog 189 = .agg [.imm (.int .u8 0), .imm (.int .u8 0)] := by kernel_rfl
theorem by189 : (∀ i, Tryd.prog.info? 189 = some i → i.bytes ≤ 256) = True := eq_true (small_of (by kernel_rfl))
theorem eg189 : Tryd.prog.eqGuardType Tryd.prog.depth 189 = false := by kernel_rfl
theorem sh189 : Tryd.prog.stoodInHeld 189 = false := by kernel_rfl
theorem ni189 : notInt (Tryd.prog.underlying 189) = True := eq_true (notInt_of (by kernel_rfl))
theorem sz190 : szOf Tryd.prog 190 = 32 := by kernel_rfl
theorem cz190 : Tryd.prog.cellsOf 190 = 32 := by kernel_rfl
theorem ok190 : okT Tryd.prog 190 = true := by kernel_rfl
theorem ze190 : zeroOf Tryd.prog 190 = .agg [.imm (.int .u8 0), .imm (.int .u8 0), .imm (.int .u8 0), .imm (.int .u8 0), .imm (.int .u8 0), .imm (.int .u8 0), .imm (.int .u8 0), .imm (.int .u8 0), .imm (.int .u8 0), .imm (.int .u8 0), .imm (.int .u8 0), .imm (.int .u8 0), .imm (.int .u8 0), .imm (.int .u8 0), .imm (.int .u8 0), .imm (.int .u8 0), .imm (.int .u8 0), .imm (.int .u8 0), .imm (.int .u8 0), .imm (.int .u8 0), .imm (.int .u8 0), .imm (.int .u8 0), .imm (.int .u8 0), .imm (.int .u8 0), .imm (.int .u8 0), .imm (.int .u8 0), .imm (.int .u8 0), .imm (.int .u8 0), .imm (.int .u8 0), .imm (.int .u8 0), .imm (.int .u8 0), .imm (.int .u8 0)] := by kernel_rfl
theorem by190 : (∀ i, Tryd.prog.info? 190 = some i → i.bytes ≤ 256) = True := eq_true (small_of (by kernel_rfl))
theorem eg190 : Tryd.prog.eqGuardType Tryd.prog.depth 190 = false := by kernel_rfl
theorem sh190 : Tryd.prog.stoodInHeld 190 = false := by kernel_rfl
theorem ni190 : notInt (Tryd.prog.underlying 190) = True := eq_true (notInt_of (by kernel_rfl))
theorem sz195 : szOf Tryd.prog 195 = 1 := by kernel_rfl
theorem cz195 : Tryd.prog.cellsOf 195 = 1 := by kernel_rfl
theorem ok195 : okT Tryd.prog 195 = true := by kernel_rfl
theorem ze195 : zeroOf Tryd.prog 195 = .imm (.pointer none) := by kernel_rfl
theorem by195 : (∀ i, Tryd.prog.info? 195 = some i → i.bytes ≤ 256) = True := eq_true (small_of (by kernel_rfl))
theorem ni195 : notInt (Tryd.prog.underlying 195) = True := eq_true (notInt_of (by kernel_rfl))
theorem sz198 : szOf Tryd.prog 198 = 4 := by kernel_rfl
theorem cz198 : Tryd.prog.cellsOf 198 = 4 := by kernel_rfl
theorem ok198 : okT Tryd.prog 198 = true := by kernel_rfl
theorem ze198 : zeroOf Tryd.prog 198 = .agg [.imm (.pointer none), .imm (.pointer none), .imm (.pointer none), .imm (.string ByteArray.empty)] := by kernel_rfl
theorem by198 : (∀ i, Tryd.prog.info? 198 = some i → i.bytes ≤ 256) = True := eq_true (small_of (by kernel_rfl))
theorem ni198 : notInt (Tryd.prog.underlying 198) = True := eq_true (notInt_of (by kernel_rfl))
theorem sz199 : szOf Tryd.prog 199 = 4 := by kernel_rfl
theorem cz199 : Tryd.prog.cellsOf 199 = 4 := by kernel_rfl
theorem ok199 : okT Tryd.prog 199 = true := by kernel_rfl
theorem ze199 : zeroOf Tryd.prog 199 = .agg [.imm (.pointer none), .imm (.pointer none), .imm (.pointer none), .imm (.string ByteArray.empty)] := by kernel_rfl
theorem by199 : (∀ i, Tryd.prog.info? 199 = some i → i.bytes ≤ 256) = True := eq_true (small_of (by kernel_rfl))
theorem ni199 : notInt (Tryd.prog.underlying 199) = True := eq_true (notInt_of (by kernel_rfl))
theorem sz200 : szOf Tryd.prog 200 = 0 := by kernel_rfl
theorem cz200 : Tryd.prog.cellsOf 200 = 0 := by kernel_rfl
theorem ok200 : okT Tryd.prog 200 = true := by kernel_rfl
theorem ze200 : zeroOf Tryd.prog 200 = .agg [] := by kernel_rfl
theorem by200 : (∀ i, Tryd.prog.info? 200 = some i → i.bytes ≤ 256) = True := eq_true (small_of (by kernel_rfl))
theorem ni200 : notInt (Tryd.prog.underlying 200) = True := eq_true (notInt_of (by kernel_rfl))
theorem sz201 : szOf Tryd.prog 201 = 0 := by kernel_rfl
theorem cz201 : Tryd.prog.cellsOf 201 = 0 := by kernel_rfl
theorem ok201 : okT Tryd.prog 201 = true := by kernel_rfl
theorem ze201 : zeroOf Tryd.prog 201 = .agg [] := by kernel_rfl
theorem by201 : (∀ i, Tryd.prog.info? 201 = some i → i.bytes ≤ 256) = True := eq_true (small_of (by kernel_rfl))
theorem ni201 : notInt (Tryd.prog.underlying 201) = True := eq_true (notInt_of (by kernel_rfl))
theorem sz202 : szOf Tryd.prog 202 = 0 := by kernel_rfl
theorem cz202 : Tryd.prog.cellsOf 202 = 0 := by kernel_rfl
theorem ok202 : okT Tryd.prog 202 = true := by kernel_rfl
theorem ze202 : zeroOf Tryd.prog 202 = .agg [] := by kernel_rfl
theorem by202 : (∀ i, Tryd.prog.info? 202 = some i → i.bytes ≤ 256) = True := eq_true (small_of (by kernel_rfl))
theorem ni202 : notInt (Tryd.prog.underlying 202) = True := eq_true (notInt_of (by kernel_rfl))
theorem sz204 : szOf Tryd.prog 204 = 1 := by kernel_rfl
theorem cz204 : Tryd.prog.cellsOf 204 = 1 := by kernel_rfl
theorem ok204 : okT Tryd.prog 204 = true := by kernel_rfl
theorem ze204 : zeroOf Tryd.prog 204 = .imm (.int .u8 0) := by kernel_rfl
theorem by204 : (∀ i, Tryd.prog.info? 204 = some i → i.bytes ≤ 256) = True := eq_true (small_of (by kernel_rfl))
theorem sz205 : szOf Tryd.prog 205 = 1 := by kernel_rfl
theorem cz205 : Tryd.prog.cellsOf 205 = 1 := by kernel_rfl
theorem ok205 : okT Tryd.prog 205 = true := by kernel_rfl
theorem ze205 : zeroOf Tryd.prog 205 = .imm (.int .u8 0) := by kernel_rfl
theorem by205 : (∀ i, Tryd.prog.info? 205 = some i → i.bytes ≤ 256) = True := eq_true (small_of (by kernel_rfl))
theorem sz207 : szOf Tryd.prog 207 = 1 := by kernel_rfl
theorem cz207 : Tryd.prog.cellsOf 207 = 1 := by kernel_rfl
theorem ok207 : okT Tryd.prog 207 = true := by kernel_rfl
theorem ze207 : zeroOf Tryd.prog 207 = .imm (.int .i32 0) := by kernel_rfl
theorem by207 : (∀ i, Tryd.prog.info? 207 = some i → i.bytes ≤ 256) = True := eq_true (small_of (by kernel_rfl))
theorem sz208 : szOf Tryd.prog 208 = 1 := by kernel_rfl
theorem cz208 : Tryd.prog.cellsOf 208 = 1 := by kernel_rfl
theorem ok208 : okT Tryd.prog 208 = true := by kernel_rfl
theorem ze208 : zeroOf Tryd.prog 208 = .imm (.int .i32 0) := by kernel_rfl
theorem by208 : (∀ i, Tryd.prog.info? 208 = some i → i.bytes ≤ 256) = True := eq_true (small_of (by kernel_rfl))
theorem sz209 : szOf Tryd.prog 209 = 11 := by kernel_rfl
theorem cz209 : Tryd.prog.cellsOf 209 = 11 := by kernel_rfl
theorem ok209 : okT Tryd.prog 209 = true := by kernel_rfl
theorem ze209 : zeroOf Tryd.prog 209 = .agg [.imm (.int .u64 0), .imm (.int .u64 0), .imm (.int .u32 0), .imm (.int .u8 0), .imm (.int .u8 0), .imm (.int .u8 0), .imm (.int .u8 0), .imm .nilFunc, .imm (.pointer none), .imm (.int .i32 0), .imm (.int .i32 0)] := by kernel_rfl
theorem by209 : (∀ i, Tryd.prog.info? 209 = some i → i.bytes ≤ 256) = True := eq_true (small_of (by kernel_rfl))
theorem ni209 : notInt (Tryd.prog.underlying 209) = True := eq_true (notInt_of (by kernel_rfl))
theorem sz210 : szOf Tryd.prog 210 = 11 := by kernel_rfl
theorem cz210 : Tryd.prog.cellsOf 210 = 11 := by kernel_rfl
theorem ok210 : okT Tryd.prog 210 = true := by kernel_rfl
theorem ze210 : zeroOf Tryd.prog 210 = .agg [.imm (.int .u64 0), .imm (.int .u64 0), .imm (.int .u32 0), .imm (.int .u8 0), .imm (.int .u8 0), .imm (.int .u8 0), .imm (.int .u8 0), .imm .nilFunc, .imm (.pointer none), .imm (.int .i32 0), .imm (.int .i32 0)] := by kernel_rfl
theorem by210 : (∀ i, Tryd.prog.info? 210 = some i → i.bytes ≤ 256) = True := eq_true (small_of (by kernel_rfl))
theorem ni210 : notInt (Tryd.prog.underlying 210) = True := eq_true (notInt_of (by kernel_rfl))
theorem rs0 : Tryd.f0.results.toList = [] := by kernel_rfl
theorem rs1 : Tryd.f1.results.toList = [] := by kernel_rfl
theorem rs2 : Tryd.f2.results.toList = [] := by kernel_rfl
theorem rs3 : Tryd.f3.results.toList = [.tmp 2] := by kernel_rfl
theorem rs4 : Tryd.f4.results.toList = [.tmp 2] := by kernel_rfl
theorem rs5 : Tryd.f5.results.toList = [.tmp 4] := by kernel_rfl
theorem rs6 : Tryd.f6.results.toList = [.tmp 4] := by kernel_rfl
theorem rs7 : Tryd.f7.results.toList = [.tmp 4] := by kernel_rfl
theorem rs8 : Tryd.f8.results.toList = [.tmp 4] := by kernel_rfl
theorem rs9 : Tryd.f9.results.toList = [.tmp 6] := by kernel_rfl
theorem rs10 : Tryd.f10.results.toList = [.tmp 6] := by kernel_rfl
theorem rs11 : Tryd.f11.results.toList = [.tmp 2] := by kernel_rfl
theorem rs12 : Tryd.f12.results.toList = [.tmp 2, .tmp 3, .tmp 4] := by kernel_rfl
theorem rs13 : Tryd.f13.results.toList = [.tmp 2, .tmp 3] := by kernel_rfl
theorem rs14 : Tryd.f14.results.toList = [.tmp 2, .tmp 3] := by kernel_rfl
theorem rs15 : Tryd.f15.results.toList = [.tmp 2, .tmp 3] := by kernel_rfl
theorem rs16 : Tryd.f16.results.toList = [.cell 2 44, .tmp 3] := by kernel_rfl
theorem rs17 : Tryd.f17.results.toList = [.cell 2 47, .tmp 3] := by kernel_rfl
theorem rs18 : Tryd.f18.results.toList = [.tmp 2] := by kernel_rfl
theorem rs19 : Tryd.f19.results.toList = [.tmp 2] := by kernel_rfl
theorem rs20 : Tryd.f20.results.toList = [.tmp 2] := by kernel_rfl
theorem rs21 : Tryd.f21.results.toList = [.tmp 2] := by kernel_rfl
theorem rs22 : Tryd.f22.results.toList = [.tmp 2] := by kernel_rfl
theorem rs23 : Tryd.f23.results.toList = [.tmp 2] := by kernel_rfl
theorem rs24 : Tryd.f24.results.toList = [.tmp 2, .tmp 3, .tmp 4] := by kernel_rfl
theorem rs25 : Tryd.f25.results.toList = [.tmp 2] := by kernel_rfl
theorem rs26 : Tryd.f26.results.toList = [.tmp 2] := by kernel_rfl
theorem rs27 : Tryd.f27.results.toList = [.tmp 2] := by kernel_rfl
theorem rs28 : Tryd.f28.results.toList = [.tmp 2] := by kernel_rfl
theorem rs29 : Tryd.f29.results.toList = [.tmp 2, .tmp 3] := by kernel_rfl
theorem rs30 : Tryd.f30.results.toList = [.tmp 2] := by kernel_rfl
theorem rs31 : Tryd.f31.results.toList = [.tmp 2] := by kernel_rfl
theorem rs32 : Tryd.f32.results.toList = [.tmp 4, .tmp 5] := by kernel_rfl
theorem rs33 : Tryd.f33.results.toList = [.cell 2 64, .tmp 3, .tmp 4] := by kernel_rfl
theorem rs34 : Tryd.f34.results.toList = [.tmp 4] := by kernel_rfl
theorem rs35 : Tryd.f35.results.toList = [.tmp 4, .tmp 5] := by kernel_rfl
theorem rs36 : Tryd.f36.results.toList = [.cell 2 24, .tmp 3, .tmp 4] := by kernel_rfl
theorem rs37 : Tryd.f37.results.toList = [.tmp 4, .tmp 5, .tmp 6] := by kernel_rfl
theorem rs38 : Tryd.f38.results.toList = [.cell 2 37, .tmp 3] := by kernel_rfl
theorem rs39 : Tryd.f39.results.toList = [.cell 2 36, .tmp 3] := by kernel_rfl
theorem rs40 : Tryd.f40.results.toList = [.tmp 2] := by kernel_rfl
theorem rs41 : Tryd.f41.results.toList = [.tmp 2] := by kernel_rfl
theorem rs42 : Tryd.f42.results.toList = [.cell 0 88] := by kernel_rfl
theorem rs43 : Tryd.f43.results.toList = [.tmp 2] := by kernel_rfl
theorem rs44 : Tryd.f44.results.toList = [.tmp 2] := by kernel_rfl
theorem rs45 : Tryd.f45.results.toList = [.tmp 4, .tmp 5] := by kernel_rfl
theorem rs46 : Tryd.f46.results.toList = [.tmp 2] := by kernel_rfl
theorem rs47 : Tryd.f47.results.toList = [.cell 2 59, .tmp 3, .tmp 4] := by kernel_rfl
theorem rs48 : Tryd.f48.results.toList = [.tmp 4] := by kernel_rfl
theorem rs49 : Tryd.f49.results.toList = [.tmp 4, .tmp 5] := by kernel_rfl
theorem rs50 : Tryd.f50.results.toList = [.tmp 4] := by kernel_rfl
theorem rs51 : Tryd.f51.results.toList = [.tmp 2] := by kernel_rfl
theorem rs52 : Tryd.f52.results.toList = [.tmp 2] := by kernel_rfl
theorem rs53 : Tryd.f53.results.toList = [.tmp 4] := by kernel_rfl
theorem rs54 : Tryd.f54.results.toList = [] := by kernel_rfl
theorem rs55 : Tryd.f55.results.toList = [.tmp 4] := by kernel_rfl
theorem rs56 : Tryd.f56.results.toList = [.tmp 4] := by kernel_rfl
theorem rs57 : Tryd.f57.results.toList = [.tmp 2] := by kernel_rfl
theorem rs58 : Tryd.f58.results.toList = [.tmp 2] := by kernel_rfl
theorem rs59 : Tryd.f59.results.toList = [.tmp 4] := by kernel_rfl
theorem rs60 : Tryd.f60.results.toList = [.tmp 2] := by kernel_rfl
theorem rs61 : Tryd.f61.results.toList = [.tmp 2] := by kernel_rfl
theorem rs62 : Tryd.f62.results.toList = [.tmp 2] := by kernel_rfl
theorem rs63 : Tryd.f63.results.toList = [.cell 2 64, .tmp 3] := by kernel_rfl
theorem rs64 : Tryd.f64.results.toList = [.tmp 4, .tmp 5] := by kernel_rfl
theorem rs65 : Tryd.f65.results.toList = [.tmp 4] := by kernel_rfl
theorem rs66 : Tryd.f66.results.toList = [.tmp 4] := by kernel_rfl
theorem rs67 : Tryd.f67.results.toList = [.cell 2 123, .tmp 3] := by kernel_rfl
theorem rs68 : Tryd.f68.results.toList = [.tmp 4] := by kernel_rfl
theorem rs69 : Tryd.f69.results.toList = [.tmp 4] := by kernel_rfl
theorem rs70 : Tryd.f70.results.toList = [.tmp 4] := by kernel_rfl
theorem rs71 : Tryd.f71.results.toList = [.tmp 4] := by kernel_rfl
theorem rs72 : Tryd.f72.results.toList = [.tmp 4, .tmp 5] := by kernel_rfl
theorem rs73 : Tryd.f73.results.toList = [.tmp 4] := by kernel_rfl
theorem rs74 : Tryd.f74.results.toList = [.tmp 4, .tmp 5, .tmp 6] := by kernel_rfl
theorem rs75 : Tryd.f75.results.toList = [.tmp 6] := by kernel_rfl
theorem rs76 : Tryd.f76.results.toList = [.tmp 2, .tmp 3] := by kernel_rfl
theorem rs77 : Tryd.f77.results.toList = [.tmp 2, .tmp 3] := by kernel_rfl
theorem rs78 : Tryd.f78.results.toList = [.tmp 2] := by kernel_rfl
theorem rs79 : Tryd.f79.results.toList = [.tmp 2] := by kernel_rfl
theorem rs80 : Tryd.f80.results.toList = [.tmp 5] := by kernel_rfl
theorem rs81 : Tryd.f81.results.toList = [.tmp 2] := by kernel_rfl
theorem rs82 : Tryd.f82.results.toList = [] := by kernel_rfl
theorem rs83 : Tryd.f83.results.toList = [.tmp 8] := by kernel_rfl
theorem rs84 : Tryd.f84.results.toList = [.tmp 4] := by kernel_rfl
theorem rs85 : Tryd.f85.results.toList = [.tmp 4] := by kernel_rfl
theorem rs86 : Tryd.f86.results.toList = [.tmp 4] := by kernel_rfl
theorem rs87 : Tryd.f87.results.toList = [.tmp 3] := by kernel_rfl
theorem rs88 : Tryd.f88.results.toList = [.tmp 2] := by kernel_rfl
theorem rs89 : Tryd.f89.results.toList = [] := by kernel_rfl
theorem rs90 : Tryd.f90.results.toList = [.tmp 2] := by kernel_rfl
theorem rs91 : Tryd.f91.results.toList = [.tmp 4] := by kernel_rfl
theorem rs92 : Tryd.f92.results.toList = [.cell 2 64, .tmp 3] := by kernel_rfl
theorem rs93 : Tryd.f93.results.toList = [.tmp 4] := by kernel_rfl
theorem rs94 : Tryd.f94.results.toList = [.tmp 2] := by kernel_rfl
theorem rs95 : Tryd.f95.results.toList = [.tmp 4] := by kernel_rfl
theorem rs96 : Tryd.f96.results.toList = [] := by kernel_rfl
theorem rs97 : Tryd.f97.results.toList = [.tmp 2, .tmp 3] := by kernel_rfl
theorem rs98 : Tryd.f98.results.toList = [.tmp 2, .tmp 3] := by kernel_rfl
theorem rs99 : Tryd.f99.results.toList = [.tmp 2, .tmp 3] := by kernel_rfl
theorem rs100 : Tryd.f100.results.toList = [.tmp 4, .tmp 5] := by kernel_rfl
theorem rs101 : Tryd.f101.results.toList = [.tmp 4] := by kernel_rfl
theorem rs102 : Tryd.f102.results.toList = [.tmp 2, .tmp 3] := by kernel_rfl
theorem rs103 : Tryd.f103.results.toList = [.tmp 4] := by kernel_rfl
theorem rs104 : Tryd.f104.results.toList = [.tmp 2, .tmp 3] := by kernel_rfl
theorem rs105 : Tryd.f105.results.toList = [.tmp 4] := by kernel_rfl
theorem rs106 : Tryd.f106.results.toList = [.tmp 4] := by kernel_rfl
theorem rs107 : Tryd.f107.results.toList = [.tmp 4] := by kernel_rfl
theorem rs108 : Tryd.f108.results.toList = [.tmp 8] := by kernel_rfl
theorem rs109 : Tryd.f109.results.toList = [.tmp 2, .tmp 3] := by kernel_rfl
theorem rs110 : Tryd.f110.results.toList = [.tmp 2, .tmp 3] := by kernel_rfl
theorem rs111 : Tryd.f111.results.toList = [.tmp 2] := by kernel_rfl
theorem rs112 : Tryd.f112.results.toList = [] := by kernel_rfl
theorem rs113 : Tryd.f113.results.toList = [.tmp 4] := by kernel_rfl
theorem rs114 : Tryd.f114.results.toList = [.tmp 4] := by kernel_rfl
theorem rs115 : Tryd.f115.results.toList = [.tmp 4] := by kernel_rfl
theorem rs116 : Tryd.f116.results.toList = [] := by kernel_rfl
theorem rs117 : Tryd.f117.results.toList = [] := by kernel_rfl
theorem rs118 : Tryd.f118.results.toList = [] := by kernel_rfl
theorem rs119 : Tryd.f119.results.toList = [] := by kernel_rfl
theorem rs120 : Tryd.f120.results.toList = [.tmp 8, .tmp 9] := by kernel_rfl
theorem rs121 : Tryd.f121.results.toList = [] := by kernel_rfl
theorem rs122 : Tryd.f122.results.toList = [.tmp 8] := by kernel_rfl
theorem rs123 : Tryd.f123.results.toList = [.tmp 10] := by kernel_rfl
theorem rs124 : Tryd.f124.results.toList = [.tmp 10, .tmp 11] := by kernel_rfl
theorem rs125 : Tryd.f125.results.toList = [.tmp 2] := by kernel_rfl
theorem rs126 : Tryd.f126.results.toList = [.tmp 2] := by kernel_rfl
theorem rs127 : Tryd.f127.results.toList = [] := by kernel_rfl
theorem rs128 : Tryd.f128.results.toList = [.tmp 2] := by kernel_rfl
theorem rs129 : Tryd.f129.results.toList = [.tmp 4, .tmp 5] := by kernel_rfl
theorem rs130 : Tryd.f130.results.toList = [.tmp 4, .tmp 5] := by kernel_rfl
theorem rs131 : Tryd.f131.results.toList = [.tmp 2, .tmp 3] := by kernel_rfl
theorem rs132 : Tryd.f132.results.toList = [.tmp 4] := by kernel_rfl
theorem rs133 : Tryd.f133.results.toList = [.tmp 2] := by kernel_rfl
theorem rs134 : Tryd.f134.results.toList = [] := by kernel_rfl
theorem rs135 : Tryd.f135.results.toList = [] := by kernel_rfl
theorem rs136 : Tryd.f136.results.toList = [.tmp 2] := by kernel_rfl
theorem rs137 : Tryd.f137.results.toList = [.tmp 4] := by kernel_rfl
theorem rs138 : Tryd.f138.results.toList = [.tmp 2, .tmp 3] := by kernel_rfl
theorem rs139 : Tryd.f139.results.toList = [.tmp 2] := by kernel_rfl
theorem rs140 : Tryd.f140.results.toList = [.tmp 2] := by kernel_rfl
theorem rs141 : Tryd.f141.results.toList = [] := by kernel_rfl
theorem rs142 : Tryd.f142.results.toList = [] := by kernel_rfl
theorem rs143 : Tryd.f143.results.toList = [] := by kernel_rfl
theorem rs144 : Tryd.f144.results.toList = [.tmp 2] := by kernel_rfl
theorem rs145 : Tryd.f145.results.toList = [.tmp 2] := by kernel_rfl
theorem rs146 : Tryd.f146.results.toList = [.tmp 8] := by kernel_rfl
theorem rs147 : Tryd.f147.results.toList = [.tmp 12] := by kernel_rfl
theorem rs148 : Tryd.f148.results.toList = [.tmp 4] := by kernel_rfl
theorem rs149 : Tryd.f149.results.toList = [.tmp 2, .tmp 3] := by kernel_rfl
theorem rs150 : Tryd.f150.results.toList = [.tmp 5] := by kernel_rfl
theorem rs151 : Tryd.f151.results.toList = [.tmp 2] := by kernel_rfl
theorem rs152 : Tryd.f152.results.toList = [.tmp 2, .tmp 3] := by kernel_rfl
theorem rs153 : Tryd.f153.results.toList = [] := by kernel_rfl
theorem rs154 : Tryd.f154.results.toList = [.tmp 10, .tmp 11] := by kernel_rfl
theorem rs155 : Tryd.f155.results.toList = [] := by kernel_rfl
theorem rs156 : Tryd.f156.results.toList = [] := by kernel_rfl
theorem rs157 : Tryd.f157.results.toList = [] := by kernel_rfl
theorem rs158 : Tryd.f158.results.toList = [] := by kernel_rfl
theorem rs159 : Tryd.f159.results.toList = [] := by kernel_rfl
theorem rs160 : Tryd.f160.results.toList = [] := by kernel_rfl
theorem rs161 : Tryd.f161.results.toList = [] := by kernel_rfl
theorem rs162 : Tryd.f162.results.toList = [] := by kernel_rfl
theorem rs163 : Tryd.f163.results.toList = [] := by kernel_rfl
theorem rs164 : Tryd.f164.results.toList = [] := by kernel_rfl
theorem rs165 : Tryd.f165.results.toList = [] := by kernel_rfl
theorem rs166 : Tryd.f166.results.toList = [] := by kernel_rfl
theorem rs167 : Tryd.f167.results.toList = [] := by kernel_rfl
theorem rs168 : Tryd.f168.results.toList = [] := by kernel_rfl
theorem rs169 : Tryd.f169.results.toList = [] := by kernel_rfl
theorem rs170 : Tryd.f170.results.toList = [] := by kernel_rfl
theorem rs171 : Tryd.f171.results.toList = [] := by kernel_rfl
theorem rs172 : Tryd.f172.results.toList = [] := by kernel_rfl
theorem rs173 : Tryd.f173.results.toList = [] := by kernel_rfl
theorem rs174 : Tryd.f174.results.toList = [] := by kernel_rfl
theorem rs175 : Tryd.f175.results.toList = [] := by kernel_rfl
theorem rs176 : Tryd.f176.results.toList = [] := by kernel_rfl
theorem rs177 : Tryd.f177.results.toList = [] := by kernel_rfl
end Go.Proofs.YtbdkofondpalpaaDoorX

/- The laws that a run goes by. -/
namespace Go.Proofs.YtbdkofondpalpaaDoorX
open Go Go.RowKit Go.Proofs
attribute [go_sem ↓] stepsK_call drawK_call opW binXW eqW eqFs eqEs binV intW strW fieldW indexW extractW unW loadW loadP fieldAddrW indexAddrW endsW sliceW buildSliceW makeW convertW storeW newsW appendW elemsW nilW lenW min2W max2W builtinW ifaceW partW boolW_true boolW_false getD_j16 set_j16 rootsP
attribute [go_sem] endK_q endK_seq endK_seq_exit endK_seq_ret endK_blk endK_blk_ret endK_blk_exit roundsK_succ endK_lp endK_lp_exit endK_lp_ret runK_skip runK_exit runK_ret runK_seq runK_block runK_region runK_draw stepsK_nil callK callE stepsK_cons drawK_nil drawK_cons rootsK_nil rootsK_cons loopQ_normal loopQ_exit loopQ_ret loopC_normal loopC_exit loopC_ret loopK_normal loopK_exit loopK_ret St.keep keepL St.gc gcW deadK reachL refsT refsL refsO dropL Int.toNat_natCast St.cut List.range'_zero List.range'_succ lookS_at liteL dstsL gL St.is evalT ofVal ofVals St.after St.put St.upd
attribute [go_sem] St.eff quietE eOp effB trims trim setCells fillT fillE patchT isJunk leafT T.cells oneT RetQ resW retT St.lockAll Own.lockAll dsnap dsnapL snap closedT closedL rootsOf rootsO rootsA rootOf St.frzR St.frzB St.frzT St.frzL St.frz kill killL Own.kill aggD List.getD_cons_zero List.getD_cons_succ List.getD_nil List.set_cons_zero List.set_cons_succ List.set_nil List.flatMap_cons List.flatMap_nil List.append_nil List.nil_append List.cons_append List.map_cons List.map_nil List.filterMap_cons List.filterMap_nil List.find?_cons List.find?_nil List.getElem?_cons_zero List.getElem?_cons_succ List.getElem?_nil List.length_cons List.length_nil List.replicate
attribute [go_sem] List.contains_cons List.contains_nil List.take_zero List.drop_zero List.take_succ_cons List.drop_succ_cons List.all_cons List.all_nil List.size_toArray List.getElem?_toArray Array.toList_map List.map_toArray Option.some_beq_some Option.none_beq_some Option.some_beq_none Option.map_some Option.map_none Option.bind_some Option.bind_none Option.some.injEq ne_eq not_false_eq_true not_true_eq_false true_and and_true and_false false_and Bool.false_eq_true Bool.true_eq_false forall_const false_imp_iff true_imp_iff imp_self beq_self_eq_true or_true true_or or_false false_or if_true if_false ite_true ite_false Bool.or_true Bool.true_or Bool.and_true Bool.true_and Bool.false_or Bool.or_false Bool.false_and Bool.and_false Bool.not_true Bool.not_false decide_true decide_false Nat.lt_irrefl Nat.le_refl Nat.zero_add Nat.add_zero Nat.zero_mul Nat.mul_one
attribute [go_sem] Nat.mul_zero Nat.zero_le gt_iff_lt ge_iff_le Int.cast_ofNat_Int Option.isNone_some Option.isNone_none Option.isSome_some Option.isSome_none Nat.zero_max Nat.max_zero Nat.max_self List.take_length List.length_append List.length_map
attribute [go_sem] rs0 rs1 rs2 rs3 rs4 rs5 rs6 rs7 rs8 rs9 rs10 rs11 rs12 rs13 rs14 rs15 rs16 rs17 rs18 rs19 rs20 rs21 rs22 rs23 rs24 rs25 rs26 rs27 rs28 rs29 rs30 rs31 rs32 rs33 rs34 rs35 rs36 rs37 rs38 rs39 rs40 rs41 rs42 rs43 rs44 rs45 rs46 rs47 rs48 rs49 rs50 rs51 rs52 rs53 rs54 rs55 rs56 rs57 rs58 rs59
attribute [go_sem] rs60 rs61 rs62 rs63 rs64 rs65 rs66 rs67 rs68 rs69 rs70 rs71 rs72 rs73 rs74 rs75 rs76 rs77 rs78 rs79 rs80 rs81 rs82 rs83 rs84 rs85 rs86 rs87 rs88 rs89 rs90 rs91 rs92 rs93 rs94 rs95 rs96 rs97 rs98 rs99 rs100 rs101 rs102 rs103 rs104 rs105 rs106 rs107 rs108 rs109 rs110 rs111 rs112 rs113 rs114 rs115 rs116 rs117 rs118 rs119
attribute [go_sem] rs120 rs121 rs122 rs123 rs124 rs125 rs126 rs127 rs128 rs129 rs130 rs131 rs132 rs133 rs134 rs135 rs136 rs137 rs138 rs139 rs140 rs141 rs142 rs143 rs144 rs145 rs146 rs147 rs148 rs149 rs150 rs151 rs152 rs153 rs154 rs155 rs156 rs157 rs158 rs159 rs160 rs161 rs162 rs163 rs164 rs165 rs166 rs167 rs168 rs169 rs170 rs171 rs172 rs173 rs174 rs175 rs176 rs177 Tryd.underlying0 Tryd.underlying1
attribute [go_sem] Tryd.underlying2 sz2 cz2 ok2 ze2 by2 Tryd.underlying3 sz3 cz3 ok3 ze3 by3 Tryd.underlying4 sz4 cz4 ok4 ze4 by4 ni4 Tryd.underlying5 sz5 cz5 ok5 ze5 by5 Tryd.underlying6 sz6 cz6 ok6 ze6 by6 Tryd.underlying7 sz7 cz7 ok7 ze7 by7 ni7 Tryd.underlying8 sz8 cz8 ok8 ze8 by8 ni8 Tryd.underlying9 sz9 cz9 ok9 ze9 by9 ni9 Tryd.underlying10 sz10 cz10 ok10 ze10 by10 ni10 Tryd.underlying11
attribute [go_sem] sz11 cz11 ok11 ze11 by11 ni11 Tryd.underlying12 sz12 cz12 ok12 ze12 by12 Tryd.underlying13 sz13 cz13 ok13 ze13 by13 ni13 Tryd.underlying14 sz14 cz14 ok14 ze14 by14 ni14 Tryd.underlying15 sz15 cz15 ok15 ze15 by15 ni15 Tryd.underlying16 sz16 cz16 ok16 ze16 by16 ni16 Tryd.underlying17 sz17 cz17 ok17 ze17 by17 ni17 Tryd.underlying18 sz18 cz18 ok18 ze18 by18 ni18 Tryd.underlying19 sz19 cz19 ok19 ze19 by19
attribute [go_sem] ni19 Tryd.underlying20 sz20 cz20 ok20 ze20 by20 ni20 Tryd.underlying21 sz21 cz21 ok21 ze21 by21 Tryd.underlying22 sz22 cz22 ok22 ze22 by22 ni22 Tryd.underlying23 sz23 cz23 ok23 ze23 by23 ni23 eg23 sh23 Tryd.underlying24 sz24 cz24 ok24 ze24 by24 ni24 eg24 sh24 Tryd.underlying25 Tryd.underlying26 Tryd.underlying27 Tryd.underlying28 Tryd.underlying29 sz29 cz29 ok29 ze29 by29 ni29 Tryd.underlying30 Tryd.underlying31 Tryd.underlying32 sz32 cz32 ok32 ze32 by32 ni32 Tryd.underlying33
attribute [go_sem] Tryd.underlying34 Tryd.underlying35 sz35 cz35 ok35 ze35 by35 ni35 eg35 sh35 Tryd.underlying36 sz36 cz36 ok36 ze36 by36 ni36 eg36 sh36 Tryd.underlying37 sz37 cz37 ok37 ze37 by37 ni37 eg37 sh37 Tryd.underlying38 Tryd.underlying39 sz39 cz39 ok39 ze39 by39 ni39 Tryd.underlying40 sz40 cz40 ok40 ze40 by40 ni40 Tryd.underlying41 Tryd.underlying42 Tryd.underlying43 sz43 cz43 ok43 ze43 by43 ni43 eg43 sh43 Tryd.underlying44 sz44 cz44 ok44 ze44 by44
attribute [go_sem] ni44 eg44 sh44 Tryd.underlying45 Tryd.underlying46 Tryd.underlying47 sz47 cz47 ok47 ze47 by47 ni47 eg47 sh47 Tryd.underlying48 Tryd.underlying49 Tryd.underlying50 Tryd.underlying51 Tryd.underlying52 Tryd.underlying53 sz53 cz53 ok53 ze53 by53 ni53 Tryd.underlying54 Tryd.underlying55 Tryd.underlying56 sz56 cz56 ok56 ze56 by56 ni56 Tryd.underlying57 Tryd.underlying58 Tryd.underlying59 sz59 cz59 ok59 ze59 by59 ni59 eg59 sh59 Tryd.underlying60 Tryd.underlying61 Tryd.underlying62 sz62 cz62 ok62 ze62 by62 ni62 Tryd.underlying63 sz63 cz63 ok63 ze63
attribute [go_sem] by63 ni63 Tryd.underlying64 sz64 cz64 ok64 ze64 by64 ni64 Tryd.underlying65 Tryd.underlying66 Tryd.underlying67 Tryd.underlying68 Tryd.underlying69 sz69 cz69 ok69 ze69 by69 Tryd.underlying70 Tryd.underlying71 Tryd.underlying72 Tryd.underlying73 Tryd.underlying74 Tryd.underlying75 Tryd.underlying76 Tryd.underlying77 Tryd.underlying78 Tryd.underlying79 Tryd.underlying80 Tryd.underlying81 Tryd.underlying82 Tryd.underlying83 Tryd.underlying84 Tryd.underlying85 Tryd.underlying86 Tryd.underlying87 Tryd.underlying88 sz88 cz88 ok88 ze88 by88 ni88 eg88 sh88 Tryd.underlying89 Tryd.underlying90 Tryd.underlying91 Tryd.underlying92 sz92 cz92 ok92 ze92 by92 ni92 Tryd.underlying93 sz93 cz93 ok93
attribute [go_sem] ze93 by93 ni93 Tryd.underlying94 sz94 cz94 ok94 ze94 by94 ni94 Tryd.underlying95 sz95 cz95 ok95 ze95 by95 ni95 Tryd.underlying96 sz96 cz96 ok96 ze96 by96 ni96 Tryd.underlying97 Tryd.underlying98 Tryd.underlying99 Tryd.underlying100 Tryd.underlying101 Tryd.underlying102 Tryd.underlying103 Tryd.underlying104 Tryd.underlying105 Tryd.underlying106 Tryd.underlying107 Tryd.underlying108 Tryd.underlying109 Tryd.underlying110 Tryd.underlying111 Tryd.underlying112 sz112 cz112 ok112 ze112 by112 ni112 Tryd.underlying113 Tryd.underlying114 Tryd.underlying115 sz115 cz115 ok115 ze115 by115 ni115 Tryd.underlying116 sz116 cz116 ok116 ze116
attribute [go_sem] by116 ni116 Tryd.underlying117 sz117 cz117 ok117 ze117 by117 ni117 Tryd.underlying118 Tryd.underlying119 Tryd.underlying120 Tryd.underlying121 Tryd.underlying122 sz122 cz122 ok122 by122 ni122 eg122 sh122 Tryd.underlying123 sz123 cz123 ok123 by123 ni123 eg123 sh123 Tryd.underlying124 Tryd.underlying125 Tryd.underlying126 Tryd.underlying127 sz127 cz127 ok127 ze127 by127 ni127 Tryd.underlying128 Tryd.underlying129 Tryd.underlying130 Tryd.underlying131 Tryd.underlying132 sz132 cz132 ok132 ze132 by132 ni132 Tryd.underlying133 Tryd.underlying134 Tryd.underlying135 Tryd.underlying136 Tryd.underlying137 sz137 cz137 ok137 ze137 by137
attribute [go_sem] Tryd.underlying138 Tryd.underlying139 Tryd.underlying140 Tryd.underlying141 Tryd.underlying142 Tryd.underlying143 Tryd.underlying144 Tryd.underlying145 sz145 cz145 ok145 ze145 by145 Tryd.underlying146 Tryd.underlying147 Tryd.underlying148 Tryd.underlying149 Tryd.underlying150 Tryd.underlying151 Tryd.underlying152 Tryd.underlying153 Tryd.underlying154 Tryd.underlying155 Tryd.underlying156 Tryd.underlying157 Tryd.underlying158 Tryd.underlying159 Tryd.underlying160 sz160 cz160 ok160 ze160 by160 ni160 Tryd.underlying161 Tryd.underlying162 Tryd.underlying163 Tryd.underlying164 Tryd.underlying165 sz165 cz165 ok165 ze165 by165 Tryd.underlying166 Tryd.underlying167 Tryd.underlying168 Tryd.underlying169 Tryd.underlying170 Tryd.underlying171 Tryd.underlying172 sz172 cz172 ok172 ze172 by172 Tryd.underlying173 Tryd.underlying174 Tryd.underlying175 Tryd.underlying176
attribute [go_sem] Tryd.underlying177 Tryd.underlying178 Tryd.underlying179 Tryd.underlying180 sz180 cz180 ok180 ze180 by180 Tryd.underlying181 Tryd.underlying182 Tryd.underlying183 Tryd.underlying184 sz184 cz184 ok184 ze184 by184 ni184 Tryd.underlying185 Tryd.underlying186 Tryd.underlying187 sz187 cz187 ok187 by187 ni187 eg187 sh187 Tryd.underlying188 sz188 cz188 ok188 ze188 by188 ni188 eg188 sh188 Tryd.underlying189 sz189 cz189 ok189 ze189 by189 ni189 eg189 sh189 Tryd.underlying190 sz190 cz190 ok190 ze190 by190 ni190 eg190 sh190 Tryd.underlying191 Tryd.underlying192 Tryd.underlying193 Tryd.underlying194
attribute [go_sem] Tryd.underlying195 sz195 cz195 ok195 ze195 by195 ni195 Tryd.underlying196 Tryd.underlying197 Tryd.underlying198 sz198 cz198 ok198 ze198 by198 ni198 Tryd.underlying199 sz199 cz199 ok199 ze199 by199 ni199 Tryd.underlying200 sz200 cz200 ok200 ze200 by200 ni200 Tryd.underlying201 sz201 cz201 ok201 ze201 by201 ni201 Tryd.underlying202 sz202 cz202 ok202 ze202 by202 ni202 Tryd.underlying203 Tryd.underlying204 sz204 cz204 ok204 ze204 by204 Tryd.underlying205 sz205 cz205 ok205 ze205 by205 Tryd.underlying206 Tryd.underlying207 sz207
attribute [go_sem] cz207 ok207 ze207 by207 Tryd.underlying208 sz208 cz208 ok208 ze208 by208 Tryd.underlying209 sz209 cz209 ok209 ze209 by209 ni209 Tryd.underlying210 sz210 cz210 ok210 ze210 by210 ni210
end Go.Proofs.YtbdkofondpalpaaDoorX

/- Words for what functions answer. -/
set_option linter.unusedVariables false
namespace Go.Proofs.YtbdkofondpalpaaDoorX
open Go Go.RowKit Go.Proofs
abbrev i32 (n : Int) : T := .imm (.int .i32 n)
abbrev i64 (n : Int) : T := .imm (.int .i64 n)
abbrev u8 (n : Int) : T := .imm (.int .u8 n)
abbrev u32 (n : Int) : T := .imm (.int .u32 n)
abbrev u64 (n : Int) : T := .imm (.int .u64 n)
abbrev tb (b : Bool) : T := .imm (.bool b)
abbrev ts (s : ByteArray) : T := .imm (.string s)
theorem tb_eq {a b : Bool} (h : a = b) : T.imm (.bool a) = .imm (.bool b) := by rw [h]
theorem tb_iff {p : Prop} [Decidable p] {b : Bool} (h : b = true ↔ p) : T.imm (.bool b) = .imm (.bool (decide p)) := by
  refine tb_eq ?_
  cases b with
  | true => exact (decide_eq_true (h.1 rfl)).symm
  | false => exact (decide_eq_false fun hp => Bool.noConfusion (h.2 hp)).symm
theorem imm_eq {k : IntKind} {a b : Int} (h : a = b) : T.imm (.int k a) = .imm (.int k b) := by rw [h]
theorem str_eq {a b : ByteArray} (h : a = b) : T.imm (.string a) = .imm (.string b) := by rw [h]
theorem sl_eq {sz : Nat} {f : Bool} {a b : List T} (h : a = b) : T.sl sz f a = .sl sz f b := by rw [h]
theorem boolW_mk {b : Bool} {A B : Prop} (h1 : b = true → A) (h2 : b = false → B) : boolW b A B := ⟨h1, h2⟩
theorem boolD_mk {p : Prop} [Decidable p] {A B : Prop} (h1 : p → A) (h2 : ¬ p → B) : boolW (decide p) A B := ⟨fun h => h1 (of_decide_eq_true h), fun h => h2 (of_decide_eq_false h)⟩
theorem wf_of {k : IntKind} {n : Int} (h : (Lit.int k n).wf = true) : k.min ≤ n ∧ n ≤ k.max := by
  simpa [Lit.wf] using h
theorem wf_i32 {n : Int} (h : (Lit.int .i32 n).wf = true) : -2147483648 ≤ n ∧ n ≤ 2147483647 := wf_of h
theorem wf_i64 {n : Int} (h : (Lit.int .i64 n).wf = true) : -9223372036854775808 ≤ n ∧ n ≤ 9223372036854775807 := wf_of h
theorem wf_u8 {n : Int} (h : (Lit.int .u8 n).wf = true) : 0 ≤ n ∧ n ≤ 255 := wf_of h
theorem wf_u32 {n : Int} (h : (Lit.int .u32 n).wf = true) : 0 ≤ n ∧ n ≤ 4294967295 := wf_of h
theorem wf_u64 {n : Int} (h : (Lit.int .u64 n).wf = true) : 0 ≤ n ∧ n ≤ 18446744073709551615 := wf_of h
end Go.Proofs.YtbdkofondpalpaaDoorX

/- Bits of numbers that are not below zero. -/
set_option linter.unusedVariables false
namespace Go.Proofs.YtbdkofondpalpaaDoorX
open Go Go.RowKit Go.Proofs
theorem ofInt_nat (w : Nat) (n : Nat) (h : n < 2 ^ w) : (BitVec.ofInt w (n : Int)).toNat = n := by
  rw [BitVec.ofInt_natCast, BitVec.toNat_ofNat, Nat.mod_eq_of_lt h]
theorem or_low (i a b : Nat) (ha : a % 2 ^ i = 0) (hb : b < 2 ^ i) : a ||| b = a + b := by
  obtain ⟨q, rfl⟩ : ∃ q, a = 2 ^ i * q := ⟨a / 2 ^ i, by have := Nat.div_add_mod a (2 ^ i); omega⟩
  exact (Nat.two_pow_add_eq_or_of_lt hb q).symm
/-- Bits beside others are a sum. -/
theorem or_add (w i : Nat) (x y : Int) (hx : 0 ≤ x) (hxw : x < 2 ^ w) (hd : x % 2 ^ i = 0) (hy : 0 ≤ y) (hyi : y < 2 ^ i) (hiw : i ≤ w) : ((BitVec.ofInt w x ||| BitVec.ofInt w y).toNat : Int) = x + y := by
  obtain ⟨a, rfl⟩ := Int.eq_ofNat_of_zero_le hx
  obtain ⟨b, rfl⟩ := Int.eq_ofNat_of_zero_le hy
  have e : ((2 : Int) ^ i) = ((2 ^ i : Nat) : Int) := by simp
  have e' : ((2 : Int) ^ w) = ((2 ^ w : Nat) : Int) := by simp
  rw [e] at hd hyi
  rw [e'] at hxw
  have hle : 2 ^ i ≤ 2 ^ w := Nat.pow_le_pow_right (by omega) hiw
  rw [BitVec.toNat_or, ofInt_nat w a (by omega), ofInt_nat w b (by omega), or_low i a b (by omega) (by omega)]
  omega
theorem and_low (w i : Nat) (x : Int) (hx : 0 ≤ x) (hxw : x < 2 ^ w) (hiw : i ≤ w) (m : Int) (hm : m = 2 ^ i - 1) : ((BitVec.ofInt w x &&& BitVec.ofInt w m).toNat : Int) = x % 2 ^ i := by
  obtain ⟨a, rfl⟩ := Int.eq_ofNat_of_zero_le hx
  have e : ((2 : Int) ^ i) = ((2 ^ i : Nat) : Int) := by simp
  have e' : ((2 : Int) ^ w) = ((2 ^ w : Nat) : Int) := by simp
  rw [e'] at hxw
  have hle : 2 ^ i ≤ 2 ^ w := Nat.pow_le_pow_right (by omega) hiw
  have hp : 0 < 2 ^ i := Nat.two_pow_pos i
  have hm' : m = ((2 ^ i - 1 : Nat) : Int) := by omega
  subst hm'
  rw [BitVec.toNat_and, ofInt_nat w a (by omega), ofInt_nat w _ (by omega), Nat.and_two_pow_sub_one_eq_mod, e]
  omega
theorem bOr_add (k : IntKind) (i : Nat) (x y : Int) (hx : 0 ≤ x) (hxw : x < 2 ^ k.bits) (hd : x % 2 ^ i = 0) (hy : 0 ≤ y) (hyi : y < 2 ^ i) (hiw : i ≤ k.bits) : bOr k x y = x + y := or_add k.bits i x y hx hxw hd hy hyi hiw
theorem bAnd_low (k : IntKind) (i : Nat) (x : Int) (hx : 0 ≤ x) (hxw : x < 2 ^ k.bits) (hiw : i ≤ k.bits) (m : Int) (hm : m = 2 ^ i - 1) : bAnd k x m = x % 2 ^ i := and_low k.bits i x hx hxw hiw m hm
theorem bShr_div (k : IntKind) (x : Int) (n : Nat) (m : Int) (h : (2 : Int) ^ min n k.bits = m) (hm : 0 ≤ m) : bShr k x n = x / m := by unfold bShr; rw [h, Int.fdiv_eq_ediv_of_nonneg _ hm]
end Go.Proofs.YtbdkofondpalpaaDoorX

set_option linter.unusedVariables false
set_option linter.unusedSimpArgs false
namespace Go.Proofs.YtbdkofondpalpaaDoorX
open Go Go.RowKit Go.Proofs
set_option maxRecDepth 100000
def eT23 (x : (Bool) × (List UInt8)) : T := .agg [.imm (.bool x.1), .imm (.string (bs x.2))]
theorem eT23_def (x : (Bool) × (List UInt8)) : eT23 x = .agg [.imm (.bool x.1), .imm (.string (bs x.2))] := rfl
attribute [go_sem] eT23_def
theorem app_T23 (l : List ((Bool) × (List UInt8))) (y0 : Bool) (y1 : List UInt8) (r : List T) : List.map eT23 l ++ (T.agg [.imm (.bool y0), .imm (.string (bs y1))] :: r) = List.map eT23 (l ++ [(y0, y1)]) ++ r := by simp [eT23]
theorem set_T23 (l : List ((Bool) × (List UInt8))) (i : Nat) (y0 : Bool) (y1 : List UInt8) : (List.map eT23 l).set i (T.agg [.imm (.bool y0), .imm (.string (bs y1))]) = List.map eT23 (l.set i (y0, y1)) := by rw [List.map_set]; rfl
attribute [go_sem] app_T23 set_T23
def eT35 (x : (List UInt8) × (List UInt8)) : T := .agg [.imm (.string (bs x.1)), .imm (.string (bs x.2))]
theorem eT35_def (x : (List UInt8) × (List UInt8)) : eT35 x = .agg [.imm (.string (bs x.1)), .imm (.string (bs x.2))] := rfl
attribute [go_sem] eT35_def
theorem app_T35 (l : List ((List UInt8) × (List UInt8))) (y0 : List UInt8) (y1 : List UInt8) (r : List T) : List.map eT35 l ++ (T.agg [.imm (.string (bs y0)), .imm (.string (bs y1))] :: r) = List.map eT35 (l ++ [(y0, y1)]) ++ r := by simp [eT35]
theorem set_T35 (l : List ((List UInt8) × (List UInt8))) (i : Nat) (y0 : List UInt8) (y1 : List UInt8) : (List.map eT35 l).set i (T.agg [.imm (.string (bs y0)), .imm (.string (bs y1))]) = List.map eT35 (l.set i (y0, y1)) := by rw [List.map_set]; rfl
attribute [go_sem] app_T35 set_T35
def eT43 (x : (List UInt8) × (List UInt8)) : T := .agg [.imm (.string (bs x.1)), .imm (.string (bs x.2))]
theorem eT43_def (x : (List UInt8) × (List UInt8)) : eT43 x = .agg [.imm (.string (bs x.1)), .imm (.string (bs x.2))] := rfl
attribute [go_sem] eT43_def
theorem app_T43 (l : List ((List UInt8) × (List UInt8))) (y0 : List UInt8) (y1 : List UInt8) (r : List T) : List.map eT43 l ++ (T.agg [.imm (.string (bs y0)), .imm (.string (bs y1))] :: r) = List.map eT43 (l ++ [(y0, y1)]) ++ r := by simp [eT43]
theorem set_T43 (l : List ((List UInt8) × (List UInt8))) (i : Nat) (y0 : List UInt8) (y1 : List UInt8) : (List.map eT43 l).set i (T.agg [.imm (.string (bs y0)), .imm (.string (bs y1))]) = List.map eT43 (l.set i (y0, y1)) := by rw [List.map_set]; rfl
attribute [go_sem] app_T43 set_T43
end Go.Proofs.YtbdkofondpalpaaDoorX

set_option linter.unusedVariables false
set_option linter.unusedSimpArgs false
namespace Go.Proofs.YtbdkofondpalpaaDoorX
open Go Go.RowKit Go.Proofs
set_option maxRecDepth 100000
/-! ### strings.Trim: by the shelf, of signs below 128 -/
open Go.Shelf
def Tryd.lay160_ren : Go.Shelf.Ren := ⟨fun | 160 => 34 | 232 => 66 | 231 => 65 | 227 => 67 | 234 => 69 | 233 => 68 | 236 => 71 | 235 => 70 | 228 => 101 | 271 => 104 | 151 => 103 | 197 => 102 | 120 => 133 | 152 => 132 | 260 => 131 | 137 => 73 | 119 => 151 | 224 => 136 | 225 => 135 | 217 => 106 | 266 => 134 | n => n, fun | 9 => 9 | 4 => 4 | 3 => 3 | 5 => 5 | 117 => 124 | 116 => 123 | 0 => 0 | 124 => 127 | 21 => 21 | 105 => 153 | 46 => 137 | 119 => 187 | 139 => 190 | 138 => 189 | n => n, fun | 3 => 1 | 4 => 2 | n => n⟩
theorem Tryd.lay160 : Go.Proofs.Lays.n160 Tryd.prog Tryd.lay160_ren := {
  mixed := by kernel_rfl,
  f119 := Tryd.func151.trans (congrArg some (by kernel_rfl)),
  f120 := Tryd.func133.trans (congrArg some (by kernel_rfl)),
  f137 := Tryd.func73.trans (congrArg some (by kernel_rfl)),
  f151 := Tryd.func103.trans (congrArg some (by kernel_rfl)),
  f152 := Tryd.func132.trans (congrArg some (by kernel_rfl)),
  f160 := Tryd.func34.trans (congrArg some (by kernel_rfl)),
  f197 := Tryd.func102.trans (congrArg some (by kernel_rfl)),
  f217 := Tryd.func106.trans (congrArg some (by kernel_rfl)),
  f224 := Tryd.func136.trans (congrArg some (by kernel_rfl)),
  f225 := Tryd.func135.trans (congrArg some (by kernel_rfl)),
  f227 := Tryd.func67.trans (congrArg some (by kernel_rfl)),
  f228 := Tryd.func101.trans (congrArg some (by kernel_rfl)),
  f231 := Tryd.func65.trans (congrArg some (by kernel_rfl)),
  f232 := Tryd.func66.trans (congrArg some (by kernel_rfl)),
  f233 := Tryd.func68.trans (congrArg some (by kernel_rfl)),
  f234 := Tryd.func69.trans (congrArg some (by kernel_rfl)),
  f235 := Tryd.func70.trans (congrArg some (by kernel_rfl)),
  f236 := Tryd.func71.trans (congrArg some (by kernel_rfl)),
  f260 := Tryd.func131.trans (congrArg some (by kernel_rfl)),
  f266 := Tryd.func134.trans (congrArg some (by kernel_rfl)),
  f271 := Tryd.func104.trans (congrArg some (by kernel_rfl)),
  t0 := Tryd.underlying0,
  a0 := Tryd.isAgg0,
  z0 := Tryd.sizeOf0,
  v0 := Tryd.zeroValue0,
  t3 := Tryd.underlying3,
  a3 := Tryd.isAgg3,
  z3 := Tryd.sizeOf3,
  v3 := Tryd.zeroValue3,
  t4 := Tryd.underlying4,
  a4 := Tryd.isAgg4,
  z4 := Tryd.sizeOf4,
  v4 := Tryd.zeroValue4,
  t5 := Tryd.underlying5,
  a5 := Tryd.isAgg5,
  z5 := Tryd.sizeOf5,
  v5 := Tryd.zeroValue5,
  t9 := Tryd.underlying9,
  a9 := Tryd.isAgg9,
  z9 := Tryd.sizeOf9,
  v9 := Tryd.zeroValue9,
  t21 := Tryd.underlying21,
  a21 := Tryd.isAgg21,
  z21 := Tryd.sizeOf21,
  v21 := Tryd.zeroValue21,
  t46 := Tryd.underlying137,
  a46 := Tryd.isAgg137,
  z46 := Tryd.sizeOf137,
  v46 := Tryd.zeroValue137,
  t105 := Tryd.underlying153,
  a105 := Tryd.isAgg153,
  z105 := Tryd.sizeOf153,
  v105 := Tryd.zeroValue153,
  t116 := Tryd.underlying123,
  a116 := Tryd.isAgg123,
  z116 := Tryd.sizeOf123,
  t117 := Tryd.underlying124,
  a117 := Tryd.isAgg124,
  z117 := Tryd.sizeOf124,
  v117 := Tryd.zeroValue124,
  t119 := Tryd.underlying187,
  a119 := Tryd.isAgg187,
  z119 := Tryd.sizeOf187,
  t124 := Tryd.underlying127,
  a124 := Tryd.isAgg127,
  z124 := Tryd.sizeOf127,
  v124 := Tryd.zeroValue127,
  t138 := Tryd.underlying189,
  a138 := Tryd.isAgg189,
  z138 := Tryd.sizeOf189,
  v138 := Tryd.zeroValue189,
  t139 := Tryd.underlying190,
  a139 := Tryd.isAgg190,
  z139 := Tryd.sizeOf190,
  v139 := Tryd.zeroValue190,
  g3 := by kernel_rfl,
  g4 := by kernel_rfl }

def F34 (n : Nat) (a0 : List UInt8) (a1 : List UInt8) : Option (List UInt8) :=
  if a0.length ≤ 9223372036854775807 ∧ a1.length < 4294967281 ∧ (a1.all fun b => decide (b.toNat < 128)) = true then some (Lib.trimS a0 a1) else none
theorem F34_ok (n : Nat) (a0 : List UInt8) (a1 : List UInt8) (r : List UInt8) (h : F34 n a0 a1 = some r) : FnC Tryd.prog 34 [.imm (.string (bs a0)), .imm (.string (bs a1))] (.imm (.string (bs r))) := by
  unfold F34 at h
  split at h
  case isFalse => cases h
  rename_i hh
  obtain ⟨h1, h2, h3⟩ := hh
  obtain rfl := Option.some.inj h
  refine ⟨⟨Tryd.f34, Tryd.func34, by kernel_rfl, rfl⟩, fun w ban vs hban hv => ?_⟩
  have e : vs = #[.string (bs a0), .string (bs a1)] := by
    obtain ⟨l⟩ := vs
    simp only [RepL, Rep] at hv
    obtain ⟨u, us, h1, h2, v, vs', h3, h4, h5⟩ := hv
    simp_all
  rw [e]
  refine (Any.strings_Trim_laid Tryd.lay160 (by kernel_rfl) (bs a0) (bs a1) w (by rw [bs_size]; exact h1) (by rw [bs_size]; exact h2) (ascii_of_all h3)).mono ?_
  rintro e w' ⟨rfl, hb⟩
  exact ⟨_, rfl, hb, by simp only [Rep]; exact ⟨rfl, rfl⟩⟩

end Go.Proofs.YtbdkofondpalpaaDoorX

set_option linter.unusedVariables false
set_option linter.unusedSimpArgs false
namespace Go.Proofs.YtbdkofondpalpaaDoorX
open Go Go.RowKit Go.Proofs
set_option maxRecDepth 100000
/-! ### strings.Count: by hand, of a text of one byte -/
def F114 (n : Nat) (a0 : List UInt8) (a1 : List UInt8) : Option Int := match a1 with
  | [c] => some ((Lib.countByte a0 c : Nat) : Int)
  | _ => none
set_option maxHeartbeats 1000000 in
theorem count_calls (s : ByteArray) (c : UInt8) (w : World) :
    Calls Tryd.prog 114 #[.string s, .string ⟨#[c]⟩] w fun e w' => e = .returned (.int .i64 (Lib.countByte s.data.toList c)) ∧ Below w.heap.size w w' := by
  go_enter Tryd.func114, Tryd.ntmps114
  go_wp2
  rw [run_callFunc_extern Tryd.func141 (by kernel_rfl) (by kernel_rfl) (by kernel_rfl) (e := Extern.BytealgCount.count) (by kernel_rfl), Lib.run_countString]
  simp only [Result.andThen]
  rw [Oper.upon_value]
  go_wp2
  go_ret
  exact ⟨rfl, Below.refl _ _⟩
theorem F114_ok (n : Nat) (a0 : List UInt8) (a1 : List UInt8) (r : Int) (h : F114 n a0 a1 = some r) : FnC Tryd.prog 114 [.imm (.string (bs a0)), .imm (.string (bs a1))] (.imm (.int .i64 r)) := by
  unfold F114 at h
  split at h
  case h_2 => cases h
  rename_i c
  obtain rfl := Option.some.inj h
  refine ⟨⟨Tryd.f114, Tryd.func114, by kernel_rfl, rfl⟩, fun w ban vs hban hv => ?_⟩
  have e : vs = #[.string (bs a0), .string ⟨#[c]⟩] := by
    obtain ⟨l⟩ := vs
    simp only [RepL, Rep] at hv
    obtain ⟨u, us, h1, h2, v, vs', h3, h4, h5⟩ := hv
    simp_all [bs]
  rw [e]
  refine (count_calls (bs a0) c w).mono ?_
  rintro e w' ⟨rfl, hb⟩
  exact ⟨_, rfl, hb, by simp only [Rep]; exact ⟨rfl, rfl⟩⟩

end Go.Proofs.YtbdkofondpalpaaDoorX

set_option linter.unusedVariables false
set_option linter.unusedSimpArgs false
namespace Go.Proofs.YtbdkofondpalpaaDoorX
open Go Go.RowKit Go.Proofs
set_option maxRecDepth 100000
/-! ### internal/stringslite.IndexByte: by hand (a function without a body stands below it) -/
def F106 (n : Nat) (a0 : List UInt8) (a1 : Int) : Option Int := some (Lib.indexByte a0 a1.toNat.toUInt8)
set_option maxHeartbeats 1000000 in
theorem indexByte_calls (a0 : List UInt8) (a1 : Int) (w : World) :
    Calls Tryd.prog 106 #[.string (bs a0), .int .u8 a1] w fun e w' => e = .returned (.int .i64 (Lib.indexByte a0 a1.toNat.toUInt8)) ∧ Below w.heap.size w w' := by
  go_enter Tryd.func106, Tryd.ntmps106
  go_wp2
  rw [run_callFunc_extern Tryd.func134 (by kernel_rfl) (by kernel_rfl) (by kernel_rfl) (e := Extern.BytealgIndexByte.indexByte) (by kernel_rfl), Lib.run_indexByteString]
  simp only [Result.andThen]
  rw [Oper.upon_value]
  go_wp2
  go_ret
  exact ⟨rfl, Below.refl _ _⟩
theorem F106_ok (n : Nat) (a0 : List UInt8) (a1 : Int) (r : Int) (h : F106 n a0 a1 = some r) : FnC Tryd.prog 106 [.imm (.string (bs a0)), .imm (.int .u8 a1)] (.imm (.int .i64 r)) := by
  obtain rfl := Option.some.inj h
  refine ⟨⟨Tryd.f106, Tryd.func106, by kernel_rfl, rfl⟩, fun w ban vs hban hv => ?_⟩
  have e : vs = #[.string (bs a0), .int .u8 a1] := by
    obtain ⟨l⟩ := vs
    simp only [RepL, Rep] at hv
    obtain ⟨u, us, h1, h2, v, vs', h3, h4, h5⟩ := hv
    simp_all
  rw [e]
  refine (indexByte_calls a0 a1 w).mono ?_
  rintro e w' ⟨rfl, hb⟩
  exact ⟨_, rfl, hb, by simp only [Rep]; exact ⟨trivial, rfl⟩⟩

end Go.Proofs.YtbdkofondpalpaaDoorX

set_option linter.unusedVariables false
set_option linter.unusedSimpArgs false
namespace Go.Proofs.YtbdkofondpalpaaDoorX
open Go Go.RowKit Go.Proofs
set_option maxRecDepth 100000
attribute [local go_sem ↓] stepsK_build stepsK_build0 stepsK_bs stepsK_bs0 appendS
attribute [local go_sem] String.reduceEq String.reduceNe reduceCtorEq Int.reduceEq Nat.reduceAdd Nat.reduceSub Nat.reduceMul Nat.reduceLT Nat.reduceLeDiff Nat.reduceEqDiff Nat.reduceBEq Int.reduceToNat Int.reduceLT Int.reduceLE Int.reduceGT Int.reduceGE Int.reduceAdd Int.reduceSub Int.reduceMul Int.reduceNeg Int.reduceBEq Int.reduceBNe Int.reducePow Int.reduceDiv Int.reduceMod Int.reduceTDiv Int.reduceTMod Int.reduceNatCast
/-! ### internal/stringslite.Index -/
def F107 (n : Nat) (a0 : List UInt8) (a1 : List UInt8) : Option (Int) := iteB ((a1.length : Int) == (0 : Int)) (some (0 : Int)) (iteB (a1 == a0) (some (0 : Int)) (iteB ((a1.length : Int) == (1 : Int)) (grd ((0 : Int) < (a1.length : Int)) ((F106 n a0 ((a1.getD (0 : Int).toNat 0).toNat : Int)).bind fun v5 => some v5)) (iteB (decide ((a0.length : Int) ≤ (a1.length : Int))) (some (-1 : Int)) (none))))
set_option maxHeartbeats 4000000 in
theorem F107_ok : ∀ (n : Nat) (a0 : List UInt8) (a1 : List UInt8) (r : Int), F107 n a0 a1 = some r → FnC Tryd.prog 107 [.imm (.string (bs a0)), .imm (.string (bs a1))] (.imm (.int .i64 r))
  | n, a0, a1, r, h => by
    unfold F107 at h
    refine FnC.goX mixed Tryd.func107 (by kernel_rfl) rfl ?_
    simp only [Tryd.ntmps107, List.length_cons, List.length_nil, List.replicate, List.cons_append, List.nil_append, Nat.reduceAdd, Nat.reduceSub]
    refine runX_seq ?_
    refine runX_regionC fun C hC => ?_
    try simp -implicitDefEqProofs (maxSteps := 4000000) (disch := first | omega | decide | (simp only [go_sem]; omega)) only [go_sem, ↓reduceIte]
    repeat (with_reducible refine And.intro (by first | assumption | omega | (simp; done) | (simp; omega)) ?_)
    refine toEnd hC ?_
    refine endX_seq ?_
    refine runX_seq ?_
    refine runX_regionC fun C hC => ?_
    try simp -implicitDefEqProofs (maxSteps := 4000000) (disch := first | omega | decide | (simp only [go_sem]; omega)) only [go_sem, ↓reduceIte]
    repeat (with_reducible refine And.intro (by first | assumption | omega | (simp; done) | (simp; omega)) ?_)
    refine toEnd hC ?_
    refine endX_seq ?_
    refine runX_seq ?_
    refine runX_block ?_
    refine runX_seq ?_
    refine runX_regionC fun C hC => ?_
    try simp -implicitDefEqProofs (maxSteps := 4000000) (disch := first | omega | decide | (simp only [go_sem]; omega)) only [go_sem, ↓reduceIte]
    repeat (with_reducible refine And.intro (by first | assumption | omega | (simp; done) | (simp; omega)) ?_)
    rcases iteB_some h with ⟨c1, h⟩ | ⟨c1, h⟩
    · refine guardK_F c1 ?_
      try simp -implicitDefEqProofs (maxSteps := 4000000) (disch := first | omega | decide | (simp only [go_sem]; omega)) only [go_sem, ↓reduceIte]
      repeat (with_reducible refine And.intro (by first | assumption | omega | (simp; done) | (simp; omega)) ?_)
      refine toEnd hC ?_
      refine endX_seq ?_
      refine runX_condT rfl rfl ?_
      refine runX_seq ?_
      refine runX_regionC fun C hC => ?_
      try simp -implicitDefEqProofs (maxSteps := 4000000) (disch := first | omega | decide | (simp only [go_sem]; omega)) only [go_sem, ↓reduceIte]
      repeat (with_reducible refine And.intro (by first | assumption | omega | (simp; done) | (simp; omega)) ?_)
      refine toEnd hC ?_
      refine endX_seq ?_
      refine runX_ret ?_
      refine endX_blkR ?_
      refine endX_seqR ?_
      refine endX_q ?_
      obtain rfl := Option.some.inj h
      show RetW _ _ _ _ _
      simp only [RetW]
      (try simp -implicitDefEqProofs (maxSteps := 4000000) (disch := first | omega | decide | (simp only [go_sem]; omega)) only [go_sem, ↓reduceIte])
      (try simp (disch := omega) only [if_pos, Nat.sub_zero])
      exact leT_refl _
    · refine guardK_T c1 ?_
      try simp -implicitDefEqProofs (maxSteps := 4000000) (disch := first | omega | decide | (simp only [go_sem]; omega)) only [go_sem, ↓reduceIte]
      repeat (with_reducible refine And.intro (by first | assumption | omega | (simp; done) | (simp; omega)) ?_)
      refine toEnd hC ?_
      refine endX_seq ?_
      rcases iteB_some h with ⟨c2, h⟩ | ⟨c2, h⟩
      · refine runX_condT rfl c2 ?_
        refine runX_seq ?_
        refine runX_regionC fun C hC => ?_
        try simp -implicitDefEqProofs (maxSteps := 4000000) (disch := first | omega | decide | (simp only [go_sem]; omega)) only [go_sem, ↓reduceIte]
        repeat (with_reducible refine And.intro (by first | assumption | omega | (simp; done) | (simp; omega)) ?_)
        refine toEnd hC ?_
        refine endX_seq ?_
        refine runX_ret ?_
        refine endX_blkR ?_
        refine endX_seqR ?_
        refine endX_q ?_
        obtain rfl := Option.some.inj h
        show RetW _ _ _ _ _
        simp only [RetW]
        (try simp -implicitDefEqProofs (maxSteps := 4000000) (disch := first | omega | decide | (simp only [go_sem]; omega)) only [go_sem, ↓reduceIte])
        (try simp (disch := omega) only [if_pos, Nat.sub_zero])
        exact leT_refl _
      · refine runX_condF rfl c2 ?_
        refine runX_seq ?_
        refine runX_regionC fun C hC => ?_
        try simp -implicitDefEqProofs (maxSteps := 4000000) (disch := first | omega | decide | (simp only [go_sem]; omega)) only [go_sem, ↓reduceIte]
        repeat (with_reducible refine And.intro (by first | assumption | omega | (simp; done) | (simp; omega)) ?_)
        refine toEnd hC ?_
        refine endX_seq ?_
        rcases iteB_some h with ⟨c3, h⟩ | ⟨c3, h⟩
        · refine runX_condT rfl c3 ?_
          refine runX_seq ?_
          refine runX_regionC fun C hC => ?_
          obtain ⟨g4, h⟩ := grd_some h
          obtain ⟨v5, h5, h⟩ := bnd_some h
          try simp -implicitDefEqProofs (maxSteps := 4000000) (disch := first | omega | decide | (simp only [go_sem]; omega)) only [go_sem, ↓reduceIte]
          repeat (with_reducible refine And.intro (by first | assumption | omega | (simp; done) | (simp; omega)) ?_)
          refine callG_X (by first | rfl | (simp only [go_sem]; done) | (simp only [closedL, closedT, Bool.and_true]; exact closedL_map _ (fun _ => by first | rfl | (simp only [go_sem]; done)) _)) (F106_ok n a0 ((a1.getD (0 : Int).toNat 0).toNat : Int) _ h5) (by repeat (first | exact leL_refl _ | refine leL_cons (by first | exact leT_refl _ | exact leT_virt | exact leT_junk _ | exact leT_sl | exact leT_sln | exact leT_nil | (refine leT_agg (by repeat (first | exact leL_refl _ | refine leL_cons (by first | exact leT_refl _ | exact leT_sl | exact leT_sln | exact leT_nil) ?_)))) ?_)) ?_
          try simp -implicitDefEqProofs (maxSteps := 4000000) (disch := first | omega | decide | (simp only [go_sem]; omega)) only [go_sem, ↓reduceIte]
          repeat (with_reducible refine And.intro (by first | assumption | omega | (simp; done) | (simp; omega)) ?_)
          refine toEnd hC ?_
          refine endX_seq ?_
          refine runX_ret ?_
          refine endX_blkR ?_
          refine endX_seqR ?_
          refine endX_q ?_
          obtain rfl := Option.some.inj h
          show RetW _ _ _ _ _
          simp only [RetW]
          (try simp -implicitDefEqProofs (maxSteps := 4000000) (disch := first | omega | decide | (simp only [go_sem]; omega)) only [go_sem, ↓reduceIte])
          (try simp (disch := omega) only [if_pos, Nat.sub_zero])
          exact leT_refl _
        · refine runX_condF rfl c3 ?_
          refine runX_seq ?_
          refine runX_regionC fun C hC => ?_
          try simp -implicitDefEqProofs (maxSteps := 4000000) (disch := first | omega | decide | (simp only [go_sem]; omega)) only [go_sem, ↓reduceIte]
          repeat (with_reducible refine And.intro (by first | assumption | omega | (simp; done) | (simp; omega)) ?_)
          refine toEnd hC ?_
          refine endX_seq ?_
          rcases iteB_some h with ⟨c6, h⟩ | ⟨c6, h⟩
          · refine runX_condT rfl c6 ?_
            refine runX_seq ?_
            refine runX_regionC fun C hC => ?_
            try simp -implicitDefEqProofs (maxSteps := 4000000) (disch := first | omega | decide | (simp only [go_sem]; omega)) only [go_sem, ↓reduceIte]
            repeat (with_reducible refine And.intro (by first | assumption | omega | (simp; done) | (simp; omega)) ?_)
            refine toEnd hC ?_
            refine endX_seq ?_
            refine runX_ret ?_
            refine endX_blkR ?_
            refine endX_seqR ?_
            refine endX_q ?_
            obtain rfl := Option.some.inj h
            show RetW _ _ _ _ _
            simp only [RetW]
            (try simp -implicitDefEqProofs (maxSteps := 4000000) (disch := first | omega | decide | (simp only [go_sem]; omega)) only [go_sem, ↓reduceIte])
            (try simp (disch := omega) only [if_pos, Nat.sub_zero])
            exact leT_refl _
          · refine runX_condF rfl c6 ?_
            cases h
end Go.Proofs.YtbdkofondpalpaaDoorX

set_option linter.unusedVariables false
set_option linter.unusedSimpArgs false
namespace Go.Proofs.YtbdkofondpalpaaDoorX
open Go Go.RowKit Go.Proofs
set_option maxRecDepth 100000
attribute [local go_sem ↓] stepsK_build stepsK_build0 stepsK_bs stepsK_bs0 appendS
attribute [local go_sem] String.reduceEq String.reduceNe reduceCtorEq Int.reduceEq Nat.reduceAdd Nat.reduceSub Nat.reduceMul Nat.reduceLT Nat.reduceLeDiff Nat.reduceEqDiff Nat.reduceBEq Int.reduceToNat Int.reduceLT Int.reduceLE Int.reduceGT Int.reduceGE Int.reduceAdd Int.reduceSub Int.reduceMul Int.reduceNeg Int.reduceBEq Int.reduceBNe Int.reducePow Int.reduceDiv Int.reduceMod Int.reduceTDiv Int.reduceTMod Int.reduceNatCast
/-! ### strings.Index -/
def F115 (n : Nat) (a0 : List UInt8) (a1 : List UInt8) : Option (Int) := (F107 n a0 a1).bind fun v1 => some v1
set_option maxHeartbeats 4000000 in
theorem F115_ok : ∀ (n : Nat) (a0 : List UInt8) (a1 : List UInt8) (r : Int), F115 n a0 a1 = some r → FnC Tryd.prog 115 [.imm (.string (bs a0)), .imm (.string (bs a1))] (.imm (.int .i64 r))
  | n, a0, a1, r, h => by
    unfold F115 at h
    refine FnC.goX mixed Tryd.func115 (by kernel_rfl) rfl ?_
    simp only [Tryd.ntmps115, List.length_cons, List.length_nil, List.replicate, List.cons_append, List.nil_append, Nat.reduceAdd, Nat.reduceSub]
    refine runX_seq ?_
    refine runX_regionC fun C hC => ?_
    try simp -implicitDefEqProofs (maxSteps := 4000000) (disch := first | omega | decide | (simp only [go_sem]; omega)) only [go_sem, ↓reduceIte]
    repeat (with_reducible refine And.intro (by first | assumption | omega | (simp; done) | (simp; omega)) ?_)
    refine toEnd hC ?_
    refine endX_seq ?_
    refine runX_seq ?_
    refine runX_regionC fun C hC => ?_
    obtain ⟨v1, h1, h⟩ := bnd_some h
    try simp -implicitDefEqProofs (maxSteps := 4000000) (disch := first | omega | decide | (simp only [go_sem]; omega)) only [go_sem, ↓reduceIte]
    repeat (with_reducible refine And.intro (by first | assumption | omega | (simp; done) | (simp; omega)) ?_)
    refine callG_X (by first | rfl | (simp only [go_sem]; done) | (simp only [closedL, closedT, Bool.and_true]; exact closedL_map _ (fun _ => by first | rfl | (simp only [go_sem]; done)) _)) (F107_ok n a0 a1 _ h1) (by repeat (first | exact leL_refl _ | refine leL_cons (by first | exact leT_refl _ | exact leT_virt | exact leT_junk _ | exact leT_sl | exact leT_sln | exact leT_nil | (refine leT_agg (by repeat (first | exact leL_refl _ | refine leL_cons (by first | exact leT_refl _ | exact leT_sl | exact leT_sln | exact leT_nil) ?_)))) ?_)) ?_
    try simp -implicitDefEqProofs (maxSteps := 4000000) (disch := first | omega | decide | (simp only [go_sem]; omega)) only [go_sem, ↓reduceIte]
    repeat (with_reducible refine And.intro (by first | assumption | omega | (simp; done) | (simp; omega)) ?_)
    refine toEnd hC ?_
    refine endX_seq ?_
    refine runX_ret ?_
    refine endX_q ?_
    obtain rfl := Option.some.inj h
    show RetW _ _ _ _ _
    simp only [RetW]
    (try simp -implicitDefEqProofs (maxSteps := 4000000) (disch := first | omega | decide | (simp only [go_sem]; omega)) only [go_sem, ↓reduceIte])
    (try simp (disch := omega) only [if_pos, Nat.sub_zero])
    exact leT_refl _
end Go.Proofs.YtbdkofondpalpaaDoorX

set_option linter.unusedVariables false
set_option linter.unusedSimpArgs false
namespace Go.Proofs.YtbdkofondpalpaaDoorX
open Go Go.RowKit Go.Proofs
set_option maxRecDepth 100000
attribute [local go_sem ↓] stepsK_build stepsK_build0 stepsK_bs stepsK_bs0 appendS
attribute [local go_sem] String.reduceEq String.reduceNe reduceCtorEq Int.reduceEq Nat.reduceAdd Nat.reduceSub Nat.reduceMul Nat.reduceLT Nat.reduceLeDiff Nat.reduceEqDiff Nat.reduceBEq Int.reduceToNat Int.reduceLT Int.reduceLE Int.reduceGT Int.reduceGE Int.reduceAdd Int.reduceSub Int.reduceMul Int.reduceNeg Int.reduceBEq Int.reduceBNe Int.reducePow Int.reduceDiv Int.reduceMod Int.reduceTDiv Int.reduceTMod Int.reduceNatCast
/-! ### strings.genSplit -/
def F83_S3 (a1 : List UInt8) (a2 : Int) (a0 : List UInt8) (x5 : Int) (x8 : List UInt8) (x9 : Int) (x10 : List (List UInt8)) : St := ⟨[.imm (.string (bs x8)), .imm (.string (bs a1)), .imm (.int .i64 a2), .imm (.int .i64 (IntKind.wrap .i64 ((if (IntKind.wrap .i64 ((a0.length : Int) + (1 : Int))) < x5 then (IntKind.wrap .i64 ((a0.length : Int) + (1 : Int))) else x5) - (1 : Int)))), .junk, .junk, .junk, .junk, .junk, .rsl 0 1 0 x10.length, .imm (.int .i64 x9), .junk, .junk, .junk, .junk, .junk, .junk, .junk, .junk, .junk, .junk, .junk, .junk, .junk, .junk, .junk, .junk, .junk, .junk, .junk, .junk, .junk, .junk, .junk, .junk, .junk, .junk, .junk, .junk, .junk, .junk, .junk, .junk, .junk, .junk, .junk, .junk, .junk, .junk, .junk, .junk, .junk, .junk, .junk, .junk, .junk, .junk, .junk, .junk, .junk, .junk, .junk, .junk, .junk, .junk, .junk], [some (.buf 9 1 (List.map eS x10) 0)]⟩
def F83_S2 (x18 : List UInt8) (x19 : Int) (x20 : List (List UInt8)) : St := ⟨[.imm (.string (bs x18)), .junk, .junk, .junk, .junk, .junk, .junk, .junk, .junk, .rsl 0 1 0 x20.length, .imm (.int .i64 x19), .junk, .junk, .junk, .junk, .junk, .junk, .junk, .junk, .junk, .junk, .junk, .junk, .junk, .junk, .junk, .junk, .junk, .junk, .junk, .junk, .junk, .junk, .junk, .junk, .junk, .junk, .junk, .junk, .junk, .junk, .junk, .junk, .junk, .junk, .junk, .junk, .junk, .junk, .junk, .junk, .junk, .junk, .junk, .junk, .junk, .junk, .junk, .junk, .junk, .junk, .junk, .junk, .junk, .junk, .junk], [some (.buf 9 1 (List.map eS x20) 0)]⟩
def F83_S1 (a0 : List UInt8) (a1 : List UInt8) (a2 : Int) (x5 : Int) : St := ⟨[.imm (.string (bs a0)), .imm (.string (bs a1)), .imm (.int .i64 a2), .imm (.int .i64 x5), .junk, .junk, .junk, .junk, .junk, .junk, .junk, .junk, .junk, .junk, .junk, .junk, .junk, .junk, .junk, .junk, .junk, .junk, .junk, .junk, .junk, .junk, .junk, .junk, .junk, .junk, .junk, .junk, .junk, .junk, .junk, .junk, .junk, .junk, .junk, .junk, .junk, .junk, .junk, .junk, .junk, .junk, .junk, .junk, .junk, .junk, .junk, .junk, .junk, .junk, .junk, .junk, .junk, .junk, .junk, .junk, .junk, .junk, .junk, .junk, .junk, .junk], []⟩
mutual
def F83_L3 : Nat → (List UInt8) → (Int) → (List UInt8) → (Int) → (List UInt8) → (Int) → (List (List UInt8)) → Option (List (List UInt8))
  | 0, _, _, _, _, _, _, _ => none
  | m3 + 1, a1, a2, a0, x5, x8, x9, x10 => iteB (decide (x9 < (IntKind.wrap .i64 ((if (IntKind.wrap .i64 ((a0.length : Int) + (1 : Int))) < x5 then (IntKind.wrap .i64 ((a0.length : Int) + (1 : Int))) else x5) - (1 : Int))))) ((F115 m3 x8 a1).bind fun v12 => iteB (decide (v12 < (0 : Int))) (F83_J2 m3 x8 x9 x10) (grd (0 ≤ (IntKind.wrap .i64 (v12 + a2)) ∧ (IntKind.wrap .i64 (v12 + a2)) ≤ (x8.length : Int)) (grd (0 ≤ x9 ∧ x9 < (x10.length : Int)) (grd (x9.toNat < x10.length) (grd (0 ≤ (IntKind.wrap .i64 (v12 + (a1.length : Int))) ∧ (IntKind.wrap .i64 (v12 + (a1.length : Int))) ≤ (x8.length : Int)) (F83_L3 m3 a1 a2 a0 x5 (x8.drop (IntKind.wrap .i64 (v12 + (a1.length : Int))).toNat) (IntKind.wrap .i64 (x9 + (1 : Int))) (List.set x10 x9.toNat (x8.take (IntKind.wrap .i64 (v12 + a2)).toNat)))))))) (F83_J2 m3 x8 x9 x10)
def F83_J2 (n : Nat) (x18 : List UInt8) (x19 : Int) (x20 : List (List UInt8)) : Option (List (List UInt8)) := grd (0 ≤ x19 ∧ x19 < (x20.length : Int)) (grd (x19.toNat < x20.length) (grd (0 ≤ (IntKind.wrap .i64 (x19 + (1 : Int))) ∧ (IntKind.wrap .i64 (x19 + (1 : Int))) ≤ (x20.length : Int)) (some (((List.set x20 x19.toNat x18)).take ((IntKind.wrap .i64 (x19 + (1 : Int))).toNat)))))
def F83_J1 (n : Nat) (a0 : List UInt8) (a1 : List UInt8) (a2 : Int) (x5 : Int) : Option (List (List UInt8)) := grd (0 ≤ (if (IntKind.wrap .i64 ((a0.length : Int) + (1 : Int))) < x5 then (IntKind.wrap .i64 ((a0.length : Int) + (1 : Int))) else x5) ∧ (if (IntKind.wrap .i64 ((a0.length : Int) + (1 : Int))) < x5 then (IntKind.wrap .i64 ((a0.length : Int) + (1 : Int))) else x5) ≤ (if (IntKind.wrap .i64 ((a0.length : Int) + (1 : Int))) < x5 then (IntKind.wrap .i64 ((a0.length : Int) + (1 : Int))) else x5) ∧ (if (IntKind.wrap .i64 ((a0.length : Int) + (1 : Int))) < x5 then (IntKind.wrap .i64 ((a0.length : Int) + (1 : Int))) else x5) ≤ 1099511627776) (F83_L3 n a1 a2 a0 x5 a0 (0 : Int) (List.replicate (if (IntKind.wrap .i64 ((a0.length : Int) + (1 : Int))) < x5 then (IntKind.wrap .i64 ((a0.length : Int) + (1 : Int))) else x5).toNat []))
end
def F83 (n : Nat) (a0 : List UInt8) (a1 : List UInt8) (a2 : Int) (a3 : Int) : Option (List (List UInt8)) := iteB (a3 == (0 : Int)) (some []) (iteB (a1 == []) (none) (iteB (decide (a3 < (0 : Int))) ((F114 n a0 a1).bind fun v4 => F83_J1 n a0 a1 a2 (IntKind.wrap .i64 (v4 + (1 : Int)))) (F83_J1 n a0 a1 a2 a3)))
set_option maxHeartbeats 4000000 in
theorem F83_ok : ∀ (n : Nat) (a0 : List UInt8) (a1 : List UInt8) (a2 : Int) (a3 : Int) (r : List (List UInt8)), F83 n a0 a1 a2 a3 = some r → FnC Tryd.prog 83 [.imm (.string (bs a0)), .imm (.string (bs a1)), .imm (.int .i64 a2), .imm (.int .i64 a3)] (.sl 1 false (List.map eS r))
  | n, a0, a1, a2, a3, r, h => by
    unfold F83 at h
    refine FnC.goX mixed Tryd.func83 (by kernel_rfl) rfl ?_
    simp only [Tryd.ntmps83, List.length_cons, List.length_nil, List.replicate, List.cons_append, List.nil_append, Nat.reduceAdd, Nat.reduceSub]
    refine runX_seq ?_
    refine runX_regionC fun C hC => ?_
    try simp -implicitDefEqProofs (maxSteps := 4000000) (disch := first | omega | decide | (simp only [go_sem]; omega)) only [go_sem, ↓reduceIte]
    repeat (with_reducible refine And.intro (by first | assumption | omega | (simp; done) | (simp; omega)) ?_)
    refine toEnd hC ?_
    refine endX_seq ?_
    refine runX_seq ?_
    refine runX_seq ?_
    refine runX_regionC fun C hC => ?_
    try simp -implicitDefEqProofs (maxSteps := 4000000) (disch := first | omega | decide | (simp only [go_sem]; omega)) only [go_sem, ↓reduceIte]
    repeat (with_reducible refine And.intro (by first | assumption | omega | (simp; done) | (simp; omega)) ?_)
    refine toEnd hC ?_
    refine endX_seq ?_
    rcases iteB_some h with ⟨c1, h⟩ | ⟨c1, h⟩
    · refine runX_condT rfl c1 ?_
      refine runX_seq ?_
      refine runX_regionC fun C hC => ?_
      try simp -implicitDefEqProofs (maxSteps := 4000000) (disch := first | omega | decide | (simp only [go_sem]; omega)) only [go_sem, ↓reduceIte]
      repeat (with_reducible refine And.intro (by first | assumption | omega | (simp; done) | (simp; omega)) ?_)
      refine toEnd hC ?_
      refine endX_seq ?_
      refine runX_ret ?_
      refine endX_seqR ?_
      refine endX_q ?_
      obtain rfl := Option.some.inj h
      show RetW _ _ _ _ _
      simp only [RetW]
      (try simp -implicitDefEqProofs (maxSteps := 4000000) (disch := first | omega | decide | (simp only [go_sem]; omega)) only [go_sem, ↓reduceIte])
      (try simp (disch := omega) only [if_pos, Nat.sub_zero])
      first | exact leT_refl _ | (refine ⟨rfl, ?_⟩; first | exact leT_refl _ | exact leT_sl | exact leT_sln | exact leT_nil | (refine leT_tup (by repeat (first | exact leL_refl _ | refine leL_cons (by first | exact leT_refl _ | exact leT_virt | exact leT_junk _ | exact leT_sl | exact leT_sln | exact leT_nil | (refine leT_agg (by repeat (first | exact leL_refl _ | refine leL_cons (by first | exact leT_refl _ | exact leT_sl | exact leT_sln | exact leT_nil) ?_)))) ?_))) | (refine leT_agg (by repeat (first | exact leL_refl _ | refine leL_cons (by first | exact leT_refl _ | exact leT_virt | exact leT_junk _ | exact leT_sl | exact leT_sln | exact leT_nil | (refine leT_agg (by repeat (first | exact leL_refl _ | refine leL_cons (by first | exact leT_refl _ | exact leT_sl | exact leT_sln | exact leT_nil) ?_)))) ?_)))) | (first | exact leT_refl _ | exact leT_sl | exact leT_sln | exact leT_nil | (refine leT_tup (by repeat (first | exact leL_refl _ | refine leL_cons (by first | exact leT_refl _ | exact leT_virt | exact leT_junk _ | exact leT_sl | exact leT_sln | exact leT_nil | (refine leT_agg (by repeat (first | exact leL_refl _ | refine leL_cons (by first | exact leT_refl _ | exact leT_sl | exact leT_sln | exact leT_nil) ?_)))) ?_))) | (refine leT_agg (by repeat (first | exact leL_refl _ | refine leL_cons (by first | exact leT_refl _ | exact leT_virt | exact leT_junk _ | exact leT_sl | exact leT_sln | exact leT_nil | (refine leT_agg (by repeat (first | exact leL_refl _ | refine leL_cons (by first | exact leT_refl _ | exact leT_sl | exact leT_sln | exact leT_nil) ?_)))) ?_)))) | (simp only [List.append_assoc, List.cons_append, List.nil_append]; exact leT_refl _) | (rw [List.take_of_length_le (by simp)]; (try simp only [List.append_assoc, List.cons_append, List.nil_append]); exact leT_refl _)
    · refine runX_condF rfl c1 ?_
      refine runX_skip ?_
      refine endX_seq ?_
      refine runX_seq ?_
      refine runX_seq ?_
      refine runX_regionC fun C hC => ?_
      try simp -implicitDefEqProofs (maxSteps := 4000000) (disch := first | omega | decide | (simp only [go_sem]; omega)) only [go_sem, ↓reduceIte]
      repeat (with_reducible refine And.intro (by first | assumption | omega | (simp; done) | (simp; omega)) ?_)
      refine toEnd hC ?_
      refine endX_seq ?_
      rcases iteB_some h with ⟨c2, h⟩ | ⟨c2, h⟩
      · refine runX_condT rfl c2 ?_
        cases h
      · refine runX_condF rfl c2 ?_
        refine runX_skip ?_
        refine endX_seq ?_
        refine runX_meet [0, 1, 2, 3] (fun S => ∃ (x5 : Int), S = F83_S1 a0 a1 a2 x5 ∧ F83_J1 n a0 a1 a2 x5 = some r) ?_ ?_
        · refine runX_seq ?_
          refine runX_regionC fun C hC => ?_
          try simp -implicitDefEqProofs (maxSteps := 4000000) (disch := first | omega | decide | (simp only [go_sem]; omega)) only [go_sem, ↓reduceIte]
          repeat (with_reducible refine And.intro (by first | assumption | omega | (simp; done) | (simp; omega)) ?_)
          refine toEnd hC ?_
          refine endX_seq ?_
          rcases iteB_some h with ⟨c3, h⟩ | ⟨c3, h⟩
          · refine runX_condT rfl c3 ?_
            refine runX_regionC fun C hC => ?_
            obtain ⟨v4, h4, h⟩ := bnd_some h
            try simp -implicitDefEqProofs (maxSteps := 4000000) (disch := first | omega | decide | (simp only [go_sem]; omega)) only [go_sem, ↓reduceIte]
            repeat (with_reducible refine And.intro (by first | assumption | omega | (simp; done) | (simp; omega)) ?_)
            refine callG_X (by first | rfl | (simp only [go_sem]; done) | (simp only [closedL, closedT, Bool.and_true]; exact closedL_map _ (fun _ => by first | rfl | (simp only [go_sem]; done)) _)) (F114_ok n a0 a1 _ h4) (by repeat (first | exact leL_refl _ | refine leL_cons (by first | exact leT_refl _ | exact leT_virt | exact leT_junk _ | exact leT_sl | exact leT_sln | exact leT_nil | (refine leT_agg (by repeat (first | exact leL_refl _ | refine leL_cons (by first | exact leT_refl _ | exact leT_sl | exact leT_sln | exact leT_nil) ?_)))) ?_)) ?_
            try simp -implicitDefEqProofs (maxSteps := 4000000) (disch := first | omega | decide | (simp only [go_sem]; omega)) only [go_sem, ↓reduceIte]
            repeat (with_reducible refine And.intro (by first | assumption | omega | (simp; done) | (simp; omega)) ?_)
            refine toEnd hC ?_
            refine endX_q (meetQ_normal ⟨F83_S1 a0 a1 a2 (IntKind.wrap .i64 (v4 + (1 : Int))), ?_, (IntKind.wrap .i64 (v4 + (1 : Int))), rfl, h⟩)
            simp only [F83_S1]
            (try simp -implicitDefEqProofs (maxSteps := 4000000) (disch := first | omega | decide | (simp only [go_sem]; omega)) only [go_sem, ↓reduceIte])
            first | exact leS_refl _ | (refine leS_le ?_ ?_ <;> first | exact leL_refl _ | exact leOs_refl _ | (simp only [List.append_assoc, List.cons_append, List.nil_append]; exact leOs_refl _) | (repeat (first | exact leL_refl _ | refine leL_cons (by first | exact leT_refl _ | exact leT_virt | exact leT_junk _ | exact leT_sl | exact leT_sln | exact leT_nil | (refine leT_agg (by repeat (first | exact leL_refl _ | refine leL_cons (by first | exact leT_refl _ | exact leT_sl | exact leT_sln | exact leT_nil) ?_)))) ?_)))
          · refine runX_condF rfl c3 ?_
            refine runX_skip ?_
            refine endX_q (meetQ_normal ⟨F83_S1 a0 a1 a2 a3, ?_, a3, rfl, h⟩)
            simp only [F83_S1]
            (try simp -implicitDefEqProofs (maxSteps := 4000000) (disch := first | omega | decide | (simp only [go_sem]; omega)) only [go_sem, ↓reduceIte])
            first | exact leS_refl _ | (refine leS_le ?_ ?_ <;> first | exact leL_refl _ | exact leOs_refl _ | (simp only [List.append_assoc, List.cons_append, List.nil_append]; exact leOs_refl _) | (repeat (first | exact leL_refl _ | refine leL_cons (by first | exact leT_refl _ | exact leT_virt | exact leT_junk _ | exact leT_sl | exact leT_sln | exact leT_nil | (refine leT_agg (by repeat (first | exact leL_refl _ | refine leL_cons (by first | exact leT_refl _ | exact leT_sl | exact leT_sln | exact leT_nil) ?_)))) ?_)))
        · clear h
          rintro S ⟨x5, rfl, h⟩
          rw [F83_J1] at h
          simp only [F83_S1]
          refine runX_seq ?_
          refine runX_regionC fun C hC => ?_
          try simp -implicitDefEqProofs (maxSteps := 4000000) (disch := first | omega | decide | (simp only [go_sem]; omega)) only [go_sem, ↓reduceIte]
          repeat (with_reducible refine And.intro (by first | assumption | omega | (simp; done) | (simp; omega)) ?_)
          refine toEnd hC ?_
          refine endX_seq ?_
          refine runX_seq ?_
          refine runX_regionC fun C hC => ?_
          obtain ⟨g6, h⟩ := grd_some h
          have e7 : List.replicate (if (IntKind.wrap .i64 ((a0.length : Int) + (1 : Int))) < x5 then (IntKind.wrap .i64 ((a0.length : Int) + (1 : Int))) else x5).toNat (T.imm (.string (bs []))) = List.map eS (List.replicate (if (IntKind.wrap .i64 ((a0.length : Int) + (1 : Int))) < x5 then (IntKind.wrap .i64 ((a0.length : Int) + (1 : Int))) else x5).toNat []) := rep_s (if (IntKind.wrap .i64 ((a0.length : Int) + (1 : Int))) < x5 then (IntKind.wrap .i64 ((a0.length : Int) + (1 : Int))) else x5).toNat ([] : List UInt8)
          try simp -implicitDefEqProofs (maxSteps := 4000000) (disch := first | omega | decide | (simp only [go_sem]; omega)) only [go_sem, ↓reduceIte, e7]
          repeat (with_reducible refine And.intro (by first | assumption | omega | (simp; done) | (simp; omega)) ?_)
          refine toEnd hC ?_
          refine endX_seq ?_
          refine runX_seq ?_
          refine runX_regionC fun C hC => ?_
          try simp -implicitDefEqProofs (maxSteps := 4000000) (disch := first | omega | decide | (simp only [go_sem]; omega)) only [go_sem, ↓reduceIte]
          repeat (with_reducible refine And.intro (by first | assumption | omega | (simp; done) | (simp; omega)) ?_)
          refine toEnd hC ?_
          refine endX_seq ?_
          refine runX_seq ?_
          refine runX_regionC fun C hC => ?_
          try simp -implicitDefEqProofs (maxSteps := 4000000) (disch := first | omega | decide | (simp only [go_sem]; omega)) only [go_sem, ↓reduceIte]
          repeat (with_reducible refine And.intro (by first | assumption | omega | (simp; done) | (simp; omega)) ?_)
          refine toEnd hC ?_
          refine endX_seq ?_
          refine runX_meet [0, 9, 10] (fun S => ∃ (x18 : List UInt8) (x19 : Int) (x20 : List (List UInt8)), S = F83_S2 x18 x19 x20 ∧ F83_J2 n x18 x19 x20 = some r) ?_ ?_
          · refine runX_block ?_
            refine runX_loop [0, 1, 2, 3, 9, 10] (fun m S => ∃ (x8 : List UInt8) (x9 : Int) (x10 : List (List UInt8)), S = F83_S3 a1 a2 a0 x5 x8 x9 x10 ∧ m ≤ n ∧ F83_L3 m a1 a2 a0 x5 x8 x9 x10 = some r) n ⟨F83_S3 a1 a2 a0 x5 a0 (0 : Int) (List.replicate (if (IntKind.wrap .i64 ((a0.length : Int) + (1 : Int))) < x5 then (IntKind.wrap .i64 ((a0.length : Int) + (1 : Int))) else x5).toNat []), ?_, a0, (0 : Int), (List.replicate (if (IntKind.wrap .i64 ((a0.length : Int) + (1 : Int))) < x5 then (IntKind.wrap .i64 ((a0.length : Int) + (1 : Int))) else x5).toNat []), rfl, Nat.le_refl _, h⟩ ?_
            · simp only [F83_S3]
              (try simp -implicitDefEqProofs (maxSteps := 4000000) (disch := first | omega | decide | (simp only [go_sem]; omega)) only [go_sem, ↓reduceIte])
              first | exact leS_refl _ | (refine leS_le ?_ ?_ <;> first | exact leL_refl _ | exact leOs_refl _ | (simp only [List.append_assoc, List.cons_append, List.nil_append]; exact leOs_refl _) | (repeat (first | exact leL_refl _ | refine leL_cons (by first | exact leT_refl _ | exact leT_virt | exact leT_junk _ | exact leT_sl | exact leT_sln | exact leT_nil | (refine leT_agg (by repeat (first | exact leL_refl _ | refine leL_cons (by first | exact leT_refl _ | exact leT_sl | exact leT_sln | exact leT_nil) ?_)))) ?_)))
            · clear h
              rintro m3 S ⟨x8, x9, x10, rfl, hm3, h⟩
              cases m3 with
              | zero => first | cases (show (none : Option _) = some _ from h) | (rw [F83_L3] at h; cases h)
              | succ m3 =>
                rw [F83_L3] at h
                simp only [F83_S3]
                refine runX_seq ?_
                refine runX_seq ?_
                refine runX_regionC fun C hC => ?_
                try simp -implicitDefEqProofs (maxSteps := 4000000) (disch := first | omega | decide | (simp only [go_sem]; omega)) only [go_sem, ↓reduceIte]
                repeat (with_reducible refine And.intro (by first | assumption | omega | (simp; done) | (simp; omega)) ?_)
                refine toEnd hC ?_
                refine endX_seq ?_
                rcases iteB_some h with ⟨c11, h⟩ | ⟨c11, h⟩
                · refine runX_condT rfl c11 ?_
                  refine runX_skip ?_
                  refine endX_seq ?_
                  refine runX_block ?_
                  refine runX_seq ?_
                  refine runX_regionC fun C hC => ?_
                  obtain ⟨v12, h12, h⟩ := bnd_some h
                  try simp -implicitDefEqProofs (maxSteps := 4000000) (disch := first | omega | decide | (simp only [go_sem]; omega)) only [go_sem, ↓reduceIte]
                  repeat (with_reducible refine And.intro (by first | assumption | omega | (simp; done) | (simp; omega)) ?_)
                  refine callG_X (by first | rfl | (simp only [go_sem]; done) | (simp only [closedL, closedT, Bool.and_true]; exact closedL_map _ (fun _ => by first | rfl | (simp only [go_sem]; done)) _)) (F115_ok m3 x8 a1 _ h12) (by repeat (first | exact leL_refl _ | refine leL_cons (by first | exact leT_refl _ | exact leT_virt | exact leT_junk _ | exact leT_sl | exact leT_sln | exact leT_nil | (refine leT_agg (by repeat (first | exact leL_refl _ | refine leL_cons (by first | exact leT_refl _ | exact leT_sl | exact leT_sln | exact leT_nil) ?_)))) ?_)) ?_
                  try simp -implicitDefEqProofs (maxSteps := 4000000) (disch := first | omega | decide | (simp only [go_sem]; omega)) only [go_sem, ↓reduceIte]
                  repeat (with_reducible refine And.intro (by first | assumption | omega | (simp; done) | (simp; omega)) ?_)
                  refine toEnd hC ?_
                  refine endX_seq ?_
                  refine runX_seq ?_
                  refine runX_seq ?_
                  refine runX_regionC fun C hC => ?_
                  try simp -implicitDefEqProofs (maxSteps := 4000000) (disch := first | omega | decide | (simp only [go_sem]; omega)) only [go_sem, ↓reduceIte]
                  repeat (with_reducible refine And.intro (by first | assumption | omega | (simp; done) | (simp; omega)) ?_)
                  refine toEnd hC ?_
                  refine endX_seq ?_
                  rcases iteB_some h with ⟨c13, h⟩ | ⟨c13, h⟩
                  · refine runX_condT rfl c13 ?_
                    refine runX_exit ?_
                    refine endX_seqE ?_
                    refine endX_blkO (by decide) ?_
                    refine endX_q (roundQ_exit ?_)
                    refine endX_blkE ?_
                    refine endX_q (meetQ_normal ⟨F83_S2 x8 x9 x10, ?_, x8, x9, x10, rfl, h⟩)
                    simp only [F83_S2]
                    (try simp -implicitDefEqProofs (maxSteps := 4000000) (disch := first | omega | decide | (simp only [go_sem]; omega)) only [go_sem, ↓reduceIte])
                    first | exact leS_refl _ | (refine leS_le ?_ ?_ <;> first | exact leL_refl _ | exact leOs_refl _ | (simp only [List.append_assoc, List.cons_append, List.nil_append]; exact leOs_refl _) | (repeat (first | exact leL_refl _ | refine leL_cons (by first | exact leT_refl _ | exact leT_virt | exact leT_junk _ | exact leT_sl | exact leT_sln | exact leT_nil | (refine leT_agg (by repeat (first | exact leL_refl _ | refine leL_cons (by first | exact leT_refl _ | exact leT_sl | exact leT_sln | exact leT_nil) ?_)))) ?_)))
                  · refine runX_condF rfl c13 ?_
                    refine runX_skip ?_
                    refine endX_seq ?_
                    refine runX_seq ?_
                    refine runX_regionC fun C hC => ?_
                    obtain ⟨g14, h⟩ := grd_some h
                    obtain ⟨g15, h⟩ := grd_some h
                    obtain ⟨g16, h⟩ := grd_some h
                    try simp -implicitDefEqProofs (maxSteps := 4000000) (disch := first | omega | decide | (simp only [go_sem]; omega)) only [go_sem, ↓reduceIte]
                    repeat (with_reducible refine And.intro (by first | assumption | omega | (simp; done) | (simp; omega)) ?_)
                    refine toEnd hC ?_
                    refine endX_seq ?_
                    refine runX_seq ?_
                    refine runX_regionC fun C hC => ?_
                    obtain ⟨g17, h⟩ := grd_some h
                    try simp -implicitDefEqProofs (maxSteps := 4000000) (disch := first | omega | decide | (simp only [go_sem]; omega)) only [go_sem, ↓reduceIte]
                    repeat (with_reducible refine And.intro (by first | assumption | omega | (simp; done) | (simp; omega)) ?_)
                    refine toEnd hC ?_
                    refine endX_seq ?_
                    refine runX_regionC fun C hC => ?_
                    try simp -implicitDefEqProofs (maxSteps := 4000000) (disch := first | omega | decide | (simp only [go_sem]; omega)) only [go_sem, ↓reduceIte]
                    repeat (with_reducible refine And.intro (by first | assumption | omega | (simp; done) | (simp; omega)) ?_)
                    refine toEnd hC ?_
                    refine endX_blk ?_
                    refine endX_q (roundQ_normal ⟨m3, by omega, F83_S3 a1 a2 a0 x5 (x8.drop (IntKind.wrap .i64 (v12 + (a1.length : Int))).toNat) (IntKind.wrap .i64 (x9 + (1 : Int))) (List.set x10 x9.toNat (x8.take (IntKind.wrap .i64 (v12 + a2)).toNat)), ?_, (x8.drop (IntKind.wrap .i64 (v12 + (a1.length : Int))).toNat), (IntKind.wrap .i64 (x9 + (1 : Int))), (List.set x10 x9.toNat (x8.take (IntKind.wrap .i64 (v12 + a2)).toNat)), rfl, by omega, h⟩)
                    simp only [F83_S3]
                    (try simp -implicitDefEqProofs (maxSteps := 4000000) (disch := first | omega | decide | (simp only [go_sem]; omega)) only [go_sem, ↓reduceIte])
                    first | exact leS_refl _ | (refine leS_le ?_ ?_ <;> first | exact leL_refl _ | exact leOs_refl _ | (simp only [List.append_assoc, List.cons_append, List.nil_append]; exact leOs_refl _) | (repeat (first | exact leL_refl _ | refine leL_cons (by first | exact leT_refl _ | exact leT_virt | exact leT_junk _ | exact leT_sl | exact leT_sln | exact leT_nil | (refine leT_agg (by repeat (first | exact leL_refl _ | refine leL_cons (by first | exact leT_refl _ | exact leT_sl | exact leT_sln | exact leT_nil) ?_)))) ?_)))
                · refine runX_condF rfl c11 ?_
                  refine runX_exit ?_
                  refine endX_seqE ?_
                  refine endX_q (roundQ_exit ?_)
                  refine endX_blkE ?_
                  refine endX_q (meetQ_normal ⟨F83_S2 x8 x9 x10, ?_, x8, x9, x10, rfl, h⟩)
                  simp only [F83_S2]
                  (try simp -implicitDefEqProofs (maxSteps := 4000000) (disch := first | omega | decide | (simp only [go_sem]; omega)) only [go_sem, ↓reduceIte])
                  first | exact leS_refl _ | (refine leS_le ?_ ?_ <;> first | exact leL_refl _ | exact leOs_refl _ | (simp only [List.append_assoc, List.cons_append, List.nil_append]; exact leOs_refl _) | (repeat (first | exact leL_refl _ | refine leL_cons (by first | exact leT_refl _ | exact leT_virt | exact leT_junk _ | exact leT_sl | exact leT_sln | exact leT_nil | (refine leT_agg (by repeat (first | exact leL_refl _ | refine leL_cons (by first | exact leT_refl _ | exact leT_sl | exact leT_sln | exact leT_nil) ?_)))) ?_)))
          · clear h
            rintro S ⟨x18, x19, x20, rfl, h⟩
            rw [F83_J2] at h
            simp only [F83_S2]
            refine runX_seq ?_
            refine runX_regionC fun C hC => ?_
            obtain ⟨g21, h⟩ := grd_some h
            obtain ⟨g22, h⟩ := grd_some h
            try simp -implicitDefEqProofs (maxSteps := 4000000) (disch := first | omega | decide | (simp only [go_sem]; omega)) only [go_sem, ↓reduceIte]
            repeat (with_reducible refine And.intro (by first | assumption | omega | (simp; done) | (simp; omega)) ?_)
            refine toEnd hC ?_
            refine endX_seq ?_
            refine runX_seq ?_
            refine runX_regionC fun C hC => ?_
            obtain ⟨g23, h⟩ := grd_some h
            try simp -implicitDefEqProofs (maxSteps := 4000000) (disch := first | omega | decide | (simp only [go_sem]; omega)) only [go_sem, ↓reduceIte]
            repeat (with_reducible refine And.intro (by first | assumption | omega | (simp; done) | (simp; omega)) ?_)
            refine toEnd hC ?_
            refine endX_seq ?_
            refine runX_ret ?_
            refine endX_q ?_
            obtain rfl := Option.some.inj h
            show RetW _ _ _ _ _
            simp only [RetW]
            (try simp -implicitDefEqProofs (maxSteps := 4000000) (disch := first | omega | decide | (simp only [go_sem]; omega)) only [go_sem, ↓reduceIte])
            (try simp (disch := omega) only [if_pos, Nat.sub_zero])
            first | exact leT_refl _ | (refine ⟨rfl, ?_⟩; first | exact leT_refl _ | exact leT_sl | exact leT_sln | exact leT_nil | (refine leT_tup (by repeat (first | exact leL_refl _ | refine leL_cons (by first | exact leT_refl _ | exact leT_virt | exact leT_junk _ | exact leT_sl | exact leT_sln | exact leT_nil | (refine leT_agg (by repeat (first | exact leL_refl _ | refine leL_cons (by first | exact leT_refl _ | exact leT_sl | exact leT_sln | exact leT_nil) ?_)))) ?_))) | (refine leT_agg (by repeat (first | exact leL_refl _ | refine leL_cons (by first | exact leT_refl _ | exact leT_virt | exact leT_junk _ | exact leT_sl | exact leT_sln | exact leT_nil | (refine leT_agg (by repeat (first | exact leL_refl _ | refine leL_cons (by first | exact leT_refl _ | exact leT_sl | exact leT_sln | exact leT_nil) ?_)))) ?_)))) | (first | exact leT_refl _ | exact leT_sl | exact leT_sln | exact leT_nil | (refine leT_tup (by repeat (first | exact leL_refl _ | refine leL_cons (by first | exact leT_refl _ | exact leT_virt | exact leT_junk _ | exact leT_sl | exact leT_sln | exact leT_nil | (refine leT_agg (by repeat (first | exact leL_refl _ | refine leL_cons (by first | exact leT_refl _ | exact leT_sl | exact leT_sln | exact leT_nil) ?_)))) ?_))) | (refine leT_agg (by repeat (first | exact leL_refl _ | refine leL_cons (by first | exact leT_refl _ | exact leT_virt | exact leT_junk _ | exact leT_sl | exact leT_sln | exact leT_nil | (refine leT_agg (by repeat (first | exact leL_refl _ | refine leL_cons (by first | exact leT_refl _ | exact leT_sl | exact leT_sln | exact leT_nil) ?_)))) ?_)))) | (simp only [List.append_assoc, List.cons_append, List.nil_append]; exact leT_refl _) | (rw [List.take_of_length_le (by simp)]; (try simp only [List.append_assoc, List.cons_append, List.nil_append]); exact leT_refl _)
end Go.Proofs.YtbdkofondpalpaaDoorX

set_option linter.unusedVariables false
set_option linter.unusedSimpArgs false
namespace Go.Proofs.YtbdkofondpalpaaDoorX
open Go Go.RowKit Go.Proofs
set_option maxRecDepth 100000
attribute [local go_sem ↓] stepsK_build stepsK_build0 stepsK_bs stepsK_bs0 appendS
attribute [local go_sem] String.reduceEq String.reduceNe reduceCtorEq Int.reduceEq Nat.reduceAdd Nat.reduceSub Nat.reduceMul Nat.reduceLT Nat.reduceLeDiff Nat.reduceEqDiff Nat.reduceBEq Int.reduceToNat Int.reduceLT Int.reduceLE Int.reduceGT Int.reduceGE Int.reduceAdd Int.reduceSub Int.reduceMul Int.reduceNeg Int.reduceBEq Int.reduceBNe Int.reducePow Int.reduceDiv Int.reduceMod Int.reduceTDiv Int.reduceTMod Int.reduceNatCast
/-! ### strings.Split -/
def F48 (n : Nat) (a0 : List UInt8) (a1 : List UInt8) : Option (List (List UInt8)) := (F83 n a0 a1 (0 : Int) (-1 : Int)).bind fun v1 => some v1
set_option maxHeartbeats 4000000 in
theorem F48_ok : ∀ (n : Nat) (a0 : List UInt8) (a1 : List UInt8) (r : List (List UInt8)), F48 n a0 a1 = some r → FnC Tryd.prog 48 [.imm (.string (bs a0)), .imm (.string (bs a1))] (.sl 1 false (List.map eS r))
  | n, a0, a1, r, h => by
    unfold F48 at h
    refine FnC.goX mixed Tryd.func48 (by kernel_rfl) rfl ?_
    simp only [Tryd.ntmps48, List.length_cons, List.length_nil, List.replicate, List.cons_append, List.nil_append, Nat.reduceAdd, Nat.reduceSub]
    refine runX_seq ?_
    refine runX_regionC fun C hC => ?_
    try simp -implicitDefEqProofs (maxSteps := 4000000) (disch := first | omega | decide | (simp only [go_sem]; omega)) only [go_sem, ↓reduceIte]
    repeat (with_reducible refine And.intro (by first | assumption | omega | (simp; done) | (simp; omega)) ?_)
    refine toEnd hC ?_
    refine endX_seq ?_
    refine runX_seq ?_
    refine runX_regionC fun C hC => ?_
    obtain ⟨v1, h1, h⟩ := bnd_some h
    try simp -implicitDefEqProofs (maxSteps := 4000000) (disch := first | omega | decide | (simp only [go_sem]; omega)) only [go_sem, ↓reduceIte]
    repeat (with_reducible refine And.intro (by first | assumption | omega | (simp; done) | (simp; omega)) ?_)
    refine callG_X (by first | rfl | (simp only [go_sem]; done) | (simp only [closedL, closedT, Bool.and_true]; exact closedL_map _ (fun _ => by first | rfl | (simp only [go_sem]; done)) _)) (F83_ok n a0 a1 (0 : Int) (-1 : Int) _ h1) (by repeat (first | exact leL_refl _ | refine leL_cons (by first | exact leT_refl _ | exact leT_virt | exact leT_junk _ | exact leT_sl | exact leT_sln | exact leT_nil | (refine leT_agg (by repeat (first | exact leL_refl _ | refine leL_cons (by first | exact leT_refl _ | exact leT_sl | exact leT_sln | exact leT_nil) ?_)))) ?_)) ?_
    try simp -implicitDefEqProofs (maxSteps := 4000000) (disch := first | omega | decide | (simp only [go_sem]; omega)) only [go_sem, ↓reduceIte]
    repeat (with_reducible refine And.intro (by first | assumption | omega | (simp; done) | (simp; omega)) ?_)
    refine toEnd hC ?_
    refine endX_seq ?_
    refine runX_ret ?_
    refine endX_q ?_
    obtain rfl := Option.some.inj h
    show RetW _ _ _ _ _
    simp only [RetW]
    (try simp -implicitDefEqProofs (maxSteps := 4000000) (disch := first | omega | decide | (simp only [go_sem]; omega)) only [go_sem, ↓reduceIte])
    (try simp (disch := omega) only [if_pos, Nat.sub_zero])
    exact leT_refl _
end Go.Proofs.YtbdkofondpalpaaDoorX

set_option linter.unusedVariables false
set_option linter.unusedSimpArgs false
namespace Go.Proofs.YtbdkofondpalpaaDoorX
open Go Go.RowKit Go.Proofs
set_option maxRecDepth 100000
attribute [local go_sem ↓] stepsK_build stepsK_build0 stepsK_bs stepsK_bs0 appendS
attribute [local go_sem] String.reduceEq String.reduceNe reduceCtorEq Int.reduceEq Nat.reduceAdd Nat.reduceSub Nat.reduceMul Nat.reduceLT Nat.reduceLeDiff Nat.reduceEqDiff Nat.reduceBEq Int.reduceToNat Int.reduceLT Int.reduceLE Int.reduceGT Int.reduceGE Int.reduceAdd Int.reduceSub Int.reduceMul Int.reduceNeg Int.reduceBEq Int.reduceBNe Int.reducePow Int.reduceDiv Int.reduceMod Int.reduceTDiv Int.reduceTMod Int.reduceNatCast
/-! ### header.Words -/
def F25_S1 (v1 : List (List UInt8)) (x2 : Int) (x3 : List (List UInt8)) : St := ⟨[.junk, .junk, .junk, .rsl 0 1 0 x3.length, .junk, .junk, .junk, .sl 1 false (List.map eS v1), .imm (.int .i64 (v1.length : Int)), .imm (.int .i64 x2), .junk, .junk, .junk, .junk, .junk, .junk, .junk, .junk, .junk, .junk, .junk, .junk, .junk], [some (.buf 9 1 (List.map eS x3) 0)]⟩
def F25_L1 : Nat → (List (List UInt8)) → (Int) → (List (List UInt8)) → Option (List (List UInt8))
  | 0, _, _, _ => none
  | m1 + 1, v1, x2, x3 => iteB (decide (x2 < (v1.length : Int))) (grd (0 ≤ x2 ∧ x2 < (v1.length : Int)) ((F34 m1 (v1.getD x2.toNat default) ([32, 9] : List UInt8)).bind fun v6 => iteB (!(v6 == [])) (grd ((x3.length + 1) ≤ 549755813888) (F25_L1 m1 v1 (IntKind.wrap .i64 (x2 + (1 : Int))) (x3 ++ [v6]))) (F25_L1 m1 v1 (IntKind.wrap .i64 (x2 + (1 : Int))) x3))) (some x3)
def F25 (n : Nat) (a0 : List UInt8) : Option (List (List UInt8)) := (F48 n a0 ([44] : List UInt8)).bind fun v1 => F25_L1 n v1 (0 : Int) []
set_option maxHeartbeats 4000000 in
theorem F25_ok : ∀ (n : Nat) (a0 : List UInt8) (r : List (List UInt8)), F25 n a0 = some r → FnC Tryd.prog 25 [.imm (.string (bs a0))] (.sl 1 false (List.map eS r))
  | n, a0, r, h => by
    unfold F25 at h
    refine FnC.goX mixed Tryd.func25 (by kernel_rfl) rfl ?_
    simp only [Tryd.ntmps25, List.length_cons, List.length_nil, List.replicate, List.cons_append, List.nil_append, Nat.reduceAdd, Nat.reduceSub]
    refine runX_seq ?_
    refine runX_regionC fun C hC => ?_
    try simp -implicitDefEqProofs (maxSteps := 4000000) (disch := first | omega | decide | (simp only [go_sem]; omega)) only [go_sem, ↓reduceIte]
    repeat (with_reducible refine And.intro (by first | assumption | omega | (simp; done) | (simp; omega)) ?_)
    refine toEnd hC ?_
    refine endX_seq ?_
    refine runX_seq ?_
    refine runX_regionC fun C hC => ?_
    try simp -implicitDefEqProofs (maxSteps := 4000000) (disch := first | omega | decide | (simp only [go_sem]; omega)) only [go_sem, ↓reduceIte]
    repeat (with_reducible refine And.intro (by first | assumption | omega | (simp; done) | (simp; omega)) ?_)
    refine toEnd hC ?_
    refine endX_seq ?_
    refine runX_seq ?_
    refine runX_seq ?_
    refine runX_regionC fun C hC => ?_
    obtain ⟨v1, h1, h⟩ := bnd_some h
    try simp -implicitDefEqProofs (maxSteps := 4000000) (disch := first | omega | decide | (simp only [go_sem]; omega)) only [go_sem, ↓reduceIte]
    repeat (with_reducible refine And.intro (by first | assumption | omega | (simp; done) | (simp; omega)) ?_)
    refine callG_X (by first | rfl | (simp only [go_sem]; done) | (simp only [closedL, closedT, Bool.and_true]; exact closedL_map _ (fun _ => by first | rfl | (simp only [go_sem]; done)) _)) (F48_ok n a0 ([44] : List UInt8) _ h1) (by repeat (first | exact leL_refl _ | refine leL_cons (by first | exact leT_refl _ | exact leT_virt | exact leT_junk _ | exact leT_sl | exact leT_sln | exact leT_nil | (refine leT_agg (by repeat (first | exact leL_refl _ | refine leL_cons (by first | exact leT_refl _ | exact leT_sl | exact leT_sln | exact leT_nil) ?_)))) ?_)) ?_
    try simp -implicitDefEqProofs (maxSteps := 4000000) (disch := first | omega | decide | (simp only [go_sem]; omega)) only [go_sem, ↓reduceIte]
    repeat (with_reducible refine And.intro (by first | assumption | omega | (simp; done) | (simp; omega)) ?_)
    refine toEnd hC ?_
    refine endX_seq ?_
    refine runX_block ?_
    refine runX_loop [3, 7, 8, 9] (fun m S => ∃ (x2 : Int) (x3 : List (List UInt8)), S = F25_S1 v1 x2 x3 ∧ m ≤ n ∧ F25_L1 m v1 x2 x3 = some r) n ⟨F25_S1 v1 (0 : Int) [], ?_, (0 : Int), [], rfl, Nat.le_refl _, h⟩ ?_
    · (try simp -implicitDefEqProofs (maxSteps := 4000000) (disch := first | omega | decide | (simp only [go_sem]; omega)) only [go_sem, ↓reduceIte])
      simp only [F25_S1]
      refine leS_trans (leS_pad _ _ 1) ?_
      simp only [List.replicate, List.cons_append, List.nil_append]
      refine leS_virt 0 9 1 rfl ?_ ?_ rfl
      · repeat (first | exact leL_refl _ | refine leL_cons (by first | exact leT_refl _ | exact leT_virt | exact leT_junk _ | exact leT_sl | exact leT_sln | exact leT_nil | (refine leT_agg (by repeat (first | exact leL_refl _ | refine leL_cons (by first | exact leT_refl _ | exact leT_sl | exact leT_sln | exact leT_nil) ?_)))) ?_)
      · repeat (first | exact leOs_refl _ | refine leOs.cons (by first | exact leO.same _ | (refine leO.box (leT_agg (by repeat (first | exact leL_refl _ | refine leL_cons (by first | exact leT_refl _ | exact leT_virt | exact leT_junk _ | exact leT_sl | exact leT_sln | exact leT_nil | (refine leT_agg (by repeat (first | exact leL_refl _ | refine leL_cons (by first | exact leT_refl _ | exact leT_sl | exact leT_sln | exact leT_nil) ?_)))) ?_))) rfl) | (refine leO.box (by first | exact leT_virt | exact leT_sl | exact leT_sln) rfl)) ?_)
    · clear h
      rintro m1 S ⟨x2, x3, rfl, hm1, h⟩
      cases m1 with
      | zero => first | cases (show (none : Option _) = some _ from h) | (rw [F25_L1] at h; cases h)
      | succ m1 =>
        rw [F25_L1] at h
        simp only [F25_S1]
        refine runX_seq ?_
        refine runX_regionC fun C hC => ?_
        try simp -implicitDefEqProofs (maxSteps := 4000000) (disch := first | omega | decide | (simp only [go_sem]; omega)) only [go_sem, ↓reduceIte]
        repeat (with_reducible refine And.intro (by first | assumption | omega | (simp; done) | (simp; omega)) ?_)
        refine toEnd hC ?_
        refine endX_seq ?_
        refine runX_seq ?_
        rcases iteB_some h with ⟨c4, h⟩ | ⟨c4, h⟩
        · refine runX_condT rfl c4 ?_
          refine runX_skip ?_
          refine endX_seq ?_
          refine runX_seq ?_
          refine runX_block ?_
          refine runX_seq ?_
          refine runX_regionC fun C hC => ?_
          obtain ⟨g5, h⟩ := grd_some h
          try simp -implicitDefEqProofs (maxSteps := 4000000) (disch := first | omega | decide | (simp only [go_sem]; omega)) only [go_sem, ↓reduceIte]
          repeat (with_reducible refine And.intro (by first | assumption | omega | (simp; done) | (simp; omega)) ?_)
          refine toEnd hC ?_
          refine endX_seq ?_
          refine runX_seq ?_
          refine runX_regionC fun C hC => ?_
          obtain ⟨v6, h6, h⟩ := bnd_some h
          try simp -implicitDefEqProofs (maxSteps := 4000000) (disch := first | omega | decide | (simp only [go_sem]; omega)) only [go_sem, ↓reduceIte]
          repeat (with_reducible refine And.intro (by first | assumption | omega | (simp; done) | (simp; omega)) ?_)
          refine callG_X (by first | rfl | (simp only [go_sem]; done) | (simp only [closedL, closedT, Bool.and_true]; exact closedL_map _ (fun _ => by first | rfl | (simp only [go_sem]; done)) _)) (F34_ok m1 (v1.getD x2.toNat default) ([32, 9] : List UInt8) _ h6) (by repeat (first | exact leL_refl _ | refine leL_cons (by first | exact leT_refl _ | exact leT_virt | exact leT_junk _ | exact leT_sl | exact leT_sln | exact leT_nil | (refine leT_agg (by repeat (first | exact leL_refl _ | refine leL_cons (by first | exact leT_refl _ | exact leT_sl | exact leT_sln | exact leT_nil) ?_)))) ?_)) ?_
          try simp -implicitDefEqProofs (maxSteps := 4000000) (disch := first | omega | decide | (simp only [go_sem]; omega)) only [go_sem, ↓reduceIte]
          repeat (with_reducible refine And.intro (by first | assumption | omega | (simp; done) | (simp; omega)) ?_)
          refine toEnd hC ?_
          refine endX_seq ?_
          refine runX_seq ?_
          refine runX_regionC fun C hC => ?_
          try simp -implicitDefEqProofs (maxSteps := 4000000) (disch := first | omega | decide | (simp only [go_sem]; omega)) only [go_sem, ↓reduceIte]
          repeat (with_reducible refine And.intro (by first | assumption | omega | (simp; done) | (simp; omega)) ?_)
          refine toEnd hC ?_
          refine endX_seq ?_
          rcases iteB_some h with ⟨c7, h⟩ | ⟨c7, h⟩
          · refine runX_condT rfl c7 ?_
            refine runX_regionC fun C hC => ?_
            try simp -implicitDefEqProofs (maxSteps := 4000000) (disch := first | omega | decide | (simp only [go_sem]; omega)) only [go_sem, ↓reduceIte]
            repeat (with_reducible refine And.intro (by first | assumption | omega | (simp; done) | (simp; omega)) ?_)
            refine bs_go <| buildX_val ?_
            obtain ⟨g8, h⟩ := grd_some h
            try simp -implicitDefEqProofs (maxSteps := 4000000) (disch := first | omega | decide | (simp only [go_sem]; omega)) only [go_sem, ↓reduceIte]
            repeat (with_reducible refine And.intro (by first | assumption | omega | (simp; done) | (simp; omega)) ?_)
            refine toEnd hC ?_
            refine endX_blk ?_
            refine endX_seq ?_
            refine runX_regionC fun C hC => ?_
            try simp -implicitDefEqProofs (maxSteps := 4000000) (disch := first | omega | decide | (simp only [go_sem]; omega)) only [go_sem, ↓reduceIte]
            repeat (with_reducible refine And.intro (by first | assumption | omega | (simp; done) | (simp; omega)) ?_)
            refine toEnd hC ?_
            refine endX_q (roundQ_normal ⟨m1, by omega, F25_S1 v1 (IntKind.wrap .i64 (x2 + (1 : Int))) (x3 ++ [v6]), ?_, (IntKind.wrap .i64 (x2 + (1 : Int))), (x3 ++ [v6]), rfl, by omega, h⟩)
            simp only [F25_S1]
            (try simp -implicitDefEqProofs (maxSteps := 4000000) (disch := first | omega | decide | (simp only [go_sem]; omega)) only [go_sem, ↓reduceIte])
            first | exact leS_refl _ | (refine leS_le ?_ ?_ <;> first | exact leL_refl _ | exact leOs_refl _ | (simp only [List.append_assoc, List.cons_append, List.nil_append]; exact leOs_refl _) | (repeat (first | exact leL_refl _ | refine leL_cons (by first | exact leT_refl _ | exact leT_virt | exact leT_junk _ | exact leT_sl | exact leT_sln | exact leT_nil | (refine leT_agg (by repeat (first | exact leL_refl _ | refine leL_cons (by first | exact leT_refl _ | exact leT_sl | exact leT_sln | exact leT_nil) ?_)))) ?_)))
          · refine runX_condF rfl c7 ?_
            refine runX_skip ?_
            refine endX_blk ?_
            refine endX_seq ?_
            refine runX_regionC fun C hC => ?_
            try simp -implicitDefEqProofs (maxSteps := 4000000) (disch := first | omega | decide | (simp only [go_sem]; omega)) only [go_sem, ↓reduceIte]
            repeat (with_reducible refine And.intro (by first | assumption | omega | (simp; done) | (simp; omega)) ?_)
            refine toEnd hC ?_
            refine endX_q (roundQ_normal ⟨m1, by omega, F25_S1 v1 (IntKind.wrap .i64 (x2 + (1 : Int))) x3, ?_, (IntKind.wrap .i64 (x2 + (1 : Int))), x3, rfl, by omega, h⟩)
            simp only [F25_S1]
            (try simp -implicitDefEqProofs (maxSteps := 4000000) (disch := first | omega | decide | (simp only [go_sem]; omega)) only [go_sem, ↓reduceIte])
            first | exact leS_refl _ | (refine leS_le ?_ ?_ <;> first | exact leL_refl _ | exact leOs_refl _ | (simp only [List.append_assoc, List.cons_append, List.nil_append]; exact leOs_refl _) | (repeat (first | exact leL_refl _ | refine leL_cons (by first | exact leT_refl _ | exact leT_virt | exact leT_junk _ | exact leT_sl | exact leT_sln | exact leT_nil | (refine leT_agg (by repeat (first | exact leL_refl _ | refine leL_cons (by first | exact leT_refl _ | exact leT_sl | exact leT_sln | exact leT_nil) ?_)))) ?_)))
        · refine runX_condF rfl c4 ?_
          refine runX_exit ?_
          refine endX_seqE ?_
          refine endX_q (roundQ_exit ?_)
          refine endX_blkE ?_
          refine endX_seq ?_
          refine runX_seq ?_
          refine runX_regionC fun C hC => ?_
          try simp -implicitDefEqProofs (maxSteps := 4000000) (disch := first | omega | decide | (simp only [go_sem]; omega)) only [go_sem, ↓reduceIte]
          repeat (with_reducible refine And.intro (by first | assumption | omega | (simp; done) | (simp; omega)) ?_)
          refine toEnd hC ?_
          refine endX_seq ?_
          refine runX_ret ?_
          refine endX_q ?_
          obtain rfl := Option.some.inj h
          show RetW _ _ _ _ _
          simp only [RetW]
          (try simp -implicitDefEqProofs (maxSteps := 4000000) (disch := first | omega | decide | (simp only [go_sem]; omega)) only [go_sem, ↓reduceIte])
          (try simp (disch := omega) only [if_pos, Nat.sub_zero])
          exact leT_refl _
end Go.Proofs.YtbdkofondpalpaaDoorX

set_option linter.unusedVariables false
set_option linter.unusedSimpArgs false
namespace Go.Proofs.YtbdkofondpalpaaDoorX
open Go Go.RowKit Go.Proofs
set_option maxRecDepth 100000
/-! ### hex.Kind: by hand (an inner function that sees the byte through a place of the caller's own) -/
def kindOf (c : Int) : Int := if 48 ≤ c ∧ c ≤ 57 then 1 else if 97 ≤ c ∧ c ≤ 102 then 2 else if 103 ≤ c ∧ c ≤ 122 then 3 else if 65 ≤ c ∧ c ≤ 90 then 4 else 0
def F43 (n : Nat) (a0 : Int) : Option Int := some (kindOf a0)
set_option maxHeartbeats 2000000 in
theorem kind_inside (a b c : Int) (p : Addr) (w : World) (hc : w.cell? p = some (.int .u8 c)) :
    Calls Tryd.prog 80 #[.int .u8 a, .int .u8 b, .pointer (some p)] w fun e w' => e = .returned (.bool (decide (a ≤ c ∧ c ≤ b))) ∧ w' = w := by
  by_cases h1 : a ≤ c
  · have h1b : decide (a ≤ c) = true := decide_eq_true h1
    go_enter Tryd.func80, Tryd.ntmps80
    go_wp2
    go_ret
    exact ⟨by simp [h1], rfl⟩
  · have h1b : decide (a ≤ c) = false := decide_eq_false h1
    go_enter Tryd.func80, Tryd.ntmps80
    go_wp2
    go_ret
    exact ⟨by simp [h1], rfl⟩
set_option maxHeartbeats 4000000 in
theorem kind_calls (a0 : Int) (w : World) :
    Calls Tryd.prog 43 #[.int .u8 a0] w fun e w' => e = .returned (.int .i64 (kindOf a0)) ∧ Below w.heap.size w w' := by
  have hmf : ∀ (fn : Fn) (first cap : Array Value) (w : World), (Instr.makeFunc fn first cap).run Tryd.prog w = .ok (.func fn first cap) w := fun _ _ _ _ => rfl
  go_enter Tryd.func43, Tryd.ntmps43
  go_wp2_with (go_at_call 80; refine (kind_inside _ _ a0 _ _ (by simp)).mono ?_; rintro e w' ⟨rfl, rfl⟩)
  all_goals (go_ret; exact ⟨by unfold kindOf; (repeat (first | rw [if_pos (by omega)] | rw [if_neg (by omega)])); rfl, (Below.refl _ _).alloc (Nat.le_refl _) _⟩)
theorem F43_ok (n : Nat) (a0 : Int) (r : Int) (h : F43 n a0 = some r) : FnC Tryd.prog 43 [.imm (.int .u8 a0)] (.imm (.int .i64 r)) := by
  obtain rfl := Option.some.inj h
  refine ⟨⟨Tryd.f43, Tryd.func43, by kernel_rfl, rfl⟩, fun w ban vs hban hv => ?_⟩
  have e : vs = #[.int .u8 a0] := by
    obtain ⟨l⟩ := vs
    simp only [RepL, Rep] at hv
    obtain ⟨u, us, h1, h2, h3⟩ := hv
    simp_all [Lit.value]
  rw [e]
  refine (kind_calls a0 w).mono ?_
  rintro e w' ⟨rfl, hb⟩
  exact ⟨_, rfl, hb, by simp only [Rep]; exact ⟨trivial, rfl⟩⟩

end Go.Proofs.YtbdkofondpalpaaDoorX

set_option linter.unusedVariables false
set_option linter.unusedSimpArgs false
namespace Go.Proofs.YtbdkofondpalpaaDoorX
open Go Go.RowKit Go.Proofs
set_option maxRecDepth 100000
attribute [local go_sem ↓] stepsK_build stepsK_build0 stepsK_bs stepsK_bs0 appendS
attribute [local go_sem] String.reduceEq String.reduceNe reduceCtorEq Int.reduceEq Nat.reduceAdd Nat.reduceSub Nat.reduceMul Nat.reduceLT Nat.reduceLeDiff Nat.reduceEqDiff Nat.reduceBEq Int.reduceToNat Int.reduceLT Int.reduceLE Int.reduceGT Int.reduceGE Int.reduceAdd Int.reduceSub Int.reduceMul Int.reduceNeg Int.reduceBEq Int.reduceBNe Int.reducePow Int.reduceDiv Int.reduceMod Int.reduceTDiv Int.reduceTMod Int.reduceNatCast
/-! ### hex.Lower -/
def F52_S1 (a0 : List UInt8) (x1 : Int) (x2 : List (Int)) : St := ⟨[.junk, .junk, .junk, .rsl 0 1 0 x2.length, .junk, .junk, .junk, .junk, .rsl 0 1 0 x2.length, .imm (.int .i64 (a0.length : Int)), .imm (.int .i64 x1), .junk, .junk, .junk, .junk, .junk, .junk, .junk, .junk, .junk, .junk, .junk, .junk, .junk, .junk, .junk], [some (.buf 5 1 (List.map byteT x2) 0)]⟩
def F52_L1 : Nat → (List UInt8) → (Int) → (List (Int)) → Option (List UInt8)
  | 0, _, _, _ => none
  | m1 + 1, a0, x1, x2 => iteB (decide (x1 < (a0.length : Int))) (grd (0 ≤ x1 ∧ x1 < (x2.length : Int)) (grd (x1.toNat < x2.length) ((F43 m1 (x2.getD x1.toNat default)).bind fun v6 => iteB (v6 == (4 : Int)) (grd (0 ≤ x1 ∧ x1 < (x2.length : Int)) (grd (x1.toNat < x2.length) (F52_L1 m1 a0 (IntKind.wrap .i64 (x1 + (1 : Int))) (List.set x2 x1.toNat (IntKind.wrap .u8 ((x2.getD x1.toNat default) + (32 : Int))))))) (F52_L1 m1 a0 (IntKind.wrap .i64 (x1 + (1 : Int))) x2)))) (some (x2.map toB))
def F52 (n : Nat) (a0 : List UInt8) : Option (List UInt8) := F52_L1 n a0 (0 : Int) (a0.map ofB)
set_option maxHeartbeats 4000000 in
theorem F52_ok : ∀ (n : Nat) (a0 : List UInt8) (r : List UInt8), F52 n a0 = some r → FnC Tryd.prog 52 [.imm (.string (bs a0))] (.imm (.string (bs r)))
  | n, a0, r, h => by
    unfold F52 at h
    refine FnC.goX mixed Tryd.func52 (by kernel_rfl) rfl ?_
    simp only [Tryd.ntmps52, List.length_cons, List.length_nil, List.replicate, List.cons_append, List.nil_append, Nat.reduceAdd, Nat.reduceSub]
    refine runX_seq ?_
    refine runX_regionC fun C hC => ?_
    try simp -implicitDefEqProofs (maxSteps := 4000000) (disch := first | omega | decide | (simp only [go_sem]; omega)) only [go_sem, ↓reduceIte]
    repeat (with_reducible refine And.intro (by first | assumption | omega | (simp; done) | (simp; omega)) ?_)
    refine toEnd hC ?_
    refine endX_seq ?_
    refine runX_seq ?_
    refine runX_regionC fun C hC => ?_
    try simp -implicitDefEqProofs (maxSteps := 4000000) (disch := first | omega | decide | (simp only [go_sem]; omega)) only [go_sem, ↓reduceIte]
    repeat (with_reducible refine And.intro (by first | assumption | omega | (simp; done) | (simp; omega)) ?_)
    refine toEnd hC ?_
    refine endX_seq ?_
    refine runX_seq ?_
    refine runX_seq ?_
    refine runX_regionC fun C hC => ?_
    try simp -implicitDefEqProofs (maxSteps := 4000000) (disch := first | omega | decide | (simp only [go_sem]; omega)) only [go_sem, ↓reduceIte]
    repeat (with_reducible refine And.intro (by first | assumption | omega | (simp; done) | (simp; omega)) ?_)
    refine toEnd hC ?_
    refine endX_seq ?_
    refine runX_block ?_
    refine runX_loop [3, 8, 9, 10] (fun m S => ∃ (x1 : Int) (x2 : List (Int)), S = F52_S1 a0 x1 x2 ∧ m ≤ n ∧ F52_L1 m a0 x1 x2 = some r) n ⟨F52_S1 a0 (0 : Int) (a0.map ofB), ?_, (0 : Int), (a0.map ofB), rfl, Nat.le_refl _, h⟩ ?_
    · simp only [F52_S1]
      (try simp -implicitDefEqProofs (maxSteps := 4000000) (disch := first | omega | decide | (simp only [go_sem]; omega)) only [go_sem, ↓reduceIte])
      first | exact leS_refl _ | (refine leS_le ?_ ?_ <;> first | exact leL_refl _ | exact leOs_refl _ | (simp only [List.append_assoc, List.cons_append, List.nil_append]; exact leOs_refl _) | (repeat (first | exact leL_refl _ | refine leL_cons (by first | exact leT_refl _ | exact leT_virt | exact leT_junk _ | exact leT_sl | exact leT_sln | exact leT_nil | (refine leT_agg (by repeat (first | exact leL_refl _ | refine leL_cons (by first | exact leT_refl _ | exact leT_sl | exact leT_sln | exact leT_nil) ?_)))) ?_)))
    · clear h
      rintro m1 S ⟨x1, x2, rfl, hm1, h⟩
      cases m1 with
      | zero => first | cases (show (none : Option _) = some _ from h) | (rw [F52_L1] at h; cases h)
      | succ m1 =>
        rw [F52_L1] at h
        simp only [F52_S1]
        refine runX_seq ?_
        refine runX_regionC fun C hC => ?_
        try simp -implicitDefEqProofs (maxSteps := 4000000) (disch := first | omega | decide | (simp only [go_sem]; omega)) only [go_sem, ↓reduceIte]
        repeat (with_reducible refine And.intro (by first | assumption | omega | (simp; done) | (simp; omega)) ?_)
        refine toEnd hC ?_
        refine endX_seq ?_
        refine runX_seq ?_
        rcases iteB_some h with ⟨c3, h⟩ | ⟨c3, h⟩
        · refine runX_condT rfl c3 ?_
          refine runX_skip ?_
          refine endX_seq ?_
          refine runX_seq ?_
          refine runX_block ?_
          refine runX_seq ?_
          refine runX_regionC fun C hC => ?_
          obtain ⟨g4, h⟩ := grd_some h
          obtain ⟨g5, h⟩ := grd_some h
          try simp -implicitDefEqProofs (maxSteps := 4000000) (disch := first | omega | decide | (simp only [go_sem]; omega)) only [go_sem, ↓reduceIte]
          repeat (with_reducible refine And.intro (by first | assumption | omega | (simp; done) | (simp; omega)) ?_)
          refine toEnd hC ?_
          refine endX_seq ?_
          refine runX_seq ?_
          refine runX_regionC fun C hC => ?_
          obtain ⟨v6, h6, h⟩ := bnd_some h
          try simp -implicitDefEqProofs (maxSteps := 4000000) (disch := first | omega | decide | (simp only [go_sem]; omega)) only [go_sem, ↓reduceIte]
          repeat (with_reducible refine And.intro (by first | assumption | omega | (simp; done) | (simp; omega)) ?_)
          refine callG_X (by first | rfl | (simp only [go_sem]; done) | (simp only [closedL, closedT, Bool.and_true]; exact closedL_map _ (fun _ => by first | rfl | (simp only [go_sem]; done)) _)) (F43_ok m1 (x2.getD x1.toNat default) _ h6) (by repeat (first | exact leL_refl _ | refine leL_cons (by first | exact leT_refl _ | exact leT_virt | exact leT_junk _ | exact leT_sl | exact leT_sln | exact leT_nil | (refine leT_agg (by repeat (first | exact leL_refl _ | refine leL_cons (by first | exact leT_refl _ | exact leT_sl | exact leT_sln | exact leT_nil) ?_)))) ?_)) ?_
          try simp -implicitDefEqProofs (maxSteps := 4000000) (disch := first | omega | decide | (simp only [go_sem]; omega)) only [go_sem, ↓reduceIte]
          repeat (with_reducible refine And.intro (by first | assumption | omega | (simp; done) | (simp; omega)) ?_)
          refine toEnd hC ?_
          refine endX_seq ?_
          rcases iteB_some h with ⟨c7, h⟩ | ⟨c7, h⟩
          · refine runX_condT rfl c7 ?_
            refine runX_regionC fun C hC => ?_
            obtain ⟨g8, h⟩ := grd_some h
            obtain ⟨g9, h⟩ := grd_some h
            try simp -implicitDefEqProofs (maxSteps := 4000000) (disch := first | omega | decide | (simp only [go_sem]; omega)) only [go_sem, ↓reduceIte]
            repeat (with_reducible refine And.intro (by first | assumption | omega | (simp; done) | (simp; omega)) ?_)
            refine toEnd hC ?_
            refine endX_blk ?_
            refine endX_seq ?_
            refine runX_regionC fun C hC => ?_
            try simp -implicitDefEqProofs (maxSteps := 4000000) (disch := first | omega | decide | (simp only [go_sem]; omega)) only [go_sem, ↓reduceIte]
            repeat (with_reducible refine And.intro (by first | assumption | omega | (simp; done) | (simp; omega)) ?_)
            refine toEnd hC ?_
            refine endX_q (roundQ_normal ⟨m1, by omega, F52_S1 a0 (IntKind.wrap .i64 (x1 + (1 : Int))) (List.set x2 x1.toNat (IntKind.wrap .u8 ((x2.getD x1.toNat default) + (32 : Int)))), ?_, (IntKind.wrap .i64 (x1 + (1 : Int))), (List.set x2 x1.toNat (IntKind.wrap .u8 ((x2.getD x1.toNat default) + (32 : Int)))), rfl, by omega, h⟩)
            simp only [F52_S1]
            (try simp -implicitDefEqProofs (maxSteps := 4000000) (disch := first | omega | decide | (simp only [go_sem]; omega)) only [go_sem, ↓reduceIte])
            first | exact leS_refl _ | (refine leS_le ?_ ?_ <;> first | exact leL_refl _ | exact leOs_refl _ | (simp only [List.append_assoc, List.cons_append, List.nil_append]; exact leOs_refl _) | (repeat (first | exact leL_refl _ | refine leL_cons (by first | exact leT_refl _ | exact leT_virt | exact leT_junk _ | exact leT_sl | exact leT_sln | exact leT_nil | (refine leT_agg (by repeat (first | exact leL_refl _ | refine leL_cons (by first | exact leT_refl _ | exact leT_sl | exact leT_sln | exact leT_nil) ?_)))) ?_)))
          · refine runX_condF rfl c7 ?_
            refine runX_skip ?_
            refine endX_blk ?_
            refine endX_seq ?_
            refine runX_regionC fun C hC => ?_
            try simp -implicitDefEqProofs (maxSteps := 4000000) (disch := first | omega | decide | (simp only [go_sem]; omega)) only [go_sem, ↓reduceIte]
            repeat (with_reducible refine And.intro (by first | assumption | omega | (simp; done) | (simp; omega)) ?_)
            refine toEnd hC ?_
            refine endX_q (roundQ_normal ⟨m1, by omega, F52_S1 a0 (IntKind.wrap .i64 (x1 + (1 : Int))) x2, ?_, (IntKind.wrap .i64 (x1 + (1 : Int))), x2, rfl, by omega, h⟩)
            simp only [F52_S1]
            (try simp -implicitDefEqProofs (maxSteps := 4000000) (disch := first | omega | decide | (simp only [go_sem]; omega)) only [go_sem, ↓reduceIte])
            first | exact leS_refl _ | (refine leS_le ?_ ?_ <;> first | exact leL_refl _ | exact leOs_refl _ | (simp only [List.append_assoc, List.cons_append, List.nil_append]; exact leOs_refl _) | (repeat (first | exact leL_refl _ | refine leL_cons (by first | exact leT_refl _ | exact leT_virt | exact leT_junk _ | exact leT_sl | exact leT_sln | exact leT_nil | (refine leT_agg (by repeat (first | exact leL_refl _ | refine leL_cons (by first | exact leT_refl _ | exact leT_sl | exact leT_sln | exact leT_nil) ?_)))) ?_)))
        · refine runX_condF rfl c3 ?_
          refine runX_exit ?_
          refine endX_seqE ?_
          refine endX_q (roundQ_exit ?_)
          refine endX_blkE ?_
          refine endX_seq ?_
          refine runX_seq ?_
          refine runX_regionC fun C hC => ?_
          try simp -implicitDefEqProofs (maxSteps := 4000000) (disch := first | omega | decide | (simp only [go_sem]; omega)) only [go_sem, ↓reduceIte]
          repeat (with_reducible refine And.intro (by first | assumption | omega | (simp; done) | (simp; omega)) ?_)
          refine toEnd hC ?_
          refine endX_seq ?_
          refine runX_ret ?_
          refine endX_q ?_
          obtain rfl := Option.some.inj h
          show RetW _ _ _ _ _
          simp only [RetW]
          (try simp -implicitDefEqProofs (maxSteps := 4000000) (disch := first | omega | decide | (simp only [go_sem]; omega)) only [go_sem, ↓reduceIte])
          (try simp (disch := omega) only [if_pos, Nat.sub_zero])
          exact leT_refl _
end Go.Proofs.YtbdkofondpalpaaDoorX

set_option linter.unusedVariables false
set_option linter.unusedSimpArgs false
namespace Go.Proofs.YtbdkofondpalpaaDoorX
open Go Go.RowKit Go.Proofs
set_option maxRecDepth 100000
attribute [local go_sem ↓] stepsK_build stepsK_build0 stepsK_bs stepsK_bs0 appendS
attribute [local go_sem] String.reduceEq String.reduceNe reduceCtorEq Int.reduceEq Nat.reduceAdd Nat.reduceSub Nat.reduceMul Nat.reduceLT Nat.reduceLeDiff Nat.reduceEqDiff Nat.reduceBEq Int.reduceToNat Int.reduceLT Int.reduceLE Int.reduceGT Int.reduceGE Int.reduceAdd Int.reduceSub Int.reduceMul Int.reduceNeg Int.reduceBEq Int.reduceBNe Int.reducePow Int.reduceDiv Int.reduceMod Int.reduceTDiv Int.reduceTMod Int.reduceNatCast
/-! ### header.values -/
def F84_S1 (a1 : List UInt8) (a0 : List ((List UInt8) × (List UInt8))) (x1 : Int) (x2 : List (List UInt8)) : St := ⟨[.junk, .imm (.string (bs a1)), .junk, .junk, .junk, .rsl 0 1 0 x2.length, .junk, .junk, .sl 2 false (List.map eT43 a0), .imm (.int .i64 (a0.length : Int)), .imm (.int .i64 x1), .junk, .junk, .junk, .junk, .junk, .junk, .junk, .junk, .junk, .junk, .junk, .junk, .junk, .junk, .junk], [some (.buf 9 1 (List.map eS x2) 0)]⟩
def F84_L1 : Nat → (List UInt8) → (List ((List UInt8) × (List UInt8))) → (Int) → (List (List UInt8)) → Option (List (List UInt8))
  | 0, _, _, _, _ => none
  | m1 + 1, a1, a0, x1, x2 => iteB (decide (x1 < (a0.length : Int))) (grd (0 ≤ x1 ∧ x1 < (a0.length : Int)) ((F52 m1 ((a0.getD x1.toNat default).1)).bind fun v5 => iteB (v5 == a1) (grd ((x2.length + 1) ≤ 549755813888) (F84_L1 m1 a1 a0 (IntKind.wrap .i64 (x1 + (1 : Int))) (x2 ++ [(a0.getD x1.toNat default).2]))) (F84_L1 m1 a1 a0 (IntKind.wrap .i64 (x1 + (1 : Int))) x2))) (some x2)
def F84 (n : Nat) (a0 : List ((List UInt8) × (List UInt8))) (a1 : List UInt8) : Option (List (List UInt8)) := F84_L1 n a1 a0 (0 : Int) []
set_option maxHeartbeats 4000000 in
theorem F84_ok : ∀ (n : Nat) (a0 : List ((List UInt8) × (List UInt8))) (a1 : List UInt8) (r : List (List UInt8)), F84 n a0 a1 = some r → FnC Tryd.prog 84 [.sl 2 false (List.map eT43 a0), .imm (.string (bs a1))] (.sl 1 false (List.map eS r))
  | n, a0, a1, r, h => by
    unfold F84 at h
    refine FnC.goX mixed Tryd.func84 (by kernel_rfl) rfl ?_
    simp only [Tryd.ntmps84, List.length_cons, List.length_nil, List.replicate, List.cons_append, List.nil_append, Nat.reduceAdd, Nat.reduceSub]
    refine runX_seq ?_
    refine runX_regionC fun C hC => ?_
    try simp -implicitDefEqProofs (maxSteps := 4000000) (disch := first | omega | decide | (simp only [go_sem]; omega)) only [go_sem, ↓reduceIte]
    repeat (with_reducible refine And.intro (by first | assumption | omega | (simp; done) | (simp; omega)) ?_)
    refine toEnd hC ?_
    refine endX_seq ?_
    refine runX_seq ?_
    refine runX_regionC fun C hC => ?_
    try simp -implicitDefEqProofs (maxSteps := 4000000) (disch := first | omega | decide | (simp only [go_sem]; omega)) only [go_sem, ↓reduceIte]
    repeat (with_reducible refine And.intro (by first | assumption | omega | (simp; done) | (simp; omega)) ?_)
    refine toEnd hC ?_
    refine endX_seq ?_
    refine runX_seq ?_
    refine runX_seq ?_
    refine runX_regionC fun C hC => ?_
    try simp -implicitDefEqProofs (maxSteps := 4000000) (disch := first | omega | decide | (simp only [go_sem]; omega)) only [go_sem, ↓reduceIte]
    repeat (with_reducible refine And.intro (by first | assumption | omega | (simp; done) | (simp; omega)) ?_)
    refine toEnd hC ?_
    refine endX_seq ?_
    refine runX_block ?_
    refine runX_loop [1, 5, 8, 9, 10] (fun m S => ∃ (x1 : Int) (x2 : List (List UInt8)), S = F84_S1 a1 a0 x1 x2 ∧ m ≤ n ∧ F84_L1 m a1 a0 x1 x2 = some r) n ⟨F84_S1 a1 a0 (0 : Int) [], ?_, (0 : Int), [], rfl, Nat.le_refl _, h⟩ ?_
    · (try simp -implicitDefEqProofs (maxSteps := 4000000) (disch := first | omega | decide | (simp only [go_sem]; omega)) only [go_sem, ↓reduceIte])
      simp only [F84_S1]
      refine leS_trans (leS_pad _ _ 1) ?_
      simp only [List.replicate, List.cons_append, List.nil_append]
      refine leS_virt 0 9 1 rfl ?_ ?_ rfl
      · repeat (first | exact leL_refl _ | refine leL_cons (by first | exact leT_refl _ | exact leT_virt | exact leT_junk _ | exact leT_sl | exact leT_sln | exact leT_nil | (refine leT_agg (by repeat (first | exact leL_refl _ | refine leL_cons (by first | exact leT_refl _ | exact leT_sl | exact leT_sln | exact leT_nil) ?_)))) ?_)
      · repeat (first | exact leOs_refl _ | refine leOs.cons (by first | exact leO.same _ | (refine leO.box (leT_agg (by repeat (first | exact leL_refl _ | refine leL_cons (by first | exact leT_refl _ | exact leT_virt | exact leT_junk _ | exact leT_sl | exact leT_sln | exact leT_nil | (refine leT_agg (by repeat (first | exact leL_refl _ | refine leL_cons (by first | exact leT_refl _ | exact leT_sl | exact leT_sln | exact leT_nil) ?_)))) ?_))) rfl) | (refine leO.box (by first | exact leT_virt | exact leT_sl | exact leT_sln) rfl)) ?_)
    · clear h
      rintro m1 S ⟨x1, x2, rfl, hm1, h⟩
      cases m1 with
      | zero => first | cases (show (none : Option _) = some _ from h) | (rw [F84_L1] at h; cases h)
      | succ m1 =>
        rw [F84_L1] at h
        simp only [F84_S1]
        refine runX_seq ?_
        refine runX_regionC fun C hC => ?_
        try simp -implicitDefEqProofs (maxSteps := 4000000) (disch := first | omega | decide | (simp only [go_sem]; omega)) only [go_sem, ↓reduceIte]
        repeat (with_reducible refine And.intro (by first | assumption | omega | (simp; done) | (simp; omega)) ?_)
        refine toEnd hC ?_
        refine endX_seq ?_
        refine runX_seq ?_
        rcases iteB_some h with ⟨c3, h⟩ | ⟨c3, h⟩
        · refine runX_condT rfl c3 ?_
          refine runX_skip ?_
          refine endX_seq ?_
          refine runX_seq ?_
          refine runX_block ?_
          refine runX_seq ?_
          refine runX_regionC fun C hC => ?_
          obtain ⟨g4, h⟩ := grd_some h
          try simp -implicitDefEqProofs (maxSteps := 4000000) (disch := first | omega | decide | (simp only [go_sem]; omega)) only [go_sem, ↓reduceIte]
          repeat (with_reducible refine And.intro (by first | assumption | omega | (simp; done) | (simp; omega)) ?_)
          refine toEnd hC ?_
          refine endX_seq ?_
          refine runX_seq ?_
          refine runX_regionC fun C hC => ?_
          obtain ⟨v5, h5, h⟩ := bnd_some h
          try simp -implicitDefEqProofs (maxSteps := 4000000) (disch := first | omega | decide | (simp only [go_sem]; omega)) only [go_sem, ↓reduceIte]
          repeat (with_reducible refine And.intro (by first | assumption | omega | (simp; done) | (simp; omega)) ?_)
          refine callG_X (by first | rfl | (simp only [go_sem]; done) | (simp only [closedL, closedT, Bool.and_true]; exact closedL_map _ (fun _ => by first | rfl | (simp only [go_sem]; done)) _)) (F52_ok m1 ((a0.getD x1.toNat default).1) _ h5) (by repeat (first | exact leL_refl _ | refine leL_cons (by first | exact leT_refl _ | exact leT_virt | exact leT_junk _ | exact leT_sl | exact leT_sln | exact leT_nil | (refine leT_agg (by repeat (first | exact leL_refl _ | refine leL_cons (by first | exact leT_refl _ | exact leT_sl | exact leT_sln | exact leT_nil) ?_)))) ?_)) ?_
          try simp -implicitDefEqProofs (maxSteps := 4000000) (disch := first | omega | decide | (simp only [go_sem]; omega)) only [go_sem, ↓reduceIte]
          repeat (with_reducible refine And.intro (by first | assumption | omega | (simp; done) | (simp; omega)) ?_)
          refine toEnd hC ?_
          refine endX_seq ?_
          rcases iteB_some h with ⟨c6, h⟩ | ⟨c6, h⟩
          · refine runX_condT rfl c6 ?_
            refine runX_regionC fun C hC => ?_
            try simp -implicitDefEqProofs (maxSteps := 4000000) (disch := first | omega | decide | (simp only [go_sem]; omega)) only [go_sem, ↓reduceIte]
            repeat (with_reducible refine And.intro (by first | assumption | omega | (simp; done) | (simp; omega)) ?_)
            refine bs_go <| buildX_val ?_
            obtain ⟨g7, h⟩ := grd_some h
            try simp -implicitDefEqProofs (maxSteps := 4000000) (disch := first | omega | decide | (simp only [go_sem]; omega)) only [go_sem, ↓reduceIte]
            repeat (with_reducible refine And.intro (by first | assumption | omega | (simp; done) | (simp; omega)) ?_)
            refine toEnd hC ?_
            refine endX_blk ?_
            refine endX_seq ?_
            refine runX_regionC fun C hC => ?_
            try simp -implicitDefEqProofs (maxSteps := 4000000) (disch := first | omega | decide | (simp only [go_sem]; omega)) only [go_sem, ↓reduceIte]
            repeat (with_reducible refine And.intro (by first | assumption | omega | (simp; done) | (simp; omega)) ?_)
            refine toEnd hC ?_
            refine endX_q (roundQ_normal ⟨m1, by omega, F84_S1 a1 a0 (IntKind.wrap .i64 (x1 + (1 : Int))) (x2 ++ [(a0.getD x1.toNat default).2]), ?_, (IntKind.wrap .i64 (x1 + (1 : Int))), (x2 ++ [(a0.getD x1.toNat default).2]), rfl, by omega, h⟩)
            simp only [F84_S1]
            (try simp -implicitDefEqProofs (maxSteps := 4000000) (disch := first | omega | decide | (simp only [go_sem]; omega)) only [go_sem, ↓reduceIte])
            first | exact leS_refl _ | (refine leS_le ?_ ?_ <;> first | exact leL_refl _ | exact leOs_refl _ | (simp only [List.append_assoc, List.cons_append, List.nil_append]; exact leOs_refl _) | (repeat (first | exact leL_refl _ | refine leL_cons (by first | exact leT_refl _ | exact leT_virt | exact leT_junk _ | exact leT_sl | exact leT_sln | exact leT_nil | (refine leT_agg (by repeat (first | exact leL_refl _ | refine leL_cons (by first | exact leT_refl _ | exact leT_sl | exact leT_sln | exact leT_nil) ?_)))) ?_)))
          · refine runX_condF rfl c6 ?_
            refine runX_skip ?_
            refine endX_blk ?_
            refine endX_seq ?_
            refine runX_regionC fun C hC => ?_
            try simp -implicitDefEqProofs (maxSteps := 4000000) (disch := first | omega | decide | (simp only [go_sem]; omega)) only [go_sem, ↓reduceIte]
            repeat (with_reducible refine And.intro (by first | assumption | omega | (simp; done) | (simp; omega)) ?_)
            refine toEnd hC ?_
            refine endX_q (roundQ_normal ⟨m1, by omega, F84_S1 a1 a0 (IntKind.wrap .i64 (x1 + (1 : Int))) x2, ?_, (IntKind.wrap .i64 (x1 + (1 : Int))), x2, rfl, by omega, h⟩)
            simp only [F84_S1]
            (try simp -implicitDefEqProofs (maxSteps := 4000000) (disch := first | omega | decide | (simp only [go_sem]; omega)) only [go_sem, ↓reduceIte])
            first | exact leS_refl _ | (refine leS_le ?_ ?_ <;> first | exact leL_refl _ | exact leOs_refl _ | (simp only [List.append_assoc, List.cons_append, List.nil_append]; exact leOs_refl _) | (repeat (first | exact leL_refl _ | refine leL_cons (by first | exact leT_refl _ | exact leT_virt | exact leT_junk _ | exact leT_sl | exact leT_sln | exact leT_nil | (refine leT_agg (by repeat (first | exact leL_refl _ | refine leL_cons (by first | exact leT_refl _ | exact leT_sl | exact leT_sln | exact leT_nil) ?_)))) ?_)))
        · refine runX_condF rfl c3 ?_
          refine runX_exit ?_
          refine endX_seqE ?_
          refine endX_q (roundQ_exit ?_)
          refine endX_blkE ?_
          refine endX_seq ?_
          refine runX_seq ?_
          refine runX_regionC fun C hC => ?_
          try simp -implicitDefEqProofs (maxSteps := 4000000) (disch := first | omega | decide | (simp only [go_sem]; omega)) only [go_sem, ↓reduceIte]
          repeat (with_reducible refine And.intro (by first | assumption | omega | (simp; done) | (simp; omega)) ?_)
          refine toEnd hC ?_
          refine endX_seq ?_
          refine runX_ret ?_
          refine endX_q ?_
          obtain rfl := Option.some.inj h
          show RetW _ _ _ _ _
          simp only [RetW]
          (try simp -implicitDefEqProofs (maxSteps := 4000000) (disch := first | omega | decide | (simp only [go_sem]; omega)) only [go_sem, ↓reduceIte])
          (try simp (disch := omega) only [if_pos, Nat.sub_zero])
          exact leT_refl _
end Go.Proofs.YtbdkofondpalpaaDoorX

set_option linter.unusedVariables false
set_option linter.unusedSimpArgs false
namespace Go.Proofs.YtbdkofondpalpaaDoorX
open Go Go.RowKit Go.Proofs
set_option maxRecDepth 100000
/-! ### strings.Join: by the shelf -/
open Go.Shelf
def Tryd.lay156_ren : Go.Shelf.Ren := ⟨fun | 156 => 85 | 165 => 116 | 166 => 45 | 169 => 46 | 240 => 82 | 241 => 142 | 276 => 112 | 277 => 153 | n => n, fun | 31 => 56 | 9 => 9 | 3 => 3 | 4 => 4 | 0 => 0 | 20 => 20 | 72 => 94 | 76 => 97 | 70 => 92 | 37 => 62 | 75 => 96 | 127 => 132 | 164 => 160 | 5 => 5 | 80 => 99 | n => n, fun | n => n⟩
theorem Tryd.lay156 : Go.Proofs.Lays.n156 Tryd.prog Tryd.lay156_ren := {
  mixed := by kernel_rfl,
  f156 := Tryd.func85.trans (congrArg some (by kernel_rfl)),
  f165 := Tryd.func116.trans (congrArg some (by kernel_rfl)),
  f166 := Tryd.func45.trans (congrArg some (by kernel_rfl)),
  f169 := Tryd.func46.trans (congrArg some (by kernel_rfl)),
  f240 := Tryd.func82.trans (congrArg some (by kernel_rfl)),
  f241 := Tryd.func142.trans (congrArg some (by kernel_rfl)),
  f276 := Tryd.func112.trans (congrArg some (by kernel_rfl)),
  f277 := Tryd.func153.trans (congrArg some (by kernel_rfl)),
  t0 := Tryd.underlying0,
  a0 := Tryd.isAgg0,
  z0 := Tryd.sizeOf0,
  v0 := Tryd.zeroValue0,
  t3 := Tryd.underlying3,
  a3 := Tryd.isAgg3,
  z3 := Tryd.sizeOf3,
  v3 := Tryd.zeroValue3,
  t4 := Tryd.underlying4,
  a4 := Tryd.isAgg4,
  z4 := Tryd.sizeOf4,
  v4 := Tryd.zeroValue4,
  t9 := Tryd.underlying9,
  a9 := Tryd.isAgg9,
  z9 := Tryd.sizeOf9,
  v9 := Tryd.zeroValue9,
  t20 := Tryd.underlying20,
  a20 := Tryd.isAgg20,
  z20 := Tryd.sizeOf20,
  v20 := Tryd.zeroValue20,
  t31 := Tryd.underlying56,
  a31 := Tryd.isAgg56,
  z31 := Tryd.sizeOf56,
  v31 := Tryd.zeroValue56,
  t37 := Tryd.underlying62,
  a37 := Tryd.isAgg62,
  z37 := Tryd.sizeOf62,
  v37 := Tryd.zeroValue62,
  t70 := Tryd.underlying92,
  a70 := Tryd.isAgg92,
  z70 := Tryd.sizeOf92,
  v70 := Tryd.zeroValue92,
  t72 := Tryd.underlying94,
  a72 := Tryd.isAgg94,
  z72 := Tryd.sizeOf94,
  v72 := Tryd.zeroValue94,
  t75 := Tryd.underlying96,
  a75 := Tryd.isAgg96,
  z75 := Tryd.sizeOf96,
  v75 := Tryd.zeroValue96,
  t76 := Tryd.underlying97,
  a76 := Tryd.isAgg97,
  z76 := Tryd.sizeOf97,
  v76 := Tryd.zeroValue97,
  t127 := Tryd.underlying132,
  a127 := Tryd.isAgg132,
  z127 := Tryd.sizeOf132,
  v127 := Tryd.zeroValue132,
  t164 := Tryd.underlying160,
  a164 := Tryd.isAgg160,
  z164 := Tryd.sizeOf160,
  v164 := Tryd.zeroValue160 }

theorem Tryd.bx156 : Builder.Extra Tryd.prog Tryd.lay156_ren := {
  sizeBuilder := by kernel_rfl,
  liesBuilder := by kernel_rfl,
  t5 := Tryd.underlying5,
  a5 := Tryd.isAgg5,
  z5 := Tryd.sizeOf5,
  v5 := Tryd.zeroValue5,
  infoByte := by kernel_rfl,
  cellsByte := by kernel_rfl,
  sizeByte := by kernel_rfl,
  neB5 := by decide }
def F85 (n : Nat) (a0 : List (List UInt8)) (a1 : List UInt8) : Option (List UInt8) :=
  if a0.length ≤ 140737488355328 ∧ (Lib.join a0 a1).length ≤ 140737488355328 then some (Lib.join a0 a1) else none
theorem join_cells : ∀ (E : Env) (l : List (List UInt8)) (c : List Value), RepR E 1 (List.map eS l) c → c = l.map fun s => Value.string (bs s)
  | E, [], c, h => by simpa only [List.map_nil, RepR] using h
  | E, s :: l, c, h => by
    simp only [List.map_cons, RepR] at h
    obtain ⟨u, c', rfl, _, h2, h3⟩ := h
    have h2 : Rep E true (.imm (.string (bs s))) u := h2
    simp only [Rep] at h2
    rw [h2.1, join_cells E l c' h3]
    rfl
theorem F85_ok (n : Nat) (a0 : List (List UInt8)) (a1 : List UInt8) (r : List UInt8) (h : F85 n a0 a1 = some r) : FnC Tryd.prog 85 [.sl 1 false (List.map eS a0), .imm (.string (bs a1))] (.imm (.string (bs r))) := by
  unfold F85 at h
  split at h
  case isFalse => cases h
  rename_i hh
  obtain ⟨h1, h2⟩ := hh
  obtain rfl := Option.some.inj h
  refine ⟨⟨Tryd.f85, Tryd.func85, by kernel_rfl, rfl⟩, fun w ban vs hban hv => ?_⟩
  have hx : (a0.map bs).map (·.data.toList) = a0 := by
    rw [List.map_map]
    conv => rhs; rw [← List.map_id a0]
    exact List.map_congr_left fun x _ => rfl
  obtain ⟨l⟩ := vs
  simp only [RepL] at hv
  obtain ⟨u, us, e1, q1, v, vs', e2, q2, e3⟩ := hv
  have e1 : l = u :: us := e1
  subst e3; subst e2; subst e1
  simp only [Rep] at q1 q2
  obtain ⟨a, cap, c, rfl, hcap, _, hR, hA⟩ := q1
  obtain ⟨rfl, _⟩ := q2
  have hc := join_cells _ a0 c hR
  subst hc
  rw [List.length_map] at hcap ⊢
  have post : ∀ (e : Ending) (w' : World), (e = .returned (.string ⟨(Lib.join ((a0.map bs).map (·.data.toList)) (bs a1).data.toList).toArray⟩) ∧ Below w.heap.size w w') → ∃ u, e = .returned u ∧ Below w.heap.size w w' ∧ Rep (E0 w' ban) true (.imm (.string (bs (Lib.join a0 a1)))) u := by
    rintro e w' ⟨rfl, hb⟩
    rw [hx]
    exact ⟨_, rfl, hb, by simp only [Rep]; exact ⟨rfl, rfl⟩⟩
  cases a0 with
  | nil =>
    refine (Any.strings_Join_none Tryd.lay156 Tryd.bx156 a cap (bs a1) w).mono ?_
    rintro e w' ⟨rfl, rfl⟩
    exact post _ _ ⟨rfl, Below.refl _ _⟩
  | cons s t =>
    obtain ⟨b, o, rfl, h0⟩ := hA 0 (.string (bs s)) rfl
    have hlen : (s :: t).length = ((s :: t).map bs).length := by rw [List.length_map]
    rw [hlen]
    refine (Any.strings_Join Tryd.lay156 Tryd.bx156 b o cap ((s :: t).map bs) (bs a1) w ?_ (cell_lt h0.1) (by rw [← hlen]; exact h1) (by rw [← hlen]; exact hcap) (by rw [hx]; exact h2)).mono post
    intro j x hj
    rw [List.getElem?_map] at hj
    cases hg : (s :: t)[j]? with
    | none => rw [hg] at hj; cases hj
    | some y =>
      rw [hg] at hj
      have hj : bs y = x := Option.some.inj hj
      obtain ⟨b', o', e, h4⟩ := hA j (.string (bs y)) (by rw [List.getElem?_map, hg]; rfl)
      cases e
      rw [← hj]
      exact h4.1

end Go.Proofs.YtbdkofondpalpaaDoorX

set_option linter.unusedVariables false
set_option linter.unusedSimpArgs false
namespace Go.Proofs.YtbdkofondpalpaaDoorX
open Go Go.RowKit Go.Proofs
set_option maxRecDepth 100000
attribute [local go_sem ↓] stepsK_build stepsK_build0 stepsK_bs stepsK_bs0 appendS
attribute [local go_sem] String.reduceEq String.reduceNe reduceCtorEq Int.reduceEq Nat.reduceAdd Nat.reduceSub Nat.reduceMul Nat.reduceLT Nat.reduceLeDiff Nat.reduceEqDiff Nat.reduceBEq Int.reduceToNat Int.reduceLT Int.reduceLE Int.reduceGT Int.reduceGE Int.reduceAdd Int.reduceSub Int.reduceMul Int.reduceNeg Int.reduceBEq Int.reduceBNe Int.reducePow Int.reduceDiv Int.reduceMod Int.reduceTDiv Int.reduceTMod Int.reduceNatCast
/-! ### header.Get -/
def F49 (n : Nat) (a0 : List ((List UInt8) × (List UInt8))) (a1 : List UInt8) : Option ((List UInt8) × (Bool)) := (F84 n a0 a1).bind fun v1 => (F85 n v1 ([44, 32] : List UInt8)).bind fun v2 => some (v2, (decide ((0 : Int) < (v1.length : Int))))
set_option maxHeartbeats 4000000 in
theorem F49_ok : ∀ (n : Nat) (a0 : List ((List UInt8) × (List UInt8))) (a1 : List UInt8) (r : (List UInt8) × (Bool)), F49 n a0 a1 = some r → FnC Tryd.prog 49 [.sl 2 false (List.map eT43 a0), .imm (.string (bs a1))] (.tup [.imm (.string (bs r.1)), .imm (.bool r.2)])
  | n, a0, a1, r, h => by
    unfold F49 at h
    refine FnC.goX mixed Tryd.func49 (by kernel_rfl) rfl ?_
    simp only [Tryd.ntmps49, List.length_cons, List.length_nil, List.replicate, List.cons_append, List.nil_append, Nat.reduceAdd, Nat.reduceSub]
    refine runX_seq ?_
    refine runX_regionC fun C hC => ?_
    try simp -implicitDefEqProofs (maxSteps := 4000000) (disch := first | omega | decide | (simp only [go_sem]; omega)) only [go_sem, ↓reduceIte]
    repeat (with_reducible refine And.intro (by first | assumption | omega | (simp; done) | (simp; omega)) ?_)
    refine toEnd hC ?_
    refine endX_seq ?_
    refine runX_seq ?_
    refine runX_regionC fun C hC => ?_
    obtain ⟨v1, h1, h⟩ := bnd_some h
    try simp -implicitDefEqProofs (maxSteps := 4000000) (disch := first | omega | decide | (simp only [go_sem]; omega)) only [go_sem, ↓reduceIte]
    repeat (with_reducible refine And.intro (by first | assumption | omega | (simp; done) | (simp; omega)) ?_)
    refine callG_X (by first | rfl | (simp only [go_sem]; done) | (simp only [closedL, closedT, Bool.and_true]; exact closedL_map _ (fun _ => by first | rfl | (simp only [go_sem]; done)) _)) (F84_ok n a0 a1 _ h1) (by repeat (first | exact leL_refl _ | refine leL_cons (by first | exact leT_refl _ | exact leT_virt | exact leT_junk _ | exact leT_sl | exact leT_sln | exact leT_nil | (refine leT_agg (by repeat (first | exact leL_refl _ | refine leL_cons (by first | exact leT_refl _ | exact leT_sl | exact leT_sln | exact leT_nil) ?_)))) ?_)) ?_
    try simp -implicitDefEqProofs (maxSteps := 4000000) (disch := first | omega | decide | (simp only [go_sem]; omega)) only [go_sem, ↓reduceIte]
    repeat (with_reducible refine And.intro (by first | assumption | omega | (simp; done) | (simp; omega)) ?_)
    refine toEnd hC ?_
    refine endX_seq ?_
    refine runX_seq ?_
    refine runX_regionC fun C hC => ?_
    obtain ⟨v2, h2, h⟩ := bnd_some h
    try simp -implicitDefEqProofs (maxSteps := 4000000) (disch := first | omega | decide | (simp only [go_sem]; omega)) only [go_sem, ↓reduceIte]
    repeat (with_reducible refine And.intro (by first | assumption | omega | (simp; done) | (simp; omega)) ?_)
    refine callG_X (by first | rfl | (simp only [go_sem]; done) | (simp only [closedL, closedT, Bool.and_true]; exact closedL_map _ (fun _ => by first | rfl | (simp only [go_sem]; done)) _)) (F85_ok n v1 ([44, 32] : List UInt8) _ h2) (by repeat (first | exact leL_refl _ | refine leL_cons (by first | exact leT_refl _ | exact leT_virt | exact leT_junk _ | exact leT_sl | exact leT_sln | exact leT_nil | (refine leT_agg (by repeat (first | exact leL_refl _ | refine leL_cons (by first | exact leT_refl _ | exact leT_sl | exact leT_sln | exact leT_nil) ?_)))) ?_)) ?_
    try simp -implicitDefEqProofs (maxSteps := 4000000) (disch := first | omega | decide | (simp only [go_sem]; omega)) only [go_sem, ↓reduceIte]
    repeat (with_reducible refine And.intro (by first | assumption | omega | (simp; done) | (simp; omega)) ?_)
    refine toEnd hC ?_
    refine endX_seq ?_
    refine runX_ret ?_
    refine endX_q ?_
    obtain rfl := Option.some.inj h
    show RetW _ _ _ _ _
    simp only [RetW]
    (try simp -implicitDefEqProofs (maxSteps := 4000000) (disch := first | omega | decide | (simp only [go_sem]; omega)) only [go_sem, ↓reduceIte])
    (try simp (disch := omega) only [if_pos, Nat.sub_zero])
    exact leT_refl _
end Go.Proofs.YtbdkofondpalpaaDoorX

set_option linter.unusedVariables false
set_option linter.unusedSimpArgs false
namespace Go.Proofs.YtbdkofondpalpaaDoorX
open Go Go.RowKit Go.Proofs
set_option maxRecDepth 100000
attribute [local go_sem ↓] stepsK_build stepsK_build0 stepsK_bs stepsK_bs0 appendS
attribute [local go_sem] String.reduceEq String.reduceNe reduceCtorEq Int.reduceEq Nat.reduceAdd Nat.reduceSub Nat.reduceMul Nat.reduceLT Nat.reduceLeDiff Nat.reduceEqDiff Nat.reduceBEq Int.reduceToNat Int.reduceLT Int.reduceLE Int.reduceGT Int.reduceGE Int.reduceAdd Int.reduceSub Int.reduceMul Int.reduceNeg Int.reduceBEq Int.reduceBNe Int.reducePow Int.reduceDiv Int.reduceMod Int.reduceTDiv Int.reduceTMod Int.reduceNatCast
/-! ### request.Close$1 -/
def F51 (n : Nat) (a0 : List UInt8) : Option (Bool) := (F52 n a0).bind fun v1 => some (v1 == ([99, 108, 111, 115, 101] : List UInt8))
set_option maxHeartbeats 4000000 in
theorem F51_ok : ∀ (n : Nat) (a0 : List UInt8) (r : Bool), F51 n a0 = some r → FnC Tryd.prog 51 [.imm (.string (bs a0))] (.imm (.bool r))
  | n, a0, r, h => by
    unfold F51 at h
    refine FnC.goX mixed Tryd.func51 (by kernel_rfl) rfl ?_
    simp only [Tryd.ntmps51, List.length_cons, List.length_nil, List.replicate, List.cons_append, List.nil_append, Nat.reduceAdd, Nat.reduceSub]
    refine runX_seq ?_
    refine runX_regionC fun C hC => ?_
    try simp -implicitDefEqProofs (maxSteps := 4000000) (disch := first | omega | decide | (simp only [go_sem]; omega)) only [go_sem, ↓reduceIte]
    repeat (with_reducible refine And.intro (by first | assumption | omega | (simp; done) | (simp; omega)) ?_)
    refine toEnd hC ?_
    refine endX_seq ?_
    refine runX_seq ?_
    refine runX_regionC fun C hC => ?_
    obtain ⟨v1, h1, h⟩ := bnd_some h
    try simp -implicitDefEqProofs (maxSteps := 4000000) (disch := first | omega | decide | (simp only [go_sem]; omega)) only [go_sem, ↓reduceIte]
    repeat (with_reducible refine And.intro (by first | assumption | omega | (simp; done) | (simp; omega)) ?_)
    refine callG_X (by first | rfl | (simp only [go_sem]; done) | (simp only [closedL, closedT, Bool.and_true]; exact closedL_map _ (fun _ => by first | rfl | (simp only [go_sem]; done)) _)) (F52_ok n a0 _ h1) (by repeat (first | exact leL_refl _ | refine leL_cons (by first | exact leT_refl _ | exact leT_virt | exact leT_junk _ | exact leT_sl | exact leT_sln | exact leT_nil | (refine leT_agg (by repeat (first | exact leL_refl _ | refine leL_cons (by first | exact leT_refl _ | exact leT_sl | exact leT_sln | exact leT_nil) ?_)))) ?_)) ?_
    try simp -implicitDefEqProofs (maxSteps := 4000000) (disch := first | omega | decide | (simp only [go_sem]; omega)) only [go_sem, ↓reduceIte]
    repeat (with_reducible refine And.intro (by first | assumption | omega | (simp; done) | (simp; omega)) ?_)
    refine toEnd hC ?_
    refine endX_seq ?_
    refine runX_ret ?_
    refine endX_q ?_
    obtain rfl := Option.some.inj h
    show RetW _ _ _ _ _
    simp only [RetW]
    (try simp -implicitDefEqProofs (maxSteps := 4000000) (disch := first | omega | decide | (simp only [go_sem]; omega)) only [go_sem, ↓reduceIte])
    (try simp (disch := omega) only [if_pos, Nat.sub_zero])
    exact leT_refl _
end Go.Proofs.YtbdkofondpalpaaDoorX

set_option linter.unusedVariables false
set_option linter.unusedSimpArgs false
namespace Go.Proofs.YtbdkofondpalpaaDoorX
open Go Go.RowKit Go.Proofs
set_option maxRecDepth 100000
attribute [local go_sem ↓] stepsK_build stepsK_build0 stepsK_bs stepsK_bs0 appendS
attribute [local go_sem] String.reduceEq String.reduceNe reduceCtorEq Int.reduceEq Nat.reduceAdd Nat.reduceSub Nat.reduceMul Nat.reduceLT Nat.reduceLeDiff Nat.reduceEqDiff Nat.reduceBEq Int.reduceToNat Int.reduceLT Int.reduceLE Int.reduceGT Int.reduceGE Int.reduceAdd Int.reduceSub Int.reduceMul Int.reduceNeg Int.reduceBEq Int.reduceBNe Int.reducePow Int.reduceDiv Int.reduceMod Int.reduceTDiv Int.reduceTMod Int.reduceNatCast
/-! ### slices.IndexFunc[[]string,string]@request.Close$1 -/
def F52000086_S1 (a0 : List (List UInt8)) (x1 : Int) : St := ⟨[.sl 1 false (List.map eS a0), .fn 51 [], .junk, .junk, .junk, .junk, .junk, .imm (.int .i64 (a0.length : Int)), .imm (.int .i64 x1), .junk, .junk, .junk, .junk, .junk, .junk, .junk, .junk, .junk, .junk], []⟩
def F52000086_L1 : Nat → (List (List UInt8)) → (Int) → Option (Int)
  | 0, _, _ => none
  | m1 + 1, a0, x1 => iteB (decide (x1 < (a0.length : Int))) (grd (0 ≤ x1 ∧ x1 < (a0.length : Int)) ((F51 m1 (a0.getD x1.toNat default)).bind fun v4 => iteB v4 (some x1) (F52000086_L1 m1 a0 (IntKind.wrap .i64 (x1 + (1 : Int)))))) (some (-1 : Int))
def F52000086 (n : Nat) (a0 : List (List UInt8)) : Option (Int) := F52000086_L1 n a0 (0 : Int)
set_option maxHeartbeats 4000000 in
theorem F52000086_ok : ∀ (n : Nat) (a0 : List (List UInt8)) (r : Int), F52000086 n a0 = some r → FnC Tryd.prog 86 [.sl 1 false (List.map eS a0), .fn 51 []] (.imm (.int .i64 r))
  | n, a0, r, h => by
    unfold F52000086 at h
    refine FnC.goX mixed Tryd.func86 (by kernel_rfl) rfl ?_
    simp only [Tryd.ntmps86, List.length_cons, List.length_nil, List.replicate, List.cons_append, List.nil_append, Nat.reduceAdd, Nat.reduceSub]
    refine runX_seq ?_
    refine runX_regionC fun C hC => ?_
    try simp -implicitDefEqProofs (maxSteps := 4000000) (disch := first | omega | decide | (simp only [go_sem]; omega)) only [go_sem, ↓reduceIte]
    repeat (with_reducible refine And.intro (by first | assumption | omega | (simp; done) | (simp; omega)) ?_)
    refine toEnd hC ?_
    refine endX_seq ?_
    refine runX_seq ?_
    refine runX_seq ?_
    refine runX_regionC fun C hC => ?_
    try simp -implicitDefEqProofs (maxSteps := 4000000) (disch := first | omega | decide | (simp only [go_sem]; omega)) only [go_sem, ↓reduceIte]
    repeat (with_reducible refine And.intro (by first | assumption | omega | (simp; done) | (simp; omega)) ?_)
    refine toEnd hC ?_
    refine endX_seq ?_
    refine runX_block ?_
    refine runX_loop [0, 1, 7, 8] (fun m S => ∃ (x1 : Int), S = F52000086_S1 a0 x1 ∧ m ≤ n ∧ F52000086_L1 m a0 x1 = some r) n ⟨F52000086_S1 a0 (0 : Int), ?_, (0 : Int), rfl, Nat.le_refl _, h⟩ ?_
    · simp only [F52000086_S1]
      (try simp -implicitDefEqProofs (maxSteps := 4000000) (disch := first | omega | decide | (simp only [go_sem]; omega)) only [go_sem, ↓reduceIte])
      first | exact leS_refl _ | (refine leS_le ?_ ?_ <;> first | exact leL_refl _ | exact leOs_refl _ | (simp only [List.append_assoc, List.cons_append, List.nil_append]; exact leOs_refl _) | (repeat (first | exact leL_refl _ | refine leL_cons (by first | exact leT_refl _ | exact leT_virt | exact leT_junk _ | exact leT_sl | exact leT_sln | exact leT_nil | (refine leT_agg (by repeat (first | exact leL_refl _ | refine leL_cons (by first | exact leT_refl _ | exact leT_sl | exact leT_sln | exact leT_nil) ?_)))) ?_)))
    · clear h
      rintro m1 S ⟨x1, rfl, hm1, h⟩
      cases m1 with
      | zero => first | cases (show (none : Option _) = some _ from h) | (rw [F52000086_L1] at h; cases h)
      | succ m1 =>
        rw [F52000086_L1] at h
        simp only [F52000086_S1]
        refine runX_seq ?_
        refine runX_regionC fun C hC => ?_
        try simp -implicitDefEqProofs (maxSteps := 4000000) (disch := first | omega | decide | (simp only [go_sem]; omega)) only [go_sem, ↓reduceIte]
        repeat (with_reducible refine And.intro (by first | assumption | omega | (simp; done) | (simp; omega)) ?_)
        refine toEnd hC ?_
        refine endX_seq ?_
        refine runX_seq ?_
        rcases iteB_some h with ⟨c2, h⟩ | ⟨c2, h⟩
        · refine runX_condT rfl c2 ?_
          refine runX_skip ?_
          refine endX_seq ?_
          refine runX_seq ?_
          refine runX_block ?_
          refine runX_seq ?_
          refine runX_regionC fun C hC => ?_
          try simp -implicitDefEqProofs (maxSteps := 4000000) (disch := first | omega | decide | (simp only [go_sem]; omega)) only [go_sem, ↓reduceIte]
          repeat (with_reducible refine And.intro (by first | assumption | omega | (simp; done) | (simp; omega)) ?_)
          refine toEnd hC ?_
          refine endX_seq ?_
          refine runX_seq ?_
          refine runX_regionC fun C hC => ?_
          obtain ⟨g3, h⟩ := grd_some h
          obtain ⟨v4, h4, h⟩ := bnd_some h
          try simp -implicitDefEqProofs (maxSteps := 4000000) (disch := first | omega | decide | (simp only [go_sem]; omega)) only [go_sem, ↓reduceIte]
          repeat (with_reducible refine And.intro (by first | assumption | omega | (simp; done) | (simp; omega)) ?_)
          refine callG_X (by first | rfl | (simp only [go_sem]; done) | (simp only [closedL, closedT, Bool.and_true]; exact closedL_map _ (fun _ => by first | rfl | (simp only [go_sem]; done)) _)) (F51_ok m1 (a0.getD x1.toNat default) _ h4) (by repeat (first | exact leL_refl _ | refine leL_cons (by first | exact leT_refl _ | exact leT_virt | exact leT_junk _ | exact leT_sl | exact leT_sln | exact leT_nil | (refine leT_agg (by repeat (first | exact leL_refl _ | refine leL_cons (by first | exact leT_refl _ | exact leT_sl | exact leT_sln | exact leT_nil) ?_)))) ?_)) ?_
          try simp -implicitDefEqProofs (maxSteps := 4000000) (disch := first | omega | decide | (simp only [go_sem]; omega)) only [go_sem, ↓reduceIte]
          repeat (with_reducible refine And.intro (by first | assumption | omega | (simp; done) | (simp; omega)) ?_)
          refine toEnd hC ?_
          refine endX_seq ?_
          rcases iteB_some h with ⟨c5, h⟩ | ⟨c5, h⟩
          · refine runX_condT rfl c5 ?_
            refine runX_seq ?_
            refine runX_regionC fun C hC => ?_
            try simp -implicitDefEqProofs (maxSteps := 4000000) (disch := first | omega | decide | (simp only [go_sem]; omega)) only [go_sem, ↓reduceIte]
            repeat (with_reducible refine And.intro (by first | assumption | omega | (simp; done) | (simp; omega)) ?_)
            refine toEnd hC ?_
            refine endX_seq ?_
            refine runX_ret ?_
            refine endX_blkR ?_
            refine endX_seqR ?_
            refine endX_q (roundQ_ret ?_)
            refine endX_blkR ?_
            refine endX_seqR ?_
            refine endX_q ?_
            obtain rfl := Option.some.inj h
            show RetW _ _ _ _ _
            simp only [RetW]
            (try simp -implicitDefEqProofs (maxSteps := 4000000) (disch := first | omega | decide | (simp only [go_sem]; omega)) only [go_sem, ↓reduceIte])
            (try simp (disch := omega) only [if_pos, Nat.sub_zero])
            exact leT_refl _
          · refine runX_condF rfl c5 ?_
            refine runX_skip ?_
            refine endX_blk ?_
            refine endX_seq ?_
            refine runX_regionC fun C hC => ?_
            try simp -implicitDefEqProofs (maxSteps := 4000000) (disch := first | omega | decide | (simp only [go_sem]; omega)) only [go_sem, ↓reduceIte]
            repeat (with_reducible refine And.intro (by first | assumption | omega | (simp; done) | (simp; omega)) ?_)
            refine toEnd hC ?_
            refine endX_q (roundQ_normal ⟨m1, by omega, F52000086_S1 a0 (IntKind.wrap .i64 (x1 + (1 : Int))), ?_, (IntKind.wrap .i64 (x1 + (1 : Int))), rfl, by omega, h⟩)
            simp only [F52000086_S1]
            (try simp -implicitDefEqProofs (maxSteps := 4000000) (disch := first | omega | decide | (simp only [go_sem]; omega)) only [go_sem, ↓reduceIte])
            first | exact leS_refl _ | (refine leS_le ?_ ?_ <;> first | exact leL_refl _ | exact leOs_refl _ | (simp only [List.append_assoc, List.cons_append, List.nil_append]; exact leOs_refl _) | (repeat (first | exact leL_refl _ | refine leL_cons (by first | exact leT_refl _ | exact leT_virt | exact leT_junk _ | exact leT_sl | exact leT_sln | exact leT_nil | (refine leT_agg (by repeat (first | exact leL_refl _ | refine leL_cons (by first | exact leT_refl _ | exact leT_sl | exact leT_sln | exact leT_nil) ?_)))) ?_)))
        · refine runX_condF rfl c2 ?_
          refine runX_exit ?_
          refine endX_seqE ?_
          refine endX_q (roundQ_exit ?_)
          refine endX_blkE ?_
          refine endX_seq ?_
          refine runX_seq ?_
          refine runX_regionC fun C hC => ?_
          try simp -implicitDefEqProofs (maxSteps := 4000000) (disch := first | omega | decide | (simp only [go_sem]; omega)) only [go_sem, ↓reduceIte]
          repeat (with_reducible refine And.intro (by first | assumption | omega | (simp; done) | (simp; omega)) ?_)
          refine toEnd hC ?_
          refine endX_seq ?_
          refine runX_ret ?_
          refine endX_q ?_
          obtain rfl := Option.some.inj h
          show RetW _ _ _ _ _
          simp only [RetW]
          (try simp -implicitDefEqProofs (maxSteps := 4000000) (disch := first | omega | decide | (simp only [go_sem]; omega)) only [go_sem, ↓reduceIte])
          (try simp (disch := omega) only [if_pos, Nat.sub_zero])
          exact leT_refl _
end Go.Proofs.YtbdkofondpalpaaDoorX

set_option linter.unusedVariables false
set_option linter.unusedSimpArgs false
namespace Go.Proofs.YtbdkofondpalpaaDoorX
open Go Go.RowKit Go.Proofs
set_option maxRecDepth 100000
attribute [local go_sem ↓] stepsK_build stepsK_build0 stepsK_bs stepsK_bs0 appendS
attribute [local go_sem] String.reduceEq String.reduceNe reduceCtorEq Int.reduceEq Nat.reduceAdd Nat.reduceSub Nat.reduceMul Nat.reduceLT Nat.reduceLeDiff Nat.reduceEqDiff Nat.reduceBEq Int.reduceToNat Int.reduceLT Int.reduceLE Int.reduceGT Int.reduceGE Int.reduceAdd Int.reduceSub Int.reduceMul Int.reduceNeg Int.reduceBEq Int.reduceBNe Int.reducePow Int.reduceDiv Int.reduceMod Int.reduceTDiv Int.reduceTMod Int.reduceNatCast
/-! ### slices.ContainsFunc[[]string,string]@request.Close$1 -/
def F52000050 (n : Nat) (a0 : List (List UInt8)) : Option (Bool) := (F52000086 n a0).bind fun v1 => some (decide ((0 : Int) ≤ v1))
set_option maxHeartbeats 4000000 in
theorem F52000050_ok : ∀ (n : Nat) (a0 : List (List UInt8)) (r : Bool), F52000050 n a0 = some r → FnC Tryd.prog 50 [.sl 1 false (List.map eS a0), .fn 51 []] (.imm (.bool r))
  | n, a0, r, h => by
    unfold F52000050 at h
    refine FnC.goX mixed Tryd.func50 (by kernel_rfl) rfl ?_
    simp only [Tryd.ntmps50, List.length_cons, List.length_nil, List.replicate, List.cons_append, List.nil_append, Nat.reduceAdd, Nat.reduceSub]
    refine runX_seq ?_
    refine runX_regionC fun C hC => ?_
    try simp -implicitDefEqProofs (maxSteps := 4000000) (disch := first | omega | decide | (simp only [go_sem]; omega)) only [go_sem, ↓reduceIte]
    repeat (with_reducible refine And.intro (by first | assumption | omega | (simp; done) | (simp; omega)) ?_)
    refine toEnd hC ?_
    refine endX_seq ?_
    refine runX_seq ?_
    refine runX_regionC fun C hC => ?_
    obtain ⟨v1, h1, h⟩ := bnd_some h
    try simp -implicitDefEqProofs (maxSteps := 4000000) (disch := first | omega | decide | (simp only [go_sem]; omega)) only [go_sem, ↓reduceIte]
    repeat (with_reducible refine And.intro (by first | assumption | omega | (simp; done) | (simp; omega)) ?_)
    refine callG_X (by first | rfl | (simp only [go_sem]; done) | (simp only [closedL, closedT, Bool.and_true]; exact closedL_map _ (fun _ => by first | rfl | (simp only [go_sem]; done)) _)) (F52000086_ok n a0 _ h1) (by repeat (first | exact leL_refl _ | refine leL_cons (by first | exact leT_refl _ | exact leT_virt | exact leT_junk _ | exact leT_sl | exact leT_sln | exact leT_nil | (refine leT_agg (by repeat (first | exact leL_refl _ | refine leL_cons (by first | exact leT_refl _ | exact leT_sl | exact leT_sln | exact leT_nil) ?_)))) ?_)) ?_
    try simp -implicitDefEqProofs (maxSteps := 4000000) (disch := first | omega | decide | (simp only [go_sem]; omega)) only [go_sem, ↓reduceIte]
    repeat (with_reducible refine And.intro (by first | assumption | omega | (simp; done) | (simp; omega)) ?_)
    refine toEnd hC ?_
    refine endX_seq ?_
    refine runX_ret ?_
    refine endX_q ?_
    obtain rfl := Option.some.inj h
    show RetW _ _ _ _ _
    simp only [RetW]
    (try simp -implicitDefEqProofs (maxSteps := 4000000) (disch := first | omega | decide | (simp only [go_sem]; omega)) only [go_sem, ↓reduceIte])
    (try simp (disch := omega) only [if_pos, Nat.sub_zero])
    exact leT_refl _
end Go.Proofs.YtbdkofondpalpaaDoorX

set_option linter.unusedVariables false
set_option linter.unusedSimpArgs false
namespace Go.Proofs.YtbdkofondpalpaaDoorX
open Go Go.RowKit Go.Proofs
set_option maxRecDepth 100000
attribute [local go_sem ↓] stepsK_build stepsK_build0 stepsK_bs stepsK_bs0 appendS
attribute [local go_sem] String.reduceEq String.reduceNe reduceCtorEq Int.reduceEq Nat.reduceAdd Nat.reduceSub Nat.reduceMul Nat.reduceLT Nat.reduceLeDiff Nat.reduceEqDiff Nat.reduceBEq Int.reduceToNat Int.reduceLT Int.reduceLE Int.reduceGT Int.reduceGE Int.reduceAdd Int.reduceSub Int.reduceMul Int.reduceNeg Int.reduceBEq Int.reduceBNe Int.reducePow Int.reduceDiv Int.reduceMod Int.reduceTDiv Int.reduceTMod Int.reduceNatCast
/-! ### request.Close -/
def F28 (n : Nat) (a0 : (List UInt8) × (List UInt8) × (List UInt8) × (List ((List UInt8) × (List UInt8))) × (List ((List UInt8) × (List UInt8))) × (List (Int))) : Option (Bool) := (F49 n a0.2.2.2.2.1 ([99, 111, 110, 110, 101, 99, 116, 105, 111, 110] : List UInt8)).bind fun v1 => (F25 n v1.1).bind fun v2 => (F52000050 n v2).bind fun v3 => some v3
set_option maxHeartbeats 4000000 in
theorem F28_ok : ∀ (n : Nat) (a0 : (List UInt8) × (List UInt8) × (List UInt8) × (List ((List UInt8) × (List UInt8))) × (List ((List UInt8) × (List UInt8))) × (List (Int))) (r : Bool), F28 n a0 = some r → FnC Tryd.prog 28 [.agg [.imm (.string (bs a0.1)), .imm (.string (bs a0.2.1)), .imm (.string (bs a0.2.2.1)), .sl 2 false (List.map eT35 a0.2.2.2.1), .sl 2 false (List.map eT43 a0.2.2.2.2.1), .sl 1 false (List.map byteT a0.2.2.2.2.2)]] (.imm (.bool r))
  | n, a0, r, h => by
    unfold F28 at h
    refine FnC.goX mixed Tryd.func28 (by kernel_rfl) rfl ?_
    simp only [Tryd.ntmps28, List.length_cons, List.length_nil, List.replicate, List.cons_append, List.nil_append, Nat.reduceAdd, Nat.reduceSub]
    refine runX_seq ?_
    refine runX_regionC fun C hC => ?_
    try simp -implicitDefEqProofs (maxSteps := 4000000) (disch := first | omega | decide | (simp only [go_sem]; omega)) only [go_sem, ↓reduceIte]
    repeat (with_reducible refine And.intro (by first | assumption | omega | (simp; done) | (simp; omega)) ?_)
    refine toEnd hC ?_
    refine endX_seq ?_
    refine runX_seq ?_
    refine runX_regionC fun C hC => ?_
    obtain ⟨v1, h1, h⟩ := bnd_some h
    try simp -implicitDefEqProofs (maxSteps := 4000000) (disch := first | omega | decide | (simp only [go_sem]; omega)) only [go_sem, ↓reduceIte]
    repeat (with_reducible refine And.intro (by first | assumption | omega | (simp; done) | (simp; omega)) ?_)
    refine callG_X (by first | rfl | (simp only [go_sem]; done) | (simp only [closedL, closedT, Bool.and_true]; exact closedL_map _ (fun _ => by first | rfl | (simp only [go_sem]; done)) _)) (F49_ok n a0.2.2.2.2.1 ([99, 111, 110, 110, 101, 99, 116, 105, 111, 110] : List UInt8) _ h1) (by repeat (first | exact leL_refl _ | refine leL_cons (by first | exact leT_refl _ | exact leT_virt | exact leT_junk _ | exact leT_sl | exact leT_sln | exact leT_nil | (refine leT_agg (by repeat (first | exact leL_refl _ | refine leL_cons (by first | exact leT_refl _ | exact leT_sl | exact leT_sln | exact leT_nil) ?_)))) ?_)) ?_
    try simp -implicitDefEqProofs (maxSteps := 4000000) (disch := first | omega | decide | (simp only [go_sem]; omega)) only [go_sem, ↓reduceIte]
    repeat (with_reducible refine And.intro (by first | assumption | omega | (simp; done) | (simp; omega)) ?_)
    refine toEnd hC ?_
    refine endX_seq ?_
    refine runX_seq ?_
    refine runX_regionC fun C hC => ?_
    obtain ⟨v2, h2, h⟩ := bnd_some h
    try simp -implicitDefEqProofs (maxSteps := 4000000) (disch := first | omega | decide | (simp only [go_sem]; omega)) only [go_sem, ↓reduceIte]
    repeat (with_reducible refine And.intro (by first | assumption | omega | (simp; done) | (simp; omega)) ?_)
    refine callG_X (by first | rfl | (simp only [go_sem]; done) | (simp only [closedL, closedT, Bool.and_true]; exact closedL_map _ (fun _ => by first | rfl | (simp only [go_sem]; done)) _)) (F25_ok n v1.1 _ h2) (by repeat (first | exact leL_refl _ | refine leL_cons (by first | exact leT_refl _ | exact leT_virt | exact leT_junk _ | exact leT_sl | exact leT_sln | exact leT_nil | (refine leT_agg (by repeat (first | exact leL_refl _ | refine leL_cons (by first | exact leT_refl _ | exact leT_sl | exact leT_sln | exact leT_nil) ?_)))) ?_)) ?_
    obtain ⟨v3, h3, h⟩ := bnd_some h
    try simp -implicitDefEqProofs (maxSteps := 4000000) (disch := first | omega | decide | (simp only [go_sem]; omega)) only [go_sem, ↓reduceIte]
    repeat (with_reducible refine And.intro (by first | assumption | omega | (simp; done) | (simp; omega)) ?_)
    refine callG_X (by first | rfl | (simp only [go_sem]; done) | (simp only [closedL, closedT, Bool.and_true]; exact closedL_map _ (fun _ => by first | rfl | (simp only [go_sem]; done)) _)) (F52000050_ok n v2 _ h3) (by repeat (first | exact leL_refl _ | refine leL_cons (by first | exact leT_refl _ | exact leT_virt | exact leT_junk _ | exact leT_sl | exact leT_sln | exact leT_nil | (refine leT_agg (by repeat (first | exact leL_refl _ | refine leL_cons (by first | exact leT_refl _ | exact leT_sl | exact leT_sln | exact leT_nil) ?_)))) ?_)) ?_
    try simp -implicitDefEqProofs (maxSteps := 4000000) (disch := first | omega | decide | (simp only [go_sem]; omega)) only [go_sem, ↓reduceIte]
    repeat (with_reducible refine And.intro (by first | assumption | omega | (simp; done) | (simp; omega)) ?_)
    refine toEnd hC ?_
    refine endX_seq ?_
    refine runX_ret ?_
    refine endX_q ?_
    obtain rfl := Option.some.inj h
    show RetW _ _ _ _ _
    simp only [RetW]
    (try simp -implicitDefEqProofs (maxSteps := 4000000) (disch := first | omega | decide | (simp only [go_sem]; omega)) only [go_sem, ↓reduceIte])
    (try simp (disch := omega) only [if_pos, Nat.sub_zero])
    exact leT_refl _
end Go.Proofs.YtbdkofondpalpaaDoorX

set_option linter.unusedVariables false
set_option linter.unusedSimpArgs false
namespace Go.Proofs.YtbdkofondpalpaaDoorX
open Go Go.RowKit Go.Proofs
set_option maxRecDepth 100000
attribute [local go_sem ↓] stepsK_build stepsK_build0 stepsK_bs stepsK_bs0 appendS
attribute [local go_sem] String.reduceEq String.reduceNe reduceCtorEq Int.reduceEq Nat.reduceAdd Nat.reduceSub Nat.reduceMul Nat.reduceLT Nat.reduceLeDiff Nat.reduceEqDiff Nat.reduceBEq Int.reduceToNat Int.reduceLT Int.reduceLE Int.reduceGT Int.reduceGE Int.reduceAdd Int.reduceSub Int.reduceMul Int.reduceNeg Int.reduceBEq Int.reduceBNe Int.reducePow Int.reduceDiv Int.reduceMod Int.reduceTDiv Int.reduceTMod Int.reduceNatCast
/-! ### shadowboxlaw31.RequestCloses -/
def F7_S4 (x3 : List (List UInt8)) (x4 : List UInt8) (x5 : Int) (x10 : List UInt8) (x11 : Int) : St := ⟨[.sl 1 false (List.map eS x3), .junk, .junk, .junk, .junk, .imm (.string (bs x4)), .imm (.int .i64 x5), .imm (.string (bs x10)), .imm (.int .i64 x11), .junk, .junk, .junk, .junk, .junk, .junk, .junk, .junk, .junk, .junk, .junk, .junk, .junk, .junk, .junk, .junk, .junk, .junk, .junk, .junk, .junk, .junk, .junk, .junk, .junk, .junk, .junk, .junk, .junk, .junk, .junk, .junk, .junk, .junk, .junk, .junk, .junk, .junk, .junk, .junk, .junk, .junk, .junk, .junk, .junk, .junk, .junk, .junk, .junk, .junk, .junk, .junk, .junk, .junk, .junk, .junk, .junk, .junk, .junk, .junk, .junk, .junk, .junk, .junk, .junk], []⟩
def F7_S3 (x3 : List (List UInt8)) (x4 : List UInt8) (x5 : Int) (x10 : List UInt8) : St := ⟨[.sl 1 false (List.map eS x3), .junk, .junk, .junk, .junk, .imm (.string (bs x4)), .imm (.int .i64 x5), .imm (.string (bs x10)), .junk, .junk, .junk, .junk, .junk, .junk, .junk, .junk, .junk, .junk, .junk, .junk, .junk, .junk, .junk, .junk, .junk, .junk, .junk, .junk, .junk, .junk, .junk, .junk, .junk, .junk, .junk, .junk, .junk, .junk, .junk, .junk, .junk, .junk, .junk, .junk, .junk, .junk, .junk, .junk, .junk, .junk, .junk, .junk, .junk, .junk, .junk, .junk, .junk, .junk, .junk, .junk, .junk, .junk, .junk, .junk, .junk, .junk, .junk, .junk, .junk, .junk, .junk, .junk, .junk, .junk], []⟩
def F7_S2 (x3 : List (List UInt8)) (x4 : List UInt8) (x5 : Int) : St := ⟨[.sl 1 false (List.map eS x3), .junk, .junk, .junk, .junk, .imm (.string (bs x4)), .imm (.int .i64 x5), .junk, .junk, .junk, .junk, .junk, .junk, .junk, .junk, .junk, .junk, .junk, .junk, .junk, .junk, .junk, .junk, .junk, .junk, .junk, .junk, .junk, .junk, .junk, .junk, .junk, .junk, .junk, .junk, .junk, .junk, .junk, .junk, .junk, .junk, .junk, .junk, .junk, .junk, .junk, .junk, .junk, .junk, .junk, .junk, .junk, .junk, .junk, .junk, .junk, .junk, .junk, .junk, .junk, .junk, .junk, .junk, .junk, .junk, .junk, .junk, .junk, .junk, .junk, .junk, .junk, .junk, .junk], []⟩
def F7_S1 (x3 : List (List UInt8)) : St := ⟨[.sl 1 false (List.map eS x3), .junk, .junk, .junk, .junk, .junk, .junk, .junk, .junk, .junk, .junk, .junk, .junk, .junk, .junk, .junk, .junk, .junk, .junk, .junk, .junk, .junk, .junk, .junk, .junk, .junk, .junk, .junk, .junk, .junk, .junk, .junk, .junk, .junk, .junk, .junk, .junk, .junk, .junk, .junk, .junk, .junk, .junk, .junk, .junk, .junk, .junk, .junk, .junk, .junk, .junk, .junk, .junk, .junk, .junk, .junk, .junk, .junk, .junk, .junk, .junk, .junk, .junk, .junk, .junk, .junk, .junk, .junk, .junk, .junk, .junk, .junk, .junk, .junk], []⟩
mutual
def F7_L4 : Nat → (List (List UInt8)) → (List UInt8) → (Int) → (List UInt8) → (Int) → Option (Bool)
  | 0, _, _, _, _, _ => none
  | m4 + 1, x3, x4, x5, x10, x11 => iteB (decide (x11 < (x10.length : Int))) (grd (0 ≤ x11 ∧ x11 < (x10.length : Int)) (iteB (((x10.getD x11.toNat 0).toNat : Int) == (44 : Int)) ((F28 m4 ([], [], [], [], [(([99, 111, 110, 110, 101, 99, 116, 105, 111, 110] : List UInt8), ([97, 44, 32, 67, 108, 111, 115, 101] : List UInt8))], [])).bind fun v15 => some v15) (grd (0 ≤ x11 ∧ x11 < (x10.length : Int)) (iteB ((IntKind.wrap .u8 (bOr .u8 ((x10.getD x11.toNat 0).toNat : Int) (32 : Int))) == (99 : Int)) ((F28 m4 ([], [], [], [], [(([99, 111, 110, 110, 101, 99, 116, 105, 111, 110] : List UInt8), ([97, 44, 32, 67, 108, 111, 115, 101] : List UInt8))], [])).bind fun v18 => some v18) (F7_L4 m4 x3 x4 x5 x10 (IntKind.wrap .i64 (x11 + (1 : Int)))))))) (grd (x4.length + x10.length ≤ 9223372036854775807) (grd ((x4.length + x10.length) + 1 ≤ 9223372036854775807) (F7_L2 m4 x3 ((x4 ++ x10) ++ ([44] : List UInt8)) (IntKind.wrap .i64 (x5 + (1 : Int))))))
def F7_J3 (m2 : Nat) (x3 : List (List UInt8)) (x4 : List UInt8) (x5 : Int) (x10 : List UInt8) : Option (Bool) := F7_L4 m2 x3 x4 x5 x10 (0 : Int)
def F7_L2 : Nat → (List (List UInt8)) → (List UInt8) → (Int) → Option (Bool)
  | 0, _, _, _ => none
  | m2 + 1, x3, x4, x5 => iteB (decide (x5 < (x3.length : Int))) (grd (0 ≤ x5 ∧ x5 < (x3.length : Int)) (iteB (decide ((50 : Int) < ((x3.getD x5.toNat default).length : Int))) (grd ((50 : Int) ≤ ((x3.getD x5.toNat default).length : Int)) (F7_J3 m2 x3 x4 x5 ((x3.getD x5.toNat default).take 50))) (F7_J3 m2 x3 x4 x5 (x3.getD x5.toNat default)))) ((F28 m2 ([], [], [], [], [(([67, 111, 110, 110, 101, 99, 116, 105, 111, 110] : List UInt8), x4)], [])).bind fun v21 => iteB v21 (some false) (grd (2 ≤ 549755813888) ((F28 m2 ([], [], [], [], (([(([67, 111, 110, 110, 101, 99, 116, 105, 111, 110] : List UInt8), x4)]) ++ ([(([99, 111, 110, 110, 101, 99, 116, 105, 111, 110] : List UInt8), ([67, 76, 79, 83, 69] : List UInt8))])), [])).bind fun v24 => iteB v24 ((F28 m2 ([], [], [], [], [], [])).bind fun v26 => some (!v26)) (some false))))
def F7_J1 (n : Nat) (x3 : List (List UInt8)) : Option (Bool) := F7_L2 n x3 [] (0 : Int)
end
def F7 (n : Nat) (a0 : List (List UInt8)) (a1 : Int) : Option (Bool) := iteB (decide ((20 : Int) < (a0.length : Int))) (grd ((20 : Int) ≤ (a0.length : Int)) (F7_J1 n (a0.take 20))) (F7_J1 n a0)
set_option maxHeartbeats 4000000 in
theorem F7_ok : ∀ (n : Nat) (a0 : List (List UInt8)) (a1 : Int) (r : Bool), F7 n a0 a1 = some r → FnC Tryd.prog 7 [.sl 1 false (List.map eS a0), .imm (.int .i64 a1)] (.imm (.bool r))
  | n, a0, a1, r, h => by
    unfold F7 at h
    refine FnC.goX mixed Tryd.func7 (by kernel_rfl) rfl ?_
    simp only [Tryd.ntmps7, List.length_cons, List.length_nil, List.replicate, List.cons_append, List.nil_append, Nat.reduceAdd, Nat.reduceSub]
    refine runX_seq ?_
    refine runX_regionC fun C hC => ?_
    try simp -implicitDefEqProofs (maxSteps := 4000000) (disch := first | omega | decide | (simp only [go_sem]; omega)) only [go_sem, ↓reduceIte]
    repeat (with_reducible refine And.intro (by first | assumption | omega | (simp; done) | (simp; omega)) ?_)
    refine toEnd hC ?_
    refine endX_seq ?_
    refine runX_meet [0] (fun S => ∃ (x3 : List (List UInt8)), S = F7_S1 x3 ∧ F7_J1 n x3 = some r) ?_ ?_
    · refine runX_seq ?_
      refine runX_regionC fun C hC => ?_
      try simp -implicitDefEqProofs (maxSteps := 4000000) (disch := first | omega | decide | (simp only [go_sem]; omega)) only [go_sem, ↓reduceIte]
      repeat (with_reducible refine And.intro (by first | assumption | omega | (simp; done) | (simp; omega)) ?_)
      refine toEnd hC ?_
      refine endX_seq ?_
      rcases iteB_some h with ⟨c1, h⟩ | ⟨c1, h⟩
      · refine runX_condT rfl c1 ?_
        refine runX_regionC fun C hC => ?_
        obtain ⟨g2, h⟩ := grd_some h
        try simp -implicitDefEqProofs (maxSteps := 4000000) (disch := first | omega | decide | (simp only [go_sem]; omega)) only [go_sem, ↓reduceIte]
        repeat (with_reducible refine And.intro (by first | assumption | omega | (simp; done) | (simp; omega)) ?_)
        refine toEnd hC ?_
        refine endX_q (meetQ_normal ⟨F7_S1 (a0.take 20), ?_, (a0.take 20), rfl, h⟩)
        simp only [F7_S1]
        (try simp -implicitDefEqProofs (maxSteps := 4000000) (disch := first | omega | decide | (simp only [go_sem]; omega)) only [go_sem, ↓reduceIte])
        first | exact leS_refl _ | (refine leS_le ?_ ?_ <;> first | exact leL_refl _ | exact leOs_refl _ | (simp only [List.append_assoc, List.cons_append, List.nil_append]; exact leOs_refl _) | (repeat (first | exact leL_refl _ | refine leL_cons (by first | exact leT_refl _ | exact leT_virt | exact leT_junk _ | exact leT_sl | exact leT_sln | exact leT_nil | (refine leT_agg (by repeat (first | exact leL_refl _ | refine leL_cons (by first | exact leT_refl _ | exact leT_sl | exact leT_sln | exact leT_nil) ?_)))) ?_)))
      · refine runX_condF rfl c1 ?_
        refine runX_skip ?_
        refine endX_q (meetQ_normal ⟨F7_S1 a0, ?_, a0, rfl, h⟩)
        simp only [F7_S1]
        (try simp -implicitDefEqProofs (maxSteps := 4000000) (disch := first | omega | decide | (simp only [go_sem]; omega)) only [go_sem, ↓reduceIte])
        first | exact leS_refl _ | (refine leS_le ?_ ?_ <;> first | exact leL_refl _ | exact leOs_refl _ | (simp only [List.append_assoc, List.cons_append, List.nil_append]; exact leOs_refl _) | (repeat (first | exact leL_refl _ | refine leL_cons (by first | exact leT_refl _ | exact leT_virt | exact leT_junk _ | exact leT_sl | exact leT_sln | exact leT_nil | (refine leT_agg (by repeat (first | exact leL_refl _ | refine leL_cons (by first | exact leT_refl _ | exact leT_sl | exact leT_sln | exact leT_nil) ?_)))) ?_)))
    · clear h
      rintro S ⟨x3, rfl, h⟩
      rw [F7_J1] at h
      simp only [F7_S1]
      refine runX_seq ?_
      refine runX_regionC fun C hC => ?_
      try simp -implicitDefEqProofs (maxSteps := 4000000) (disch := first | omega | decide | (simp only [go_sem]; omega)) only [go_sem, ↓reduceIte]
      repeat (with_reducible refine And.intro (by first | assumption | omega | (simp; done) | (simp; omega)) ?_)
      refine toEnd hC ?_
      refine endX_seq ?_
      refine runX_seq ?_
      refine runX_seq ?_
      refine runX_regionC fun C hC => ?_
      try simp -implicitDefEqProofs (maxSteps := 4000000) (disch := first | omega | decide | (simp only [go_sem]; omega)) only [go_sem, ↓reduceIte]
      repeat (with_reducible refine And.intro (by first | assumption | omega | (simp; done) | (simp; omega)) ?_)
      refine toEnd hC ?_
      refine endX_seq ?_
      refine runX_block ?_
      refine runX_loop [0, 5, 6] (fun m S => ∃ (x4 : List UInt8) (x5 : Int), S = F7_S2 x3 x4 x5 ∧ m ≤ n ∧ F7_L2 m x3 x4 x5 = some r) n ⟨F7_S2 x3 [] (0 : Int), ?_, [], (0 : Int), rfl, Nat.le_refl _, h⟩ ?_
      · simp only [F7_S2]
        (try simp -implicitDefEqProofs (maxSteps := 4000000) (disch := first | omega | decide | (simp only [go_sem]; omega)) only [go_sem, ↓reduceIte])
        first | exact leS_refl _ | (refine leS_le ?_ ?_ <;> first | exact leL_refl _ | exact leOs_refl _ | (simp only [List.append_assoc, List.cons_append, List.nil_append]; exact leOs_refl _) | (repeat (first | exact leL_refl _ | refine leL_cons (by first | exact leT_refl _ | exact leT_virt | exact leT_junk _ | exact leT_sl | exact leT_sln | exact leT_nil | (refine leT_agg (by repeat (first | exact leL_refl _ | refine leL_cons (by first | exact leT_refl _ | exact leT_sl | exact leT_sln | exact leT_nil) ?_)))) ?_)))
      · clear h
        rintro m2 S ⟨x4, x5, rfl, hm2, h⟩
        cases m2 with
        | zero => first | cases (show (none : Option _) = some _ from h) | (rw [F7_L2] at h; cases h)
        | succ m2 =>
          rw [F7_L2] at h
          simp only [F7_S2]
          refine runX_seq ?_
          refine runX_seq ?_
          refine runX_regionC fun C hC => ?_
          try simp -implicitDefEqProofs (maxSteps := 4000000) (disch := first | omega | decide | (simp only [go_sem]; omega)) only [go_sem, ↓reduceIte]
          repeat (with_reducible refine And.intro (by first | assumption | omega | (simp; done) | (simp; omega)) ?_)
          refine toEnd hC ?_
          refine endX_seq ?_
          rcases iteB_some h with ⟨c6, h⟩ | ⟨c6, h⟩
          · refine runX_condT rfl c6 ?_
            refine runX_skip ?_
            refine endX_seq ?_
            refine runX_seq ?_
            refine runX_block ?_
            refine runX_seq ?_
            refine runX_regionC fun C hC => ?_
            obtain ⟨g7, h⟩ := grd_some h
            try simp -implicitDefEqProofs (maxSteps := 4000000) (disch := first | omega | decide | (simp only [go_sem]; omega)) only [go_sem, ↓reduceIte]
            repeat (with_reducible refine And.intro (by first | assumption | omega | (simp; done) | (simp; omega)) ?_)
            refine toEnd hC ?_
            refine endX_seq ?_
            refine runX_meet [0, 5, 6, 7] (fun S => ∃ (x10 : List UInt8), S = F7_S3 x3 x4 x5 x10 ∧ F7_J3 m2 x3 x4 x5 x10 = some r) ?_ ?_
            · refine runX_seq ?_
              refine runX_regionC fun C hC => ?_
              try simp -implicitDefEqProofs (maxSteps := 4000000) (disch := first | omega | decide | (simp only [go_sem]; omega)) only [go_sem, ↓reduceIte]
              repeat (with_reducible refine And.intro (by first | assumption | omega | (simp; done) | (simp; omega)) ?_)
              refine toEnd hC ?_
              refine endX_seq ?_
              rcases iteB_some h with ⟨c8, h⟩ | ⟨c8, h⟩
              · refine runX_condT rfl c8 ?_
                refine runX_regionC fun C hC => ?_
                obtain ⟨g9, h⟩ := grd_some h
                try simp -implicitDefEqProofs (maxSteps := 4000000) (disch := first | omega | decide | (simp only [go_sem]; omega)) only [go_sem, ↓reduceIte]
                repeat (with_reducible refine And.intro (by first | assumption | omega | (simp; done) | (simp; omega)) ?_)
                refine toEnd hC ?_
                refine endX_q (meetQ_normal ⟨F7_S3 x3 x4 x5 ((x3.getD x5.toNat default).take 50), ?_, ((x3.getD x5.toNat default).take 50), rfl, h⟩)
                simp only [F7_S3]
                (try simp -implicitDefEqProofs (maxSteps := 4000000) (disch := first | omega | decide | (simp only [go_sem]; omega)) only [go_sem, ↓reduceIte])
                first | exact leS_refl _ | (refine leS_le ?_ ?_ <;> first | exact leL_refl _ | exact leOs_refl _ | (simp only [List.append_assoc, List.cons_append, List.nil_append]; exact leOs_refl _) | (repeat (first | exact leL_refl _ | refine leL_cons (by first | exact leT_refl _ | exact leT_virt | exact leT_junk _ | exact leT_sl | exact leT_sln | exact leT_nil | (refine leT_agg (by repeat (first | exact leL_refl _ | refine leL_cons (by first | exact leT_refl _ | exact leT_sl | exact leT_sln | exact leT_nil) ?_)))) ?_)))
              · refine runX_condF rfl c8 ?_
                refine runX_skip ?_
                refine endX_q (meetQ_normal ⟨F7_S3 x3 x4 x5 (x3.getD x5.toNat default), ?_, (x3.getD x5.toNat default), rfl, h⟩)
                simp only [F7_S3]
                (try simp -implicitDefEqProofs (maxSteps := 4000000) (disch := first | omega | decide | (simp only [go_sem]; omega)) only [go_sem, ↓reduceIte])
                first | exact leS_refl _ | (refine leS_le ?_ ?_ <;> first | exact leL_refl _ | exact leOs_refl _ | (simp only [List.append_assoc, List.cons_append, List.nil_append]; exact leOs_refl _) | (repeat (first | exact leL_refl _ | refine leL_cons (by first | exact leT_refl _ | exact leT_virt | exact leT_junk _ | exact leT_sl | exact leT_sln | exact leT_nil | (refine leT_agg (by repeat (first | exact leL_refl _ | refine leL_cons (by first | exact leT_refl _ | exact leT_sl | exact leT_sln | exact leT_nil) ?_)))) ?_)))
            · clear h
              rintro S ⟨x10, rfl, h⟩
              rw [F7_J3] at h
              simp only [F7_S3]
              refine runX_seq ?_
              refine runX_seq ?_
              refine runX_regionC fun C hC => ?_
              try simp -implicitDefEqProofs (maxSteps := 4000000) (disch := first | omega | decide | (simp only [go_sem]; omega)) only [go_sem, ↓reduceIte]
              repeat (with_reducible refine And.intro (by first | assumption | omega | (simp; done) | (simp; omega)) ?_)
              refine toEnd hC ?_
              refine endX_seq ?_
              refine runX_block ?_
              refine runX_loop [0, 5, 6, 7, 8] (fun m S => ∃ (x11 : Int), S = F7_S4 x3 x4 x5 x10 x11 ∧ m ≤ m2 ∧ F7_L4 m x3 x4 x5 x10 x11 = some r) m2 ⟨F7_S4 x3 x4 x5 x10 (0 : Int), ?_, (0 : Int), rfl, Nat.le_refl _, h⟩ ?_
              · simp only [F7_S4]
                (try simp -implicitDefEqProofs (maxSteps := 4000000) (disch := first | omega | decide | (simp only [go_sem]; omega)) only [go_sem, ↓reduceIte])
                first | exact leS_refl _ | (refine leS_le ?_ ?_ <;> first | exact leL_refl _ | exact leOs_refl _ | (simp only [List.append_assoc, List.cons_append, List.nil_append]; exact leOs_refl _) | (repeat (first | exact leL_refl _ | refine leL_cons (by first | exact leT_refl _ | exact leT_virt | exact leT_junk _ | exact leT_sl | exact leT_sln | exact leT_nil | (refine leT_agg (by repeat (first | exact leL_refl _ | refine leL_cons (by first | exact leT_refl _ | exact leT_sl | exact leT_sln | exact leT_nil) ?_)))) ?_)))
              · clear h
                rintro m4 S ⟨x11, rfl, hm4, h⟩
                cases m4 with
                | zero => first | cases (show (none : Option _) = some _ from h) | (rw [F7_L4] at h; cases h)
                | succ m4 =>
                  rw [F7_L4] at h
                  simp only [F7_S4]
                  refine runX_seq ?_
                  refine runX_seq ?_
                  refine runX_regionC fun C hC => ?_
                  try simp -implicitDefEqProofs (maxSteps := 4000000) (disch := first | omega | decide | (simp only [go_sem]; omega)) only [go_sem, ↓reduceIte]
                  repeat (with_reducible refine And.intro (by first | assumption | omega | (simp; done) | (simp; omega)) ?_)
                  refine toEnd hC ?_
                  refine endX_seq ?_
                  rcases iteB_some h with ⟨c12, h⟩ | ⟨c12, h⟩
                  · refine runX_condT rfl c12 ?_
                    refine runX_skip ?_
                    refine endX_seq ?_
                    refine runX_seq ?_
                    refine runX_block ?_
                    refine runX_seq ?_
                    refine runX_regionC fun C hC => ?_
                    obtain ⟨g13, h⟩ := grd_some h
                    try simp -implicitDefEqProofs (maxSteps := 4000000) (disch := first | omega | decide | (simp only [go_sem]; omega)) only [go_sem, ↓reduceIte]
                    repeat (with_reducible refine And.intro (by first | assumption | omega | (simp; done) | (simp; omega)) ?_)
                    rcases iteB_some h with ⟨c14, h⟩ | ⟨c14, h⟩
                    · refine guardK_F c14 ?_
                      try simp -implicitDefEqProofs (maxSteps := 4000000) (disch := first | omega | decide | (simp only [go_sem]; omega)) only [go_sem, ↓reduceIte]
                      repeat (with_reducible refine And.intro (by first | assumption | omega | (simp; done) | (simp; omega)) ?_)
                      refine toEnd hC ?_
                      refine endX_seq ?_
                      refine runX_condT rfl rfl ?_
                      refine runX_seq ?_
                      refine runX_regionC fun C hC => ?_
                      simp only [runK_region, runK_draw, liteL, liteL2, dstsL, gL, List.getD_cons_zero, List.getD_cons_succ]
                      try simp -implicitDefEqProofs (maxSteps := 4000000) (disch := first | omega | decide | (simp only [go_sem]; omega)) only [go_sem, ↓reduceIte]
                      repeat (with_reducible refine And.intro (by first | assumption | omega | (simp; done) | (simp; omega)) ?_)
                      refine bldG_of [.imm (.string (bs ([99, 111, 110, 110, 101, 99, 116, 105, 111, 110] : List UInt8))), .imm (.string (bs ([97, 44, 32, 67, 108, 111, 115, 101] : List UInt8)))] (by kernel_rfl) ?_
                      try simp -implicitDefEqProofs (maxSteps := 4000000) (disch := first | omega | decide | (simp only [go_sem]; omega)) only [go_sem, ↓reduceIte]
                      repeat (with_reducible refine And.intro (by first | assumption | omega | (simp; done) | (simp; omega)) ?_)
                      refine bs_go <| buildX_val ?_
                      try simp -implicitDefEqProofs (maxSteps := 4000000) (disch := first | omega | decide | (simp only [go_sem]; omega)) only [go_sem, ↓reduceIte]
                      repeat (with_reducible refine And.intro (by first | assumption | omega | (simp; done) | (simp; omega)) ?_)
                      refine bldG_of [.imm (.string (bs [])), .imm (.string (bs [])), .imm (.string (bs [])), .sl 0 true [], .sl 2 true (List.map eT43 ([(([99, 111, 110, 110, 101, 99, 116, 105, 111, 110] : List UInt8), ([97, 44, 32, 67, 108, 111, 115, 101] : List UInt8))])), .sl 0 true []] (by kernel_rfl) ?_
                      obtain ⟨v15, h15, h⟩ := bnd_some h
                      try simp -implicitDefEqProofs (maxSteps := 4000000) (disch := first | omega | decide | (simp only [go_sem]; omega)) only [go_sem, ↓reduceIte]
                      repeat (with_reducible refine And.intro (by first | assumption | omega | (simp; done) | (simp; omega)) ?_)
                      refine callG_X (by first | rfl | (simp only [go_sem]; done) | (simp only [closedL, closedT, Bool.and_true]; exact closedL_map _ (fun _ => by first | rfl | (simp only [go_sem]; done)) _)) (F28_ok m4 ([], [], [], [], [(([99, 111, 110, 110, 101, 99, 116, 105, 111, 110] : List UInt8), ([97, 44, 32, 67, 108, 111, 115, 101] : List UInt8))], []) _ h15) (by repeat (first | exact leL_refl _ | refine leL_cons (by first | exact leT_refl _ | exact leT_virt | exact leT_junk _ | exact leT_sl | exact leT_sln | exact leT_nil | (refine leT_agg (by repeat (first | exact leL_refl _ | refine leL_cons (by first | exact leT_refl _ | exact leT_sl | exact leT_sln | exact leT_nil) ?_)))) ?_)) ?_
                      try simp -implicitDefEqProofs (maxSteps := 4000000) (disch := first | omega | decide | (simp only [go_sem]; omega)) only [go_sem, ↓reduceIte]
                      repeat (with_reducible refine And.intro (by first | assumption | omega | (simp; done) | (simp; omega)) ?_)
                      refine toEnd hC ?_
                      refine endX_seq ?_
                      refine runX_ret ?_
                      refine endX_blkR ?_
                      refine endX_seqR ?_
                      refine endX_q (roundQ_ret ?_)
                      refine endX_blkR ?_
                      refine endX_seqR ?_
                      refine endX_blkR ?_
                      refine endX_seqR ?_
                      refine endX_q (roundQ_ret ?_)
                      refine endX_blkR ?_
                      refine endX_seqR ?_
                      refine endX_q ?_
                      obtain rfl := Option.some.inj h
                      show RetW _ _ _ _ _
                      simp only [RetW]
                      (try simp -implicitDefEqProofs (maxSteps := 4000000) (disch := first | omega | decide | (simp only [go_sem]; omega)) only [go_sem, ↓reduceIte])
                      (try simp (disch := omega) only [if_pos, Nat.sub_zero])
                      exact leT_refl _
                    · refine guardK_T c14 ?_
                      obtain ⟨g16, h⟩ := grd_some h
                      try simp -implicitDefEqProofs (maxSteps := 4000000) (disch := first | omega | decide | (simp only [go_sem]; omega)) only [go_sem, ↓reduceIte]
                      repeat (with_reducible refine And.intro (by first | assumption | omega | (simp; done) | (simp; omega)) ?_)
                      refine toEnd hC ?_
                      refine endX_seq ?_
                      rcases iteB_some h with ⟨c17, h⟩ | ⟨c17, h⟩
                      · refine runX_condT rfl c17 ?_
                        refine runX_seq ?_
                        refine runX_regionC fun C hC => ?_
                        simp only [runK_region, runK_draw, liteL, liteL2, dstsL, gL, List.getD_cons_zero, List.getD_cons_succ]
                        try simp -implicitDefEqProofs (maxSteps := 4000000) (disch := first | omega | decide | (simp only [go_sem]; omega)) only [go_sem, ↓reduceIte]
                        repeat (with_reducible refine And.intro (by first | assumption | omega | (simp; done) | (simp; omega)) ?_)
                        refine bldG_of [.imm (.string (bs ([99, 111, 110, 110, 101, 99, 116, 105, 111, 110] : List UInt8))), .imm (.string (bs ([97, 44, 32, 67, 108, 111, 115, 101] : List UInt8)))] (by kernel_rfl) ?_
                        try simp -implicitDefEqProofs (maxSteps := 4000000) (disch := first | omega | decide | (simp only [go_sem]; omega)) only [go_sem, ↓reduceIte]
                        repeat (with_reducible refine And.intro (by first | assumption | omega | (simp; done) | (simp; omega)) ?_)
                        refine bs_go <| buildX_val ?_
                        try simp -implicitDefEqProofs (maxSteps := 4000000) (disch := first | omega | decide | (simp only [go_sem]; omega)) only [go_sem, ↓reduceIte]
                        repeat (with_reducible refine And.intro (by first | assumption | omega | (simp; done) | (simp; omega)) ?_)
                        refine bldG_of [.imm (.string (bs [])), .imm (.string (bs [])), .imm (.string (bs [])), .sl 0 true [], .sl 2 true (List.map eT43 ([(([99, 111, 110, 110, 101, 99, 116, 105, 111, 110] : List UInt8), ([97, 44, 32, 67, 108, 111, 115, 101] : List UInt8))])), .sl 0 true []] (by kernel_rfl) ?_
                        obtain ⟨v18, h18, h⟩ := bnd_some h
                        try simp -implicitDefEqProofs (maxSteps := 4000000) (disch := first | omega | decide | (simp only [go_sem]; omega)) only [go_sem, ↓reduceIte]
                        repeat (with_reducible refine And.intro (by first | assumption | omega | (simp; done) | (simp; omega)) ?_)
                        refine callG_X (by first | rfl | (simp only [go_sem]; done) | (simp only [closedL, closedT, Bool.and_true]; exact closedL_map _ (fun _ => by first | rfl | (simp only [go_sem]; done)) _)) (F28_ok m4 ([], [], [], [], [(([99, 111, 110, 110, 101, 99, 116, 105, 111, 110] : List UInt8), ([97, 44, 32, 67, 108, 111, 115, 101] : List UInt8))], []) _ h18) (by repeat (first | exact leL_refl _ | refine leL_cons (by first | exact leT_refl _ | exact leT_virt | exact leT_junk _ | exact leT_sl | exact leT_sln | exact leT_nil | (refine leT_agg (by repeat (first | exact leL_refl _ | refine leL_cons (by first | exact leT_refl _ | exact leT_sl | exact leT_sln | exact leT_nil) ?_)))) ?_)) ?_
                        try simp -implicitDefEqProofs (maxSteps := 4000000) (disch := first | omega | decide | (simp only [go_sem]; omega)) only [go_sem, ↓reduceIte]
                        repeat (with_reducible refine And.intro (by first | assumption | omega | (simp; done) | (simp; omega)) ?_)
                        refine toEnd hC ?_
                        refine endX_seq ?_
                        refine runX_ret ?_
                        refine endX_blkR ?_
                        refine endX_seqR ?_
                        refine endX_q (roundQ_ret ?_)
                        refine endX_blkR ?_
                        refine endX_seqR ?_
                        refine endX_blkR ?_
                        refine endX_seqR ?_
                        refine endX_q (roundQ_ret ?_)
                        refine endX_blkR ?_
                        refine endX_seqR ?_
                        refine endX_q ?_
                        obtain rfl := Option.some.inj h
                        show RetW _ _ _ _ _
                        simp only [RetW]
                        (try simp -implicitDefEqProofs (maxSteps := 4000000) (disch := first | omega | decide | (simp only [go_sem]; omega)) only [go_sem, ↓reduceIte])
                        (try simp (disch := omega) only [if_pos, Nat.sub_zero])
                        exact leT_refl _
                      · refine runX_condF rfl c17 ?_
                        refine runX_skip ?_
                        refine endX_blk ?_
                        refine endX_seq ?_
                        refine runX_regionC fun C hC => ?_
                        try simp -implicitDefEqProofs (maxSteps := 4000000) (disch := first | omega | decide | (simp only [go_sem]; omega)) only [go_sem, ↓reduceIte]
                        repeat (with_reducible refine And.intro (by first | assumption | omega | (simp; done) | (simp; omega)) ?_)
                        refine toEnd hC ?_
                        refine endX_q (roundQ_normal ⟨m4, by omega, F7_S4 x3 x4 x5 x10 (IntKind.wrap .i64 (x11 + (1 : Int))), ?_, (IntKind.wrap .i64 (x11 + (1 : Int))), rfl, by omega, h⟩)
                        simp only [F7_S4]
                        (try simp -implicitDefEqProofs (maxSteps := 4000000) (disch := first | omega | decide | (simp only [go_sem]; omega)) only [go_sem, ↓reduceIte])
                        first | exact leS_refl _ | (refine leS_le ?_ ?_ <;> first | exact leL_refl _ | exact leOs_refl _ | (simp only [List.append_assoc, List.cons_append, List.nil_append]; exact leOs_refl _) | (repeat (first | exact leL_refl _ | refine leL_cons (by first | exact leT_refl _ | exact leT_virt | exact leT_junk _ | exact leT_sl | exact leT_sln | exact leT_nil | (refine leT_agg (by repeat (first | exact leL_refl _ | refine leL_cons (by first | exact leT_refl _ | exact leT_sl | exact leT_sln | exact leT_nil) ?_)))) ?_)))
                  · refine runX_condF rfl c12 ?_
                    refine runX_exit ?_
                    refine endX_seqE ?_
                    refine endX_q (roundQ_exit ?_)
                    refine endX_blkE ?_
                    refine endX_seq ?_
                    refine runX_regionC fun C hC => ?_
                    obtain ⟨g19, h⟩ := grd_some h
                    obtain ⟨g20, h⟩ := grd_some h
                    try simp -implicitDefEqProofs (maxSteps := 4000000) (disch := first | omega | decide | (simp only [go_sem]; omega)) only [go_sem, ↓reduceIte]
                    repeat (with_reducible refine And.intro (by first | assumption | omega | (simp; done) | (simp; omega)) ?_)
                    refine toEnd hC ?_
                    refine endX_blk ?_
                    refine endX_seq ?_
                    refine runX_regionC fun C hC => ?_
                    try simp -implicitDefEqProofs (maxSteps := 4000000) (disch := first | omega | decide | (simp only [go_sem]; omega)) only [go_sem, ↓reduceIte]
                    repeat (with_reducible refine And.intro (by first | assumption | omega | (simp; done) | (simp; omega)) ?_)
                    refine toEnd hC ?_
                    refine endX_q (roundQ_normal ⟨m4, by omega, F7_S2 x3 ((x4 ++ x10) ++ ([44] : List UInt8)) (IntKind.wrap .i64 (x5 + (1 : Int))), ?_, ((x4 ++ x10) ++ ([44] : List UInt8)), (IntKind.wrap .i64 (x5 + (1 : Int))), rfl, by omega, h⟩)
                    simp only [F7_S2]
                    (try simp -implicitDefEqProofs (maxSteps := 4000000) (disch := first | omega | decide | (simp only [go_sem]; omega)) only [go_sem, ↓reduceIte])
                    first | exact leS_refl _ | (refine leS_le ?_ ?_ <;> first | exact leL_refl _ | exact leOs_refl _ | (simp only [List.append_assoc, List.cons_append, List.nil_append]; exact leOs_refl _) | (repeat (first | exact leL_refl _ | refine leL_cons (by first | exact leT_refl _ | exact leT_virt | exact leT_junk _ | exact leT_sl | exact leT_sln | exact leT_nil | (refine leT_agg (by repeat (first | exact leL_refl _ | refine leL_cons (by first | exact leT_refl _ | exact leT_sl | exact leT_sln | exact leT_nil) ?_)))) ?_)))
          · refine runX_condF rfl c6 ?_
            refine runX_exit ?_
            refine endX_seqE ?_
            refine endX_q (roundQ_exit ?_)
            refine endX_blkE ?_
            refine endX_seq ?_
            refine runX_seq ?_
            refine runX_regionC fun C hC => ?_
            try simp -implicitDefEqProofs (maxSteps := 4000000) (disch := first | omega | decide | (simp only [go_sem]; omega)) only [go_sem, ↓reduceIte]
            repeat (with_reducible refine And.intro (by first | assumption | omega | (simp; done) | (simp; omega)) ?_)
            refine bldG_of [.imm (.string (bs ([67, 111, 110, 110, 101, 99, 116, 105, 111, 110] : List UInt8))), .imm (.string (bs x4))] (by kernel_rfl) ?_
            try simp -implicitDefEqProofs (maxSteps := 4000000) (disch := first | omega | decide | (simp only [go_sem]; omega)) only [go_sem, ↓reduceIte]
            repeat (with_reducible refine And.intro (by first | assumption | omega | (simp; done) | (simp; omega)) ?_)
            refine bs_go <| buildX_val ?_
            try simp -implicitDefEqProofs (maxSteps := 4000000) (disch := first | omega | decide | (simp only [go_sem]; omega)) only [go_sem, ↓reduceIte]
            repeat (with_reducible refine And.intro (by first | assumption | omega | (simp; done) | (simp; omega)) ?_)
            refine bldG_of [.imm (.string (bs [])), .imm (.string (bs [])), .imm (.string (bs [])), .sl 0 true [], .sl 2 true (List.map eT43 ([(([67, 111, 110, 110, 101, 99, 116, 105, 111, 110] : List UInt8), x4)])), .sl 0 true []] (by kernel_rfl) ?_
            try simp -implicitDefEqProofs (maxSteps := 4000000) (disch := first | omega | decide | (simp only [go_sem]; omega)) only [go_sem, ↓reduceIte]
            repeat (with_reducible refine And.intro (by first | assumption | omega | (simp; done) | (simp; omega)) ?_)
            refine toEnd hC ?_
            refine endX_seq ?_
            refine runX_seq ?_
            refine runX_seq ?_
            refine runX_regionC fun C hC => ?_
            obtain ⟨v21, h21, h⟩ := bnd_some h
            try simp -implicitDefEqProofs (maxSteps := 4000000) (disch := first | omega | decide | (simp only [go_sem]; omega)) only [go_sem, ↓reduceIte]
            repeat (with_reducible refine And.intro (by first | assumption | omega | (simp; done) | (simp; omega)) ?_)
            refine callG_X (by first | rfl | (simp only [go_sem]; done) | (simp only [closedL, closedT, Bool.and_true]; exact closedL_map _ (fun _ => by first | rfl | (simp only [go_sem]; done)) _)) (F28_ok m2 ([], [], [], [], [(([67, 111, 110, 110, 101, 99, 116, 105, 111, 110] : List UInt8), x4)], []) _ h21) (by repeat (first | exact leL_refl _ | refine leL_cons (by first | exact leT_refl _ | exact leT_virt | exact leT_junk _ | exact leT_sl | exact leT_sln | exact leT_nil | (refine leT_agg (by repeat (first | exact leL_refl _ | refine leL_cons (by first | exact leT_refl _ | exact leT_sl | exact leT_sln | exact leT_nil) ?_)))) ?_)) ?_
            try simp -implicitDefEqProofs (maxSteps := 4000000) (disch := first | omega | decide | (simp only [go_sem]; omega)) only [go_sem, ↓reduceIte]
            repeat (with_reducible refine And.intro (by first | assumption | omega | (simp; done) | (simp; omega)) ?_)
            refine toEnd hC ?_
            refine endX_seq ?_
            rcases iteB_some h with ⟨c22, h⟩ | ⟨c22, h⟩
            · refine runX_condT rfl c22 ?_
              refine runX_seq ?_
              refine runX_regionC fun C hC => ?_
              try simp -implicitDefEqProofs (maxSteps := 4000000) (disch := first | omega | decide | (simp only [go_sem]; omega)) only [go_sem, ↓reduceIte]
              repeat (with_reducible refine And.intro (by first | assumption | omega | (simp; done) | (simp; omega)) ?_)
              refine toEnd hC ?_
              refine endX_seq ?_
              refine runX_ret ?_
              refine endX_seqR ?_
              refine endX_q ?_
              obtain rfl := Option.some.inj h
              show RetW _ _ _ _ _
              simp only [RetW]
              (try simp -implicitDefEqProofs (maxSteps := 4000000) (disch := first | omega | decide | (simp only [go_sem]; omega)) only [go_sem, ↓reduceIte])
              (try simp (disch := omega) only [if_pos, Nat.sub_zero])
              exact leT_refl _
            · refine runX_condF rfl c22 ?_
              refine runX_skip ?_
              refine endX_seq ?_
              refine runX_seq ?_
              refine runX_regionC fun C hC => ?_
              try simp -implicitDefEqProofs (maxSteps := 4000000) (disch := first | omega | decide | (simp only [go_sem]; omega)) only [go_sem, ↓reduceIte]
              repeat (with_reducible refine And.intro (by first | assumption | omega | (simp; done) | (simp; omega)) ?_)
              refine bldG_of [.imm (.string (bs ([99, 111, 110, 110, 101, 99, 116, 105, 111, 110] : List UInt8))), .imm (.string (bs ([67, 76, 79, 83, 69] : List UInt8)))] (by kernel_rfl) ?_
              try simp -implicitDefEqProofs (maxSteps := 4000000) (disch := first | omega | decide | (simp only [go_sem]; omega)) only [go_sem, ↓reduceIte]
              repeat (with_reducible refine And.intro (by first | assumption | omega | (simp; done) | (simp; omega)) ?_)
              refine bs_go <| buildX_val ?_
              obtain ⟨g23, h⟩ := grd_some h
              try simp -implicitDefEqProofs (maxSteps := 4000000) (disch := first | omega | decide | (simp only [go_sem]; omega)) only [go_sem, ↓reduceIte]
              repeat (with_reducible refine And.intro (by first | assumption | omega | (simp; done) | (simp; omega)) ?_)
              refine toEnd hC ?_
              refine endX_seq ?_
              refine runX_seq ?_
              refine runX_regionC fun C hC => ?_
              obtain ⟨v24, h24, h⟩ := bnd_some h
              try simp -implicitDefEqProofs (maxSteps := 4000000) (disch := first | omega | decide | (simp only [go_sem]; omega)) only [go_sem, ↓reduceIte]
              repeat (with_reducible refine And.intro (by first | assumption | omega | (simp; done) | (simp; omega)) ?_)
              refine callG_X (by first | rfl | (simp only [go_sem]; done) | (simp only [closedL, closedT, Bool.and_true]; exact closedL_map _ (fun _ => by first | rfl | (simp only [go_sem]; done)) _)) (F28_ok m2 ([], [], [], [], (([(([67, 111, 110, 110, 101, 99, 116, 105, 111, 110] : List UInt8), x4)]) ++ ([(([99, 111, 110, 110, 101, 99, 116, 105, 111, 110] : List UInt8), ([67, 76, 79, 83, 69] : List UInt8))])), []) _ h24) (by repeat (first | exact leL_refl _ | refine leL_cons (by first | exact leT_refl _ | exact leT_virt | exact leT_junk _ | exact leT_sl | exact leT_sln | exact leT_nil | (refine leT_agg (by repeat (first | exact leL_refl _ | refine leL_cons (by first | exact leT_refl _ | exact leT_sl | exact leT_sln | exact leT_nil) ?_)))) ?_)) ?_
              try simp -implicitDefEqProofs (maxSteps := 4000000) (disch := first | omega | decide | (simp only [go_sem]; omega)) only [go_sem, ↓reduceIte]
              repeat (with_reducible refine And.intro (by first | assumption | omega | (simp; done) | (simp; omega)) ?_)
              rcases iteB_some h with ⟨c25, h⟩ | ⟨c25, h⟩
              · refine guardK_T c25 ?_
                try simp -implicitDefEqProofs (maxSteps := 4000000) (disch := first | omega | decide | (simp only [go_sem]; omega)) only [go_sem, ↓reduceIte]
                repeat (with_reducible refine And.intro (by first | assumption | omega | (simp; done) | (simp; omega)) ?_)
                refine bldG_of [.imm (.string (bs [])), .imm (.string (bs [])), .imm (.string (bs [])), .sl 0 true [], .sl 0 true [], .sl 0 true []] (by kernel_rfl) ?_
                obtain ⟨v26, h26, h⟩ := bnd_some h
                try simp -implicitDefEqProofs (maxSteps := 4000000) (disch := first | omega | decide | (simp only [go_sem]; omega)) only [go_sem, ↓reduceIte]
                repeat (with_reducible refine And.intro (by first | assumption | omega | (simp; done) | (simp; omega)) ?_)
                refine callG_X (by first | rfl | (simp only [go_sem]; done) | (simp only [closedL, closedT, Bool.and_true]; exact closedL_map _ (fun _ => by first | rfl | (simp only [go_sem]; done)) _)) (F28_ok m2 ([], [], [], [], [], []) _ h26) (by repeat (first | exact leL_refl _ | refine leL_cons (by first | exact leT_refl _ | exact leT_virt | exact leT_junk _ | exact leT_sl | exact leT_sln | exact leT_nil | (refine leT_agg (by repeat (first | exact leL_refl _ | refine leL_cons (by first | exact leT_refl _ | exact leT_sl | exact leT_sln | exact leT_nil) ?_)))) ?_)) ?_
                try simp -implicitDefEqProofs (maxSteps := 4000000) (disch := first | omega | decide | (simp only [go_sem]; omega)) only [go_sem, ↓reduceIte]
                repeat (with_reducible refine And.intro (by first | assumption | omega | (simp; done) | (simp; omega)) ?_)
                refine toEnd hC ?_
                refine endX_seq ?_
                refine runX_ret ?_
                refine endX_q ?_
                obtain rfl := Option.some.inj h
                show RetW _ _ _ _ _
                simp only [RetW]
                (try simp -implicitDefEqProofs (maxSteps := 4000000) (disch := first | omega | decide | (simp only [go_sem]; omega)) only [go_sem, ↓reduceIte])
                (try simp (disch := omega) only [if_pos, Nat.sub_zero])
                exact leT_refl _
              · refine guardK_F c25 ?_
                try simp -implicitDefEqProofs (maxSteps := 4000000) (disch := first | omega | decide | (simp only [go_sem]; omega)) only [go_sem, ↓reduceIte]
                repeat (with_reducible refine And.intro (by first | assumption | omega | (simp; done) | (simp; omega)) ?_)
                refine toEnd hC ?_
                refine endX_seq ?_
                refine runX_ret ?_
                refine endX_q ?_
                obtain rfl := Option.some.inj h
                show RetW _ _ _ _ _
                simp only [RetW]
                (try simp -implicitDefEqProofs (maxSteps := 4000000) (disch := first | omega | decide | (simp only [go_sem]; omega)) only [go_sem, ↓reduceIte])
                (try simp (disch := omega) only [if_pos, Nat.sub_zero])
                exact leT_refl _
end Go.Proofs.YtbdkofondpalpaaDoorX

/- Shapes of arguments, as plain values. Of no program. -/
set_option linter.unusedVariables false
namespace Go.Proofs.YtbdkofondpalpaaDoorX
open Go Go.RowKit
theorem RepR.le {E : Env} {sz : Nat} : ∀ {l l' : List T} {c : List Value}, l.length = l'.length → (∀ i, leT anyE (l.getD i .junk) (l'.getD i .junk)) → RepR E sz l c → RepR E sz l' c
  | [], [], c, _, _, h => h
  | x :: l, y :: l', c, hl, hi, h => by
    simp only [RepR] at h ⊢
    obtain ⟨u, c', h1, h2, h3, h4⟩ := h
    exact ⟨u, c', h1, h2, by simpa using hi 0 E true u trivial (by simpa using h3), RepR.le (by simpa using hl) (fun i => by simpa using hi (i + 1)) h4⟩
  | [], _ :: _, c, hl, _, _ => by simp at hl
  | _ :: _, [], c, hl, _, _ => by simp at hl
theorem leT_slE {sz : Nat} {f : Bool} {l l' : List T} (hl : l.length = l'.length) (h : ∀ i, leT anyE (l.getD i .junk) (l'.getD i .junk)) : leT anyE (.sl sz f l) (.sl sz false l') := fun E cl v hp k => by
  simp only [Rep] at k ⊢
  obtain ⟨a, cap, c, h1, h2, h3, h4, h5⟩ := k
  exact ⟨a, cap, c, by rw [h1, hl], by rw [← hl]; exact h2, (fun h => by cases h), RepR.le hl h h4, h5⟩
theorem elems_shape {α : Type} (enc : α → T) (ok : α → Prop) : ∀ (l : List T), (∀ y ∈ l, ∃ v, leT anyE y (enc v) ∧ ok v) → ∃ vs : List α, vs.length = l.length ∧ (∀ i, leT anyE (l.getD i .junk) ((vs.map enc).getD i .junk)) ∧ ∀ v ∈ vs, ok v
  | [], _ => ⟨[], rfl, fun i => by simp [leT_refl], fun v hv => by simp at hv⟩
  | y :: l, h => by
    obtain ⟨v, h1, h2⟩ := h y (by simp)
    obtain ⟨vs, h3, h4, h5⟩ := elems_shape enc ok l fun z hz => h z (by simp [hz])
    refine ⟨v :: vs, by simp [h3], fun i => ?_, fun w hw => ?_⟩
    · cases i with
      | zero => simpa using h1
      | succ i => simpa using h4 i
    · rcases List.mem_cons.1 hw with rfl | hw
      · exact h2
      · exact h5 w hw
theorem sl_shape {α : Type} (enc : α → T) (ok : α → Prop) (l : List T) (h : ∀ y ∈ l, ∃ v, leT anyE y (enc v) ∧ ok v) {sz : Nat} {f : Bool} : ∃ vs : List α, leT anyE (.sl sz f l) (.sl sz false (vs.map enc)) ∧ vs.length = l.length ∧ ∀ v ∈ vs, ok v := by
  obtain ⟨vs, h1, h2, h3⟩ := elems_shape enc ok l h
  exact ⟨vs, leT_slE (by simp [h1]) h2, h1, h3⟩
theorem arr_shape {α : Type} (enc : α → T) (ok : α → Prop) : ∀ (l : List T), (∀ y ∈ l, ∃ v, y = enc v ∧ T.cells y = [y] ∧ ok v) → ∃ vs : List α, l.flatMap T.cells = vs.map enc ∧ vs.length = l.length ∧ ∀ v ∈ vs, ok v
  | [], _ => ⟨[], rfl, rfl, fun v hv => by simp at hv⟩
  | y :: l, h => by
    obtain ⟨v, rfl, hc, h2⟩ := h y (by simp)
    obtain ⟨vs, h3, h4, h5⟩ := arr_shape enc ok l fun z hz => h z (by simp [hz])
    refine ⟨v :: vs, by rw [List.flatMap_cons, hc, h3]; rfl, by simp [h4], fun w hw => ?_⟩
    rcases List.mem_cons.1 hw with rfl | hw
    · exact h2
    · exact h5 w hw
end Go.Proofs.YtbdkofondpalpaaDoorX

set_option linter.unusedVariables false
set_option linter.unusedSimpArgs false
namespace Go.Proofs.YtbdkofondpalpaaDoorX
open Go Go.RowKit Go.Proofs
set_option maxRecDepth 100000
def okT9 (v : List UInt8) : Prop := v.length ≤ 9223372036854775807
def okT56 (v : List (List UInt8)) : Prop := v.length ≤ 9223372036854775807 ∧ ∀ y ∈ v, okT9 y
def okT3 (v : Int) : Prop := (-9223372036854775808 : Int) ≤ v ∧ v ≤ 9223372036854775807
theorem shp9 : ∀ (n : Nat) (x : T), ShapeW Tryd.prog n 9 x → ∃ v : List UInt8, x = .imm (.string (bs v)) ∧ okT9 v
  | 0, x, h => h.elim
  | n + 1, x, h => by
    simp only [ShapeW, Tryd.underlying9] at h
    obtain ⟨s, rfl, hs⟩ := h
    exact ⟨s.data.toList, by rw [← of_bs], hs⟩
theorem shp56 : ∀ (n : Nat) (x : T), ShapeW Tryd.prog n 56 x → ∃ (f : Bool) (l : List T) (v : List (List UInt8)), x = .sl 1 f l ∧ leT anyE x (.sl 1 false (List.map eS v)) ∧ okT56 v
  | 0, x, h => h.elim
  | n + 1, x, h => by
    simp only [ShapeW, Tryd.underlying56] at h
    obtain ⟨f, l, rfl, hl, he⟩ := h
    rw [cz9]
    obtain ⟨v, h1, h2, h3⟩ := sl_shape eS okT9 l fun y hy => (by
      obtain ⟨v, hv, hk⟩ := shp9 n y (he y hy)
      exact ⟨v, leT_of hv, hk⟩)
    exact ⟨f, l, v, rfl, h1, by rw [h2]; exact hl, h3⟩
theorem shp3 : ∀ (n : Nat) (x : T), ShapeW Tryd.prog n 3 x → ∃ v : Int, x = .imm (.int .i64 v) ∧ okT3 v
  | 0, x, h => h.elim
  | n + 1, x, h => by
    simp only [ShapeW, Tryd.underlying3] at h
    obtain ⟨i, rfl, hi⟩ := h
    exact ⟨i, rfl, wf_of hi⟩
theorem shapedRequestCloses (main : ∀ (v0 : List (List UInt8)) (v1 : Int), okT56 v0 → okT3 v1 → ∃ n, F7 n v0 v1 = some true) (xs : List T) (h : ShapesW Tryd.prog [56, 3] xs) : FnC Tryd.prog 7 xs (tb true) := by
  obtain ⟨x0, xs0, rfl, ⟨n0, h0⟩, x1, xs1, rfl, ⟨n1, h1⟩, rfl⟩ := h
  obtain ⟨_, _, v0, _, e0, k0⟩ := shp56 _ _ h0
  obtain ⟨v1, rfl, k1⟩ := shp3 _ _ h1
  obtain ⟨N, hN⟩ := main v0 v1 k0 k1
  exact (F7_ok N v0 v1 true hN).le (leL_cons (e0) (leL_cons (leT_refl _) (leL_nil))) (leT_refl _)

end Go.Proofs.YtbdkofondpalpaaDoorX

/- Plain functions with fuel: what they come to. Of no program. -/
set_option linter.unusedVariables false
set_option linter.unusedSimpArgs false
namespace Go.Proofs.YtbdkofondpalpaaDoorX
open Go

/-- With fuel enough the answer is this. -/
def Ev {α : Type} (f : Nat → Option α) (r : α) : Prop := ∃ N, ∀ n, N ≤ n → f n = some r
theorem Ev.pure {α : Type} {r : α} : Ev (fun _ => some r) r := ⟨0, fun _ _ => rfl⟩
theorem Ev.const {α : Type} {x : Option α} {r : α} (h : x = some r) : Ev (fun _ => x) r := ⟨0, fun _ _ => h⟩
theorem Ev.bind {α β : Type} {f : Nat → Option α} {g : Nat → α → Option β} {v : α} {r : β} (h : Ev f v) (h' : Ev (fun n => g n v) r) : Ev (fun n => (f n).bind (g n)) r := by
  obtain ⟨N, h⟩ := h
  obtain ⟨M, h'⟩ := h'
  exact ⟨max N M, fun n hn => by show (f n).bind (g n) = _; rw [h n (by omega)]; exact h' n (by omega)⟩
theorem Ev.step {α : Type} {f : Nat → Option α} {r : α} (h : Ev (fun n => f (n + 1)) r) : Ev f r := by
  obtain ⟨N, h⟩ := h
  refine ⟨N + 1, fun n hn => ?_⟩
  obtain ⟨m, rfl⟩ : ∃ m, n = m + 1 := ⟨n - 1, by omega⟩
  exact h m (by omega)
theorem Ev.congr {α : Type} {f g : Nat → Option α} {r : α} (h : Ev g r) (e : ∀ n, f n = g n) : Ev f r := by
  obtain ⟨N, h⟩ := h
  exact ⟨N, fun n hn => (e n).trans (h n hn)⟩
theorem Ev.grd {α : Type} {p : Prop} [Decidable p] {f : Nat → Option α} {r : α} (hp : p) (h : Ev f r) : Ev (fun n => grd p (f n)) r := h.congr fun n => if_pos hp
theorem Ev.ofT {α : Type} {b : Bool} {f g : Nat → Option α} {r : α} (hb : b = true) (h : Ev f r) : Ev (fun n => iteB b (f n) (g n)) r := h.congr fun n => by rw [hb]; rfl
theorem Ev.ofF {α : Type} {b : Bool} {f g : Nat → Option α} {r : α} (hb : b = false) (h : Ev g r) : Ev (fun n => iteB b (f n) (g n)) r := h.congr fun n => by rw [hb]; rfl
theorem Ev.ite {α : Type} {b : Bool} {f g : Nat → Option α} {r : α} (h1 : b = true → Ev f r) (h2 : b = false → Ev g r) : Ev (fun n => iteB b (f n) (g n)) r := by
  cases hb : b with
  | true => exact (h1 hb).congr fun n => rfl
  | false => exact (h2 hb).congr fun n => rfl
theorem iteB_t {α : Type} (x y : Option α) : iteB true x y = x := rfl
theorem iteB_f {α : Type} (x y : Option α) : iteB false x y = y := rfl
theorem grd_t {α : Type} {p : Prop} [Decidable p] (x : Option α) (h : p) : grd p x = x := if_pos h
theorem grd_True {α : Type} [Decidable True] (x : Option α) : grd True x = x := if_pos trivial
theorem bind_some' {α β : Type} (v : α) (g : α → Option β) : (some v).bind g = g v := rfl
theorem w64 {n : Int} (h : -9223372036854775808 ≤ n ∧ n ≤ 9223372036854775807) : IntKind.wrap .i64 n = n := Go.IntWalk.i64_in _ h
theorem w32 {n : Int} (h : -2147483648 ≤ n ∧ n ≤ 2147483647) : IntKind.wrap .i32 n = n := Go.IntWalk.i32_in _ h
theorem wu8 {n : Int} (h : 0 ≤ n ∧ n ≤ 255) : IntKind.wrap .u8 n = n := Go.IntWalk.u8_in _ h
theorem wu32 {n : Int} (h : 0 ≤ n ∧ n ≤ 4294967295) : IntKind.wrap .u32 n = n := Go.IntWalk.u32_in _ h
theorem wu64 {n : Int} (h : 0 ≤ n ∧ n ≤ 18446744073709551615) : IntKind.wrap .u64 n = n := Go.IntWalk.u64_in _ h
/-- Bytes as numbers. -/
theorem u8_beq (a b : UInt8) : ((a.toNat : Int) == (b.toNat : Int)) = (a == b) := by
  rw [Bool.eq_iff_iff, beq_iff_eq, beq_iff_eq]
  exact ⟨fun h => UInt8.toNat_inj.1 (by omega), fun h => by rw [h]⟩
theorem u8_lit (a : UInt8) (k : Nat) (hk : k < 256) : ((a.toNat : Int) == ((k : Nat) : Int)) = (a == UInt8.ofNat k) := by
  rw [Bool.eq_iff_iff, beq_iff_eq, beq_iff_eq]
  constructor
  · intro h
    apply UInt8.toNat_inj.1
    rw [UInt8.toNat_ofNat']
    omega
  · intro h
    subst h
    rw [UInt8.toNat_ofNat']
    omega
theorem u8_lt (a : UInt8) : (0 : Int) ≤ (a.toNat : Int) ∧ (a.toNat : Int) ≤ 255 := by
  have := a.toNat_lt; omega
theorem drop_cons {α : Type} (l : List α) (i : Nat) (d : α) (h : i < l.length) : l.drop i = l.getD i d :: l.drop (i + 1) := by
  rw [List.drop_eq_getElem_cons h, List.getD_eq_getElem?_getD, List.getElem?_eq_getElem h]; rfl
theorem toNat_nat (n : Nat) : ((n : Int)).toNat = n := rfl
end Go.Proofs.YtbdkofondpalpaaDoorX

/- Bytes as numbers. Of no program. -/
set_option linter.unusedVariables false
set_option linter.unusedSimpArgs false
namespace Go.Proofs.YtbdkofondpalpaaDoorX
open Go

def Bytes (l : List Int) : Prop := ∀ x ∈ l, 0 ≤ x ∧ x ≤ 255
theorem Bytes.nil : Bytes [] := by intro x hx; cases hx
theorem Bytes.cons {a : Int} {r : List Int} (h : 0 ≤ a ∧ a ≤ 255) (hr : Bytes r) : Bytes (a :: r) := by
  intro x hx
  rcases List.mem_cons.1 hx with rfl | hx
  · exact h
  · exact hr x hx
theorem Bytes.head {a : Int} {r : List Int} (h : Bytes (a :: r)) : 0 ≤ a ∧ a ≤ 255 := h a (by simp)
theorem Bytes.tail {a : Int} {r : List Int} (h : Bytes (a :: r)) : Bytes r := fun x hx => h x (by simp [hx])
theorem Bytes.drop {l : List Int} (h : Bytes l) (n : Nat) : Bytes (l.drop n) := fun x hx => h x (List.mem_of_mem_drop hx)
theorem Bytes.append {l r : List Int} (h : Bytes l) (h' : Bytes r) : Bytes (l ++ r) := fun x hx => by
  rcases List.mem_append.1 hx with hx | hx
  · exact h x hx
  · exact h' x hx
def bt (s : List UInt8) (i : Nat) : Int := ((s.getD i 0).toNat : Int)
def ints (s : List UInt8) : List Int := s.map ofB
theorem ints_len (s : List UInt8) : (ints s).length = s.length := by simp [ints]
theorem ints_bytes (s : List UInt8) : Bytes (ints s) := by
  intro x hx
  unfold ints at hx
  obtain ⟨c, _, rfl⟩ := List.mem_map.1 hx
  exact u8_lt c
theorem ints_drop (s : List UInt8) (i : Nat) : ints (s.drop i) = (ints s).drop i := by simp [ints, List.map_drop]
theorem ints_take (s : List UInt8) (i : Nat) : ints (s.take i) = (ints s).take i := by simp [ints, List.map_take]
theorem bt_bd (s : List UInt8) (i : Nat) : 0 ≤ bt s i ∧ bt s i ≤ 255 := u8_lt _
theorem ints_get (s : List UInt8) (i : Nat) : (ints s).getD i 0 = bt s i := by
  unfold ints bt
  rw [List.getD_eq_getElem?_getD, List.getElem?_map, List.getD_eq_getElem?_getD]
  cases s[i]? <;> rfl
theorem drop_bt (s : List UInt8) (i : Nat) (h : i < s.length) : (ints s).drop i = bt s i :: (ints s).drop (i + 1) := by
  rw [drop_cons (ints s) i 0 (by rw [ints_len]; exact h), ints_get]
theorem ofB_toB {x : Int} (h : 0 ≤ x ∧ x ≤ 255) : ofB (toB x) = x := by
  unfold ofB toB
  rw [UInt8.toNat_ofNat']
  omega
theorem map_toB_eq {l : List Int} (hl : Bytes l) (t : List UInt8) : (l.map toB == t) = decide (l = ints t) := by
  rw [Bool.eq_iff_iff, beq_iff_eq, decide_eq_true_eq]
  constructor
  · rintro rfl
    unfold ints
    rw [List.map_map]
    conv => lhs; rw [← List.map_id l]
    exact List.map_congr_left fun x hx => (ofB_toB (hl x hx)).symm
  · rintro rfl
    unfold ints
    rw [List.map_map]
    conv => rhs; rw [← List.map_id t]
    refine List.map_congr_left fun x _ => ?_
    show UInt8.ofNat ((x.toNat : Int)).toNat = x
    rw [toNat_nat]; simp
theorem ints_cons (s : List UInt8) (h : s.length ≠ 0) : ∃ a r, ints s = a :: r := by
  cases hb : ints s with
  | nil => have := ints_len s; rw [hb] at this; simp at this; omega
  | cons a r => exact ⟨a, r, rfl⟩
theorem of_ints {s : List UInt8} {l : List Int} (h : ints s = l) : s = l.map toB := by
  have hb : Bytes l := h ▸ ints_bytes s
  have := map_toB_eq hb s
  rw [h, decide_eq_true rfl] at this
  exact (beq_iff_eq.1 this).symm
theorem ints_toB {l : List Int} (h : Bytes l) : ints (l.map toB) = l := by
  have := map_toB_eq h (l.map toB)
  rw [beq_self_eq_true] at this
  exact (of_decide_eq_true this.symm).symm
theorem toB_inj : ∀ {a b : List Int}, Bytes a → Bytes b → a.map toB = b.map toB → a = b := fun ha hb h => by
  have := congrArg ints h
  rwa [ints_toB ha, ints_toB hb] at this
theorem bq {a b : Int} (h : ¬ a = b) : (a == b) = false := beq_eq_false_iff_ne.2 h
theorem bqt {a b : Int} (h : a = b) : (a == b) = true := by rw [h]; exact beq_self_eq_true b
theorem all_bytes {l : List Int} (h : Bytes l) : (l.all fun x => decide (0 ≤ x) && decide (x < 256)) = true := by
  rw [List.all_eq_true]
  intro x hx
  have := h x hx
  simp only [Bool.and_eq_true, decide_eq_true_eq]
  omega
theorem bs_bool {p : Prop} [Decidable p] {b : Bool} (h : (b = true) ↔ p) : b = decide p := by
  cases b with
  | true => exact (decide_eq_true (h.1 rfl)).symm
  | false => exact (decide_eq_false (fun e => by cases h.2 e)).symm
theorem g64 (i : Nat) (h : i ≤ 1000000000) : IntKind.wrap .i64 ((i : Int) + 1) = ((i + 1 : Nat) : Int) := by rw [w64 (by omega)]; omega
end Go.Proofs.YtbdkofondpalpaaDoorX

/- Fields of a head. -/
set_option linter.unusedVariables false
set_option linter.unusedSimpArgs false
namespace Go.Proofs.YtbdkofondpalpaaDoorX
open Go

abbrev Fld := List UInt8 × List UInt8
def totF (l : List Fld) : Nat := (l.map fun f => f.1.length + f.2.length).sum
theorem len_name {l : List Fld} {i : Nat} (h : i < l.length) : (l.getD i default).1.length + (l.getD i default).2.length ≤ totF l := by
  induction l generalizing i with
  | nil => simp at h
  | cons f l ih =>
    have e : totF (f :: l) = f.1.length + f.2.length + totF l := by simp [totF]
    cases i with
    | zero => rw [e]; show f.1.length + f.2.length ≤ _; omega
    | succ i => have := ih (i := i) (by simp at h; omega); rw [e]; show (l.getD i default).1.length + (l.getD i default).2.length ≤ _; omega
end Go.Proofs.YtbdkofondpalpaaDoorX

/- Small letters: hex.Lower. -/
set_option linter.unusedVariables false
set_option linter.unusedSimpArgs false
namespace Go.Proofs.YtbdkofondpalpaaDoorX
open Go

def lowI (x : Int) : Int := if kindOf x = 4 then x + 32 else x
/-- A text in small letters. -/
def lowT (s : List UInt8) : List UInt8 := ((ints s).map lowI).map toB
theorem low_wrap {x : Int} (h : kindOf x = 4) : IntKind.wrap .u8 (x + 32) = x + 32 := by
  unfold kindOf at h
  refine wu8 ?_
  repeat' split at h
  all_goals first | omega | (simp at h)
theorem set_low (l : List Int) (i : Nat) (h : i < l.length) : (((l.take i).map lowI) ++ l.drop i).set i (lowI (l.getD i 0)) = ((l.take (i + 1)).map lowI) ++ l.drop (i + 1) := by
  have hl : ((l.take i).map lowI).length = i := by rw [List.length_map, List.length_take]; omega
  rw [List.set_append_right _ _ (by omega), hl, Nat.sub_self, drop_cons l i 0 h, List.set_cons_zero, List.take_add_one, List.map_append, List.append_assoc]
  congr 1
  rw [List.getD_eq_getElem?_getD, List.getElem?_eq_getElem h]
  rfl
theorem low_loop (s : List UInt8) (hs : s.length ≤ 1000000000) : ∀ (d i : Nat), i + d = s.length → Ev (fun n => F52_L1 n s (i : Int) ((((ints s).take i).map lowI) ++ (ints s).drop i)) (lowT s) := by
  intro d
  induction d with
  | zero =>
    intro i hi
    rw [List.take_of_length_le (by rw [ints_len]; omega), List.drop_of_length_le (by rw [ints_len]; omega), List.append_nil]
    refine Ev.step (Ev.pure.congr fun n => ?_)
    rw [F52_L1, decide_eq_false (by omega), iteB_f]; rfl
  | succ d ih =>
    intro i hi
    have hlen : ((((ints s).take i).map lowI) ++ (ints s).drop i).length = s.length := by simp [ints_len]; omega
    have hti : (((ints s).take i).map lowI).length = i := by rw [List.length_map, List.length_take, ints_len]; omega
    have hget : ((((ints s).take i).map lowI) ++ (ints s).drop i).getD i default = bt s i := by
      rw [List.getD_eq_getElem?_getD, List.getElem?_append_right (by omega), hti, Nat.sub_self, drop_bt s i (by omega)]; rfl
    have hset := set_low (ints s) i (by rw [ints_len]; omega)
    rw [ints_get] at hset
    refine Ev.step ((ih (i + 1) (by omega)).congr fun n => ?_)
    rw [F52_L1, decide_eq_true (by omega), iteB_t, toNat_nat, g64 i (by omega), hget, hlen]
    simp only [grd_t _ (show 0 ≤ (i : Int) ∧ (i : Int) < (s.length : Int) by omega), grd_t _ (show i < s.length by omega)]
    rw [show F43 n (bt s i) = some (kindOf (bt s i)) from rfl, bind_some', ← hset]
    by_cases h4 : kindOf (bt s i) = 4
    · rw [show (kindOf (bt s i) == 4) = true by rw [h4]; rfl, iteB_t, low_wrap h4, show lowI (bt s i) = bt s i + 32 from if_pos h4]
    · rw [show (kindOf (bt s i) == 4) = false from bq h4, iteB_f, show lowI (bt s i) = bt s i from if_neg h4]
      have hg : ((((ints s).take i).map lowI) ++ (ints s).drop i)[i]? = some (bt s i) := by
        rw [List.getElem?_append_right (by omega), hti, Nat.sub_self, drop_bt s i (by omega)]; rfl
      have he : ((((ints s).take i).map lowI) ++ (ints s).drop i).set i (bt s i) = (((ints s).take i).map lowI) ++ (ints s).drop i := by
        refine List.ext_getElem? fun j => ?_
        rw [List.getElem?_set]
        split
        · rename_i hij
          subst hij
          rw [hg, if_pos (by omega)]
        · rfl
      rw [he]
theorem ev_Lower (s : List UInt8) (hs : s.length ≤ 1000000000) : Ev (fun n => F52 n s) (lowT s) :=
  (low_loop s hs s.length 0 (by omega)).congr fun n => rfl
end Go.Proofs.YtbdkofondpalpaaDoorX

/- Values of a name: header.Get. -/
set_option linter.unusedVariables false
set_option linter.unusedSimpArgs false
namespace Go.Proofs.YtbdkofondpalpaaDoorX
open Go

theorem toB_ints (s : List UInt8) : (ints s).map toB = s := (of_ints rfl).symm
theorem ints_app (a b : List UInt8) : ints (a ++ b) = ints a ++ ints b := by simp [ints]
/-- The values of a name. -/
def valsT (l : List Fld) (name : List UInt8) : List (List UInt8) := (l.filter fun f => lowT f.1 == name).map (·.2)
theorem vals_cons (f : Fld) (l : List Fld) (name : List UInt8) : valsT (f :: l) name = if (lowT f.1 == name) = true then f.2 :: valsT l name else valsT l name := by
  unfold valsT
  rw [List.filter_cons]
  split <;> rfl
def comS : List UInt8 := [44, 32]
def getT (l : List Fld) (name : List UInt8) : List UInt8 := Lib.join (valsT l name) comS
theorem vals_len : ∀ (l : List Fld) (name : List UInt8), (valsT l name).length ≤ l.length ∧ ((valsT l name).map (·.length)).sum ≤ totF l
  | [], name => ⟨Nat.le_refl _, Nat.le_refl _⟩
  | f :: l, name => by
    obtain ⟨h1, h2⟩ := vals_len l name
    have e : totF (f :: l) = f.1.length + f.2.length + totF l := by simp [totF]
    rw [vals_cons]
    split
    · simp only [List.length_cons, List.map_cons, List.sum_cons]; omega
    · simp only [List.length_cons]; omega
theorem join_len : ∀ (xs : List (List UInt8)), (Lib.join xs comS).length ≤ (xs.map (·.length)).sum + 2 * xs.length
  | [] => by simp [Lib.join_nil]
  | x :: r => by
    rw [Lib.join_cons]
    have key : ∀ r : List (List UInt8), (Lib.joinTail comS r).length ≤ (r.map (·.length)).sum + 2 * r.length := by
      intro r
      induction r with
      | nil => simp [Lib.joinTail]
      | cons y r ih =>
        have e : Lib.joinTail comS (y :: r) = (comS ++ y) ++ Lib.joinTail comS r := rfl
        rw [e, List.length_append, List.length_append, show comS.length = 2 from rfl, List.map_cons, List.sum_cons, List.length_cons]; omega
    have := key r
    simp; omega
theorem join_snoc (xs : List (List UInt8)) (v : List UInt8) : Lib.join (xs ++ [v]) comS = if xs.length = 0 then v else Lib.join xs comS ++ comS ++ v := by
  cases xs with
  | nil => simp [Lib.join_one]
  | cons x r =>
    rw [if_neg (by simp), List.cons_append, Lib.join_cons, Lib.join_cons]
    simp [Lib.joinTail, List.append_assoc]
theorem get_len (l : List Fld) (name : List UInt8) : (getT l name).length ≤ totF l + 2 * l.length := by
  obtain ⟨h1, h2⟩ := vals_len l name
  have := join_len (valsT l name)
  unfold getT; omega
theorem vals_loop (name : List UInt8) (l : List Fld) (hl : l.length ≤ 1000) (ht : totF l ≤ 100000) : ∀ (d i : Nat) (x : List (List UInt8)), i + d = l.length → x.length ≤ i →
    Ev (fun n => F84_L1 n name l (i : Int) x) (x ++ valsT (l.drop i) name) := by
  intro d
  induction d with
  | zero =>
    intro i x hi hx
    rw [List.drop_of_length_le (by omega)]
    refine Ev.step (Ev.pure.congr fun n => ?_)
    rw [F84_L1, decide_eq_false (by omega), iteB_f]; simp [valsT]
  | succ d ih =>
    intro i x hi hx
    have hd : l.drop i = l.getD i default :: l.drop (i + 1) := drop_cons l i default (by omega)
    have hln := len_name (l := l) (i := i) (by omega)
    rw [hd, vals_cons]
    generalize hf : l.getD i default = f at hln ⊢
    obtain ⟨N1, e1⟩ := ev_Lower f.1 (by omega)
    by_cases h : (lowT f.1 == name) = true
    · rw [if_pos h]
      obtain ⟨N2, e2⟩ := ih (i + 1) (x ++ [f.2]) (by omega) (by simp; omega)
      rw [List.append_assoc] at e2
      refine Ev.step ⟨N1 + N2, fun n hn => ?_⟩
      have q1 := e1 n (by omega)
      have q2 := e2 n (by omega)
      dsimp only at q1 q2
      show F84_L1 (n + 1) name l (i : Int) x = _
      rw [F84_L1, decide_eq_true (by omega), iteB_t, toNat_nat, hf, g64 i (by omega), grd_t _ (by omega), q1, bind_some', h, iteB_t, grd_t _ (by omega), q2]
      rfl
    · rw [if_neg h]
      obtain ⟨N2, e2⟩ := ih (i + 1) x (by omega) (by omega)
      refine Ev.step ⟨N1 + N2, fun n hn => ?_⟩
      have q1 := e1 n (by omega)
      have q2 := e2 n (by omega)
      dsimp only at q1 q2
      show F84_L1 (n + 1) name l (i : Int) x = _
      rw [F84_L1, decide_eq_true (by omega), iteB_t, toNat_nat, hf, g64 i (by omega), grd_t _ (by omega), q1, bind_some', show (lowT f.1 == name) = false by simpa using h, iteB_f, q2]
theorem ev_values (name : List UInt8) (l : List Fld) (hl : l.length ≤ 1000) (ht : totF l ≤ 100000) : Ev (fun n => F84 n l name) (valsT l name) :=
  (vals_loop name l hl ht l.length 0 [] (by omega) (by simp)).congr fun n => rfl
theorem ev_Get (l : List Fld) (name : List UInt8) (hl : l.length ≤ 1000) (ht : totF l ≤ 100000) : Ev (fun n => F49 n l name) (getT l name, decide ((0 : Int) < ((valsT l name).length : Int))) := by
  obtain ⟨N1, e1⟩ := ev_values name l hl ht
  obtain ⟨h1, h2⟩ := vals_len l name
  have h3 := get_len l name
  refine ⟨N1, fun n hn => ?_⟩
  have q1 := e1 n hn
  dsimp only at q1
  show F49 n l name = _
  rw [F49, q1, bind_some', show F85 n (valsT l name) [44, 32] = some (getT l name) from if_pos ⟨by omega, by show (getT l name).length ≤ _; omega⟩, bind_some']
end Go.Proofs.YtbdkofondpalpaaDoorX

set_option linter.unusedVariables false
set_option linter.unusedSimpArgs false
namespace Go.Proofs.YtbdkofondpalpaaDoorX
open Go Go.RowKit Go.Proofs
set_option maxRecDepth 100000
attribute [local go_sem ↓] stepsK_build stepsK_build0 stepsK_bs stepsK_bs0 appendS
attribute [local go_sem] String.reduceEq String.reduceNe reduceCtorEq Int.reduceEq Nat.reduceAdd Nat.reduceSub Nat.reduceMul Nat.reduceLT Nat.reduceLeDiff Nat.reduceEqDiff Nat.reduceBEq Int.reduceToNat Int.reduceLT Int.reduceLE Int.reduceGT Int.reduceGE Int.reduceAdd Int.reduceSub Int.reduceMul Int.reduceNeg Int.reduceBEq Int.reduceBNe Int.reducePow Int.reduceDiv Int.reduceMod Int.reduceTDiv Int.reduceTMod Int.reduceNatCast
/-! ### shadowboxref30.blank -/
def F79 (n : Nat) (a0 : Int) : Option (Bool) := iteB (a0 == (32 : Int)) (some true) (some (a0 == (9 : Int)))
set_option maxHeartbeats 4000000 in
theorem F79_ok : ∀ (n : Nat) (a0 : Int) (r : Bool), F79 n a0 = some r → FnC Tryd.prog 79 [.imm (.int .u8 a0)] (.imm (.bool r))
  | n, a0, r, h => by
    unfold F79 at h
    refine FnC.goX mixed Tryd.func79 (by kernel_rfl) rfl ?_
    simp only [Tryd.ntmps79, List.length_cons, List.length_nil, List.replicate, List.cons_append, List.nil_append, Nat.reduceAdd, Nat.reduceSub]
    refine runX_seq ?_
    refine runX_regionC fun C hC => ?_
    try simp -implicitDefEqProofs (maxSteps := 4000000) (disch := first | omega | decide | (simp only [go_sem]; omega)) only [go_sem, ↓reduceIte]
    repeat (with_reducible refine And.intro (by first | assumption | omega | (simp; done) | (simp; omega)) ?_)
    refine toEnd hC ?_
    refine endX_seq ?_
    refine runX_seq ?_
    refine runX_regionC fun C hC => ?_
    try simp -implicitDefEqProofs (maxSteps := 4000000) (disch := first | omega | decide | (simp only [go_sem]; omega)) only [go_sem, ↓reduceIte]
    repeat (with_reducible refine And.intro (by first | assumption | omega | (simp; done) | (simp; omega)) ?_)
    rcases iteB_some h with ⟨c1, h⟩ | ⟨c1, h⟩
    · refine guardK_F c1 ?_
      try simp -implicitDefEqProofs (maxSteps := 4000000) (disch := first | omega | decide | (simp only [go_sem]; omega)) only [go_sem, ↓reduceIte]
      repeat (with_reducible refine And.intro (by first | assumption | omega | (simp; done) | (simp; omega)) ?_)
      refine toEnd hC ?_
      refine endX_seq ?_
      refine runX_ret ?_
      refine endX_q ?_
      obtain rfl := Option.some.inj h
      show RetW _ _ _ _ _
      simp only [RetW]
      (try simp -implicitDefEqProofs (maxSteps := 4000000) (disch := first | omega | decide | (simp only [go_sem]; omega)) only [go_sem, ↓reduceIte])
      (try simp (disch := omega) only [if_pos, Nat.sub_zero])
      exact leT_refl _
    · refine guardK_T c1 ?_
      try simp -implicitDefEqProofs (maxSteps := 4000000) (disch := first | omega | decide | (simp only [go_sem]; omega)) only [go_sem, ↓reduceIte]
      repeat (with_reducible refine And.intro (by first | assumption | omega | (simp; done) | (simp; omega)) ?_)
      refine toEnd hC ?_
      refine endX_seq ?_
      refine runX_ret ?_
      refine endX_q ?_
      obtain rfl := Option.some.inj h
      show RetW _ _ _ _ _
      simp only [RetW]
      (try simp -implicitDefEqProofs (maxSteps := 4000000) (disch := first | omega | decide | (simp only [go_sem]; omega)) only [go_sem, ↓reduceIte])
      (try simp (disch := omega) only [if_pos, Nat.sub_zero])
      exact leT_refl _
end Go.Proofs.YtbdkofondpalpaaDoorX
