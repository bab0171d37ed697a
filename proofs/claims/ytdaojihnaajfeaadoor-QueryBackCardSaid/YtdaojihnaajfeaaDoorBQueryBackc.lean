/- Part of the proof of QueryBack: walks and plain words, merged. -/
import Derived.Test.YtdaojihnaajfeaaDoorBQueryBackb
import Derived.Test.YtdaojihnaajfeaaDoorProg
import Derived.KernelRfl
import Derived.Shelf.Strings.Search2
import Derived.Shelf.Lays
import Derived.Shelf.Strings.Replace
import Derived.Shelf.Strings.BuilderX
import Derived.Lib.Bytealg
import Derived.Shelf.SlSortCmp.NoneTotal
import Derived.Shelf.Small.Strs
import Derived.Shelf.SlGeneric
import Derived.Laws.StructEq
import Derived.Lib.Builder
import Derived.Laws.Externs
import Derived.Lib.Strings
import Derived.BigRegion
import Derived.Lib.UnsafeStr
set_option linter.unusedVariables false
set_option linter.unusedSimpArgs false

/- Contracts over rows of the caller's, by a run; and their use. Of no program. -/
set_option linter.unusedVariables false
set_option linter.unusedSimpArgs false
namespace Go.Proofs.YtdaojihnaajfeaaDoorX
open Go Go.RowKit
/-! ### At a function's end -/
def lockFr (n : Nat) : Nat → List (Option Own) → List (Option Own)
  | _, [] => []
  | i, x :: l => (if i < n then x else x.map Own.lockAll) :: lockFr n (i + 1) l
theorem lockFr_get (n : Nat) : ∀ (l : List (Option Own)) (i o : Nat), (lockFr n i l)[o]? = (l[o]?).map fun x => if i + o < n then x else x.map Own.lockAll
  | [], i, o => by simp [lockFr]
  | x :: l, i, o => by
    cases o with
    | zero => simp [lockFr]
    | succ o =>
      have := lockFr_get n l (i + 1) o
      rw [show i + 1 + o = i + (o + 1) by omega] at this
      simpa [lockFr] using this
theorem Sat.lockFr {B : Base} {S : St} {a : Act} {w : World} {μ : Nat → Option Nat} (hS : Sat B S a w μ) (n : Nat) : Sat B ⟨S.tmps, Go.Proofs.YtdaojihnaajfeaaDoorX.lockFr n 0 S.objs⟩ a w μ := by
  refine hS.relock fun i => ?_
  rw [lockFr_get, Nat.zero_add]
  cases h : S.objs[i]? with
  | none => exact .none
  | some x =>
    rw [Option.map_some]
    by_cases hi : i < n
    · rw [if_pos hi]; exact RL.refl _
    · rw [if_neg hi]
      cases x with
      | none => exact .free
      | some y =>
        cases y with
        | box t x lk => exact .box fun _ => rfl
        | buf t sz l lk => exact .buf (Nat.le_max_left _ _) (fun h => Nat.max_le.2 ⟨h, Nat.le_refl _⟩)
        | dead => exact .dead
def lookFr (n : Nat) (o : List (Option Own)) (i : Nat) : Option Own := if i < n then none else o.getD i none
theorem lookFr_some {n : Nat} {o : List (Option Own)} {i : Nat} {x : Own} (h : lookFr n o i = some x) : o[i]? = some (some x) := by
  unfold lookFr at h
  split at h
  · cases h
  · rw [List.getD_eq_getElem?_getD] at h
    cases hz : o[i]? with
    | none => rw [hz] at h; cases h
    | some z => rw [hz] at h; exact congrArg some h
def Own.snap (look : Nat → Option Own) : Own → Own
  | .box t x lk => .box t (dsnap look x) lk
  | .buf t sz l lk => .buf t sz l lk
  | .dead => .dead
theorem dsnapL_length (look : Nat → Option Own) (l : List T) : (dsnapL look l).length = l.length := by rw [dsnapL_eq]; simp
theorem cells_dsnap (look : Nat → Option Own) (x : T) : (dsnap look x).cells.length = x.cells.length := by
  cases x with
  | agg l => simp only [dsnap, T.cells, dsnapL_length]
  | rsl o sz off len =>
    rw [dsnap]; unfold Go.Proofs.YtdaojihnaajfeaaDoorX.snap
    dsimp only
    split
    · split <;> rfl
    · rfl
  | _ => rfl
theorem Own.snap_lock (look : Nat → Option Own) (x : Own) : (x.snap look).lock = x.lock := by
  cases x <;> simp only [Own.snap, Own.lock, cells_dsnap]
theorem Own.snap_dead {look : Nat → Option Own} {x : Own} : x.snap look = .dead ↔ x = .dead := by cases x <;> simp [Own.snap]
theorem Sat.snapR {B : Base} {S : St} {a : Act} {w : World} {μ : Nat → Option Nat} (hS : Sat B S a w μ) {look : Nat → Option Own} (hl : ∀ i x, look i = some x → S.objs[i]? = some (some x)) : Sat B ⟨dsnapL look S.tmps, S.objs.map (Option.map (Own.snap look))⟩ a w μ := by
  have hget : ∀ (o : Nat) (y : Own), (S.objs.map (Option.map (Own.snap look)))[o]? = some (some y) → ∃ x, S.objs[o]? = some (some x) ∧ y = x.snap look := by
    intro o y h
    rw [List.getElem?_map] at h
    cases hz : S.objs[o]? with
    | none => rw [hz] at h; cases h
    | some z =>
      rw [hz] at h
      cases z with
      | none => cases h
      | some z =>
        have h : some (some (z.snap look)) = some (some y) := h
        injection h with h; injection h with h
        exact ⟨z, rfl, h.symm⟩
  have hst : Step [] ⟨w, μ, S.objs, B.ban⟩ ⟨w, μ, S.objs.map (Option.map (Own.snap look)), B.ban⟩ := by
    refine ⟨⟨fun b j v ⟨h1, h2, h3⟩ => ⟨h1, fun lk ⟨o, y, k1, k2, k3⟩ => ?_, h3⟩, fun b c t fr hb => ⟨c, fr, hb, rfl⟩⟩, fun o ⟨x, hx⟩ _ => ⟨x.snap look, ?_⟩, fun _ _ _ => rfl⟩
    · obtain ⟨x, e1, rfl⟩ := hget o y k1
      rw [Own.snap_lock] at k3
      exact h2 lk ⟨o, x, e1, k2, k3⟩
    · have hx : S.objs[o]? = some (some x) := hx
      show (S.objs.map _)[o]? = _
      rw [List.getElem?_map, hx]; rfl
  refine ⟨RepL.step hst (dsnapL_rep hS hl _ _ hS.tmps), hS.defers, ⟨fun o y hy => ?_, fun o o' y y' b h1 h2 hd hd' hb hb' => ?_⟩, fun o y b h1 hd hb => ?_, hS.kept⟩
  · obtain ⟨x, hx, rfl⟩ := hget o y hy
    have := hS.objs.at_ o x hx
    cases x with
    | box t x lk =>
      obtain ⟨b, fr, u, h1, h2, h3, h4, h5⟩ := this
      exact ⟨b, fr, u, h1, h2, h3, Rep.step hst (dsnap_rep hS hl _ _ h4), by rw [cells_dsnap]; exact h5⟩
    | buf t sz l lk =>
      obtain ⟨h0, h1⟩ := this
      exact ⟨h0, h1.imp id fun ⟨b, c, fr, c1, c2, h1, h2, h3, h4, h5⟩ => ⟨b, c, fr, c1, c2, h1, h2, h3, h4, RepR.stepC hst.toStepC _ _ _ h5⟩⟩
    | dead => trivial
  · obtain ⟨x, hx, rfl⟩ := hget o y h1
    obtain ⟨x', hx', rfl⟩ := hget o' y' h2
    exact hS.objs.inj o o' x x' b hx hx' (fun e => hd (Own.snap_dead.2 e)) (fun e => hd' (Own.snap_dead.2 e)) hb hb'
  · obtain ⟨x, hx, rfl⟩ := hget o y h1
    rw [Own.snap_lock]
    exact hS.fresh o x b hx (fun e => hd (Own.snap_dead.2 e)) hb
def St.fin (S : St) (n : Nat) (ts : List Nat) : St :=
  (St.keep ⟨dsnapL (lookFr n (lockFr n 0 S.objs)) S.tmps, (lockFr n 0 S.objs).map (Option.map (Own.snap (lookFr n (lockFr n 0 S.objs))))⟩ ts).cut n
theorem Sat.fin {B : Base} {S : St} {a : Act} {w : World} {μ : Nat → Option Nat} (hS : Sat B S a w μ) (n : Nat) (ts : List Nat) : Sat B (S.fin n ts) a w μ :=
  (((hS.lockFr n).snapR (look := lookFr n (Go.Proofs.YtdaojihnaajfeaaDoorX.lockFr n 0 S.objs)) fun i x h => lookFr_some h).keep ts).cut n
def RetR (P : Program) (fn : Func) (res : T) (n : Nat) (ts : List Nat) (objs' : List (Option Own)) : Exit → St → Prop
  | .normal, S | .ret, S => leOs anyE (S.fin n ts).objs objs' ∧ resW P ⟨(S.fin n ts).tmps, objs'⟩ fn.results.toList fun l => leT anyE (retT l) res
  | _, _ => False
theorem FnR.ofW {P : Program} {f : FuncId} {fn : Func} {c : Code} {objs objs' : List (Option Own)} {args : List T} {res : T} (ts : List Nat) (hf : P.funcs[f]? = some fn) (hn : (fn.name == "runtime.NumGoroutine") = false) (hb : fn.body = some c)
    (hrows : rowsOk objs.length 0 objs = true) (hsame : sameO objs objs' = true) (hrefs : (refsCL args).all (fun o => decide (o < objs.length)) = true)
    (h : WP P c ⟨args ++ List.replicate (fn.ntmps - args.length) .junk, objs⟩ (RetR P fn res objs.length ts objs')) : FnR P f objs args res objs' := by
  refine ⟨⟨fn, hf, hn, by rw [hb]; rfl⟩, hrows, hsame, hrefs, fun B μ vs hO hOwn hv => ?_⟩
  have hlen := hv.length
  rw [Array.length_toList] at hlen
  have hS : Sat B ⟨args ++ List.replicate (fn.ntmps - args.length) .junk, objs⟩ { tmps := vs ++ Array.replicate (fn.ntmps - vs.size) undef, defers := [] } B.w μ := by
    refine ⟨?_, rfl, hO, fun o x b h1 h2 h3 => ?_, ⟨rfl, rfl, rfl, Nat.le_refl _, fun _ _ _ => rfl, fun _ _ _ _ _ => rfl, fun k lk _ c t fr h => ⟨c, fr, h, rfl⟩⟩⟩
    · have e : (vs ++ Array.replicate (fn.ntmps - vs.size) undef).toList = vs.toList ++ List.replicate (fn.ntmps - args.length) undef := by simp [hlen]
      show RepL _ _ _ (vs ++ Array.replicate (fn.ntmps - vs.size) undef).toList
      rw [e]
      refine RepL.append hv ?_
      generalize fn.ntmps - args.length = n
      induction n with
      | zero => simp [RepL]
      | succ n ih => simp only [List.replicate_succ, RepL]; exact ⟨_, _, rfl, by simp only [Rep], ih⟩
    · have h1 : objs[o]? = some (some x) := h1
      obtain ⟨l, hl⟩ : ∃ l, x.lock = some l := by cases x <;> first | exact ⟨_, rfl⟩ | exact absurd rfl h2
      exact .inr ⟨0, l, (hOwn.1 b 0).2 ⟨rfl, o, (List.getElem?_eq_some_iff.1 h1).1, h3⟩, hl, Nat.zero_le _⟩
  refine calls_of_wp hf hb (wp_mono (h B _ _ _ hS) fun e a w' ⟨S, μ1, hQ, hS'⟩ => ?_)
  have main : (leOs anyE (S.fin objs.length ts).objs objs' ∧ resW P ⟨(S.fin objs.length ts).tmps, objs'⟩ fn.results.toList fun l => leT anyE (retT l) res) → a.defers = [] ∧ ∃ v, (results fn a.tmps).run P w' = .ok v w' ∧ (∃ u μ', Ending.returned v = .returned u ∧ Objs ⟨w', μ', objs', B.ban⟩ ∧ Rep ⟨w', μ', objs', B.ban⟩ false res u ∧ Kept B w' ∧ (∀ (o : Nat) (x : Own) (b : Nat), objs'[o]? = some (some x) → x ≠ .dead → μ' o = some b → B.w.heap.size ≤ b ∨ B.own b 0)) := by
    rintro ⟨hR1, hR2⟩
    have hF : Sat B ⟨(S.fin objs.length ts).tmps, objs'⟩ a w' μ1 := (hS'.fin objs.length ts).le (p := anyE) (leL_refl _) hR1 trivial
    obtain ⟨l, us, h1, h3, h4⟩ := res_sound hF _ _ hR2
    refine ⟨hF.defers, if hh : us.toArray.size = 1 then us.toArray[0] else .tuple us.toArray, ?_, _, μ1, rfl, hF.objs, ?_, hF.kept, fun o x b k1 k2 k3 => ?_⟩
    · have hm : (fn.results.mapM (fun | .tmp t => pure (a.tmps.getD t undef) | .cell c t => do loadVar t (← asAddr (a.tmps.getD c undef)) : ResultVar → Sem Value)).run P w' = .ok us.toArray w' := by
        rw [Array.mapM_eq_mapM_toList, Sem.run_map]
        have : (fun | .tmp t => pure (a.tmps.getD t undef) | .cell c t => do loadVar t (← asAddr (a.tmps.getD c undef)) : ResultVar → Sem Value) = rdRes a.tmps := by
          funext r; cases r <;> rfl
        rw [this, h3]; rfl
      unfold results
      exact run_bind (f := fun vs : Array Value => (pure (if h : vs.size = 1 then vs[0] else Value.tuple vs) : Sem Value)) hm
    · refine h1 _ _ _ trivial ?_
      have hul := h4.length
      by_cases h1' : us.length = 1
      · obtain ⟨u, rfl⟩ := List.length_eq_one_iff.1 h1'
        obtain ⟨x, rfl⟩ := List.length_eq_one_iff.1 (hul.symm.trans h1')
        simp only [RepL] at h4
        obtain ⟨v, vs', e1, e2, e3⟩ := h4
        subst e3
        cases e1
        simpa [retT] using e2
      · rw [dif_neg (by simpa using h1')]
        have e : retT l = .tup l := by
          cases l with
          | nil => rfl
          | cons x l => cases l with
            | nil => exact absurd hul h1'
            | cons y l => rfl
        rw [e]
        simp only [Rep]
        exact ⟨_, rfl, by simpa using h4⟩
    · rcases hF.fresh o x b k1 k2 k3 with h | ⟨lk, lk', q1, _⟩
      · exact .inl h
      · have := ((hOwn.1 b lk).1 q1).1
        subst this
        exact .inr q1
  cases e with
  | normal => exact main hQ
  | ret => exact main hQ
  | _ => exact hQ.elim
theorem FnR.goX {P : Program} (hm : P.follows .mixedOrders = true) (ts : List Nat) {f : FuncId} {fn : Func} {c : Code} {objs objs' : List (Option Own)} {args : List T} {res : T} (hf : P.funcs[f]? = some fn) (hn : (fn.name == "runtime.NumGoroutine") = false) (hb : fn.body = some c)
    (hrows : rowsOk objs.length 0 objs = true) (hsame : sameO objs objs' = true) (hrefs : (refsCL args).all (fun o => decide (o < objs.length)) = true)
    (h : runX P (RetR P fn res objs.length ts objs') c ⟨args ++ List.replicate (fn.ntmps - args.length) .junk, objs⟩ .q) : FnR P f objs args res objs' := FnR.ofW ts hf hn hb hrows hsame hrefs h
section
variable {P : Program} {Q : Exit → St → Prop} {g : FuncId} {args args' : List T} {dst : Option Tmp} {rest : List (Op × Option Tmp × Option (Option Tmp × Bool))} {S : St} {k : Kn} {r : T} {objs objs' : List (Option Own)}
theorem callR_X (σ : List Nat) (h : FnR P g objs args' r objs') (hnd : σ.Nodup) (hrel : relsO σ (lookS S) σ objs) (ha : leL anyE args (renFL σ args')) (h2 : stepsK P Q rest ((S.after (.many (movesO σ objs) (newsO σ (lookS S) σ objs'))).put dst (renF σ r)) k) : callG P Q g args dst rest S k :=
  .inr (.inl ⟨σ, objs, args', r, objs', h, hnd, hrel, fun E vs hv => ha E false vs trivial hv, h2⟩)
end
/-! ### A pointer of a variable to itself, or none -/
def adT (b : Bool) (o : Nat) : T := match b with | true => .ref o 7777 0 0 | false => .imm (.pointer none)
theorem adT_refs (b : Bool) (o : Nat) : refsT (adT b o) = [] := by cases b <;> rfl
theorem adT_refsC {b : Bool} {o n : Nat} (h : o < n) : (refsC (adT b o)).all (fun q => decide (q < n)) = true := by cases b <;> simp [adT, refsC, h]
theorem adT_ren (f : List Nat) (b : Bool) (o : Nat) : renF f (adT b o) = adT b (f.getD o 0) := by cases b <;> rfl
theorem adT_kill {ks : List Nat} {b : Bool} {o : Nat} (h : ks.contains o = false) : kill ks (adT b o) = adT b o := by
  cases b
  · rfl
  · show (if ks.contains o = true then _ else _) = _
    rw [h]; rfl
theorem adT_snap (look : Nat → Option Own) (b : Bool) (o : Nat) : dsnap look (adT b o) = adT b o := by cases b <;> rfl
attribute [go_sem] adT_refs adT_refsC adT_ren adT_kill adT_snap
attribute [go_sem] lockFr lookFr Own.snap St.fin renF renFL movesO newsO newO setsO relsO relO
theorem take_app_map {α β : Type} (f : α → β) (x : List β) (y : List α) : List.take (x.length + y.length) (x ++ List.map f y) = x ++ List.map f y := List.take_of_length_le (by simp)
attribute [go_sem] take_app_map
end Go.Proofs.YtdaojihnaajfeaaDoorX

/- What the program's types are. -/
set_option linter.unusedVariables false
namespace Go.Proofs.YtdaojihnaajfeaaDoorX
open Go Go.RowKit Go.Proofs
theorem small_of {P : Program} {t : TypeId} (h : ((P.info? t).all fun i => decide (i.bytes ≤ 256)) = true) : ∀ i, P.info? t = some i → i.bytes ≤ 256 := fun i hi => by
  rw [hi] at h; simpa using h
theorem mixed : Tryd.prog.follows .mixedOrders = true := by kernel_rfl
theorem ok4 : okT Tryd.prog 4 = true := by kernel_rfl
theorem sz5 : szOf Tryd.prog 5 = 1 := by kernel_rfl
theorem ok5 : okT Tryd.prog 5 = true := by kernel_rfl
theorem ze5 : zeroOf Tryd.prog 5 = .imm (.int .u8 0) := by kernel_rfl
theorem by5 : (∀ i, Tryd.prog.info? 5 = some i → i.bytes ≤ 256) = True := eq_true (small_of (by kernel_rfl))
theorem sz9 : szOf Tryd.prog 9 = 1 := by kernel_rfl
theorem ok9 : okT Tryd.prog 9 = true := by kernel_rfl
theorem sz29 : szOf Tryd.prog 29 = 2 := by kernel_rfl
theorem ok29 : okT Tryd.prog 29 = true := by kernel_rfl
theorem ze29 : zeroOf Tryd.prog 29 = .agg [.imm (.string ByteArray.empty), .imm (.string ByteArray.empty)] := by kernel_rfl
theorem by29 : (∀ i, Tryd.prog.info? 29 = some i → i.bytes ≤ 256) = True := eq_true (small_of (by kernel_rfl))
theorem sz30 : szOf Tryd.prog 30 = 2 := by kernel_rfl
theorem cz30 : Tryd.prog.cellsOf 30 = 2 := by kernel_rfl
theorem ok30 : okT Tryd.prog 30 = true := by kernel_rfl
theorem ze30 : zeroOf Tryd.prog 30 = .agg [.imm (.string ByteArray.empty), .imm (.string ByteArray.empty)] := by kernel_rfl
theorem by30 : (∀ i, Tryd.prog.info? 30 = some i → i.bytes ≤ 256) = True := eq_true (small_of (by kernel_rfl))
theorem eg30 : Tryd.prog.eqGuardType Tryd.prog.depth 30 = false := by kernel_rfl
theorem sh30 : Tryd.prog.stoodInHeld 30 = false := by kernel_rfl
theorem sz36 : szOf Tryd.prog 36 = 1 := by kernel_rfl
theorem ok36 : okT Tryd.prog 36 = true := by kernel_rfl
theorem sz59 : szOf Tryd.prog 59 = 1 := by kernel_rfl
theorem ok59 : okT Tryd.prog 59 = true := by kernel_rfl
theorem ok61 : okT Tryd.prog 61 = true := by kernel_rfl
theorem ze61 : zeroOf Tryd.prog 61 = .agg [.imm (.pointer none), .sl 0 true []] := by kernel_rfl
theorem rs4 : Tryd.f4.results.toList = [.tmp 4] := by kernel_rfl
theorem rs7 : Tryd.f7.results.toList = [.tmp 2, .tmp 3] := by kernel_rfl
theorem rs9 : Tryd.f9.results.toList = [.tmp 2, .tmp 3] := by kernel_rfl
theorem rs10 : Tryd.f10.results.toList = [.tmp 2] := by kernel_rfl
theorem rs14 : Tryd.f14.results.toList = [.tmp 4, .tmp 5, .tmp 6] := by kernel_rfl
theorem rs15 : Tryd.f15.results.toList = [.cell 2 30, .tmp 3] := by kernel_rfl
theorem rs17 : Tryd.f17.results.toList = [.tmp 4] := by kernel_rfl
theorem rs21 : Tryd.f21.results.toList = [.tmp 4, .tmp 5] := by kernel_rfl
theorem rs32 : Tryd.f32.results.toList = [.tmp 4, .tmp 5, .tmp 6] := by kernel_rfl
theorem rs34 : Tryd.f34.results.toList = [.tmp 2, .tmp 3] := by kernel_rfl
theorem rs37 : Tryd.f37.results.toList = [.tmp 3] := by kernel_rfl
theorem rs38 : Tryd.f38.results.toList = [.tmp 2] := by kernel_rfl
theorem rs52 : Tryd.f52.results.toList = [.tmp 2] := by kernel_rfl
theorem rs57 : Tryd.f57.results.toList = [.tmp 4] := by kernel_rfl
theorem rs58 : Tryd.f58.results.toList = [.tmp 2, .tmp 3] := by kernel_rfl
theorem rs91 : Tryd.f91.results.toList = [.tmp 2, .tmp 3] := by kernel_rfl
end Go.Proofs.YtdaojihnaajfeaaDoorX

/- The laws that a run goes by. -/
namespace Go.Proofs.YtdaojihnaajfeaaDoorX
open Go Go.RowKit Go.Proofs
attribute [go_sem ↓] stepsK_call drawK_call opW binXW eqW eqFs eqEs binV intW strW fieldW indexW extractW unW loadW loadP fieldAddrW indexAddrW endsW sliceW copyW arrPW buildSliceW makeW convertW storeW newsW appendW elemsW nilW lenW min2W max2W builtinW ifaceW partW getD_j16 set_j16 rootsP
attribute [go_sem] endK_q runK_region runK_draw stepsK_nil callK callE stepsK_cons drawK_nil drawK_cons rootsK_nil rootsK_cons St.keep keepL St.gc gcW deadK reachL refsT refsL refsO dropL Int.toNat_natCast St.cut List.range'_zero List.range'_succ lookS_at liteL dstsL gL St.is evalT ofVal ofVals St.after St.put St.upd
attribute [go_sem] St.eff quietE eOp effB trims trim setCells fillT fillE patchT isJunk leafT T.cells oneT RetQ resW retT St.lockAll Own.lockAll dsnap dsnapL snap closedT closedL rootsOf rootsO rootsA rootOf St.frzR St.frzB St.frzT St.frzL St.frz kill killL Own.kill aggD List.getD_cons_zero List.getD_cons_succ List.getD_nil List.set_cons_zero List.set_cons_succ List.set_nil List.flatMap_cons List.flatMap_nil List.append_nil List.nil_append List.cons_append List.map_cons List.map_nil List.filterMap_cons List.filterMap_nil List.find?_cons List.find?_nil List.getElem?_cons_zero List.getElem?_cons_succ List.getElem?_nil List.length_cons List.length_nil List.replicate
attribute [go_sem] List.contains_cons List.contains_nil List.take_zero List.drop_zero List.take_succ_cons List.drop_succ_cons List.all_cons List.all_nil List.size_toArray List.getElem?_toArray Array.toList_map List.map_toArray Option.some_beq_some Option.none_beq_some Option.some_beq_none Option.map_some Option.map_none Option.bind_some Option.bind_none Option.some.injEq ne_eq not_false_eq_true not_true_eq_false true_and and_true and_false false_and Bool.false_eq_true Bool.true_eq_false forall_const false_imp_iff true_imp_iff imp_self beq_self_eq_true or_true true_or or_false false_or if_true if_false ite_true ite_false Bool.or_true Bool.true_or Bool.and_true Bool.true_and Bool.false_or Bool.or_false Bool.false_and Bool.and_false Bool.not_true Bool.not_false decide_true decide_false Nat.lt_irrefl Nat.le_refl Nat.zero_add Nat.add_zero Nat.zero_mul Nat.mul_one
attribute [go_sem] Nat.mul_zero Nat.zero_le gt_iff_lt ge_iff_le Int.cast_ofNat_Int Option.isNone_some Option.isNone_none Option.isSome_some Option.isSome_none Nat.zero_max Nat.max_zero Nat.max_self List.take_length List.length_append List.length_map
attribute [go_sem] rs4 rs7 rs9 rs10 rs14 rs15 rs17 rs21 rs32 rs34 rs37 rs38 rs52 rs57 rs58
attribute [go_sem] rs91
attribute [go_sem] Tryd.underlying0 Tryd.underlying1 Tryd.underlying2 Tryd.underlying3 Tryd.underlying4 ok4 Tryd.underlying5 sz5 ok5 ze5 by5 Tryd.underlying6
attribute [go_sem] Tryd.underlying7 Tryd.underlying8 Tryd.underlying9 sz9 ok9 Tryd.underlying10 Tryd.underlying11 Tryd.underlying12 Tryd.underlying13 Tryd.underlying14
attribute [go_sem] Tryd.underlying15 Tryd.underlying16 Tryd.underlying17 Tryd.underlying18 Tryd.underlying19 Tryd.underlying20 Tryd.underlying21 Tryd.underlying22 Tryd.underlying23 Tryd.underlying24 Tryd.underlying25
attribute [go_sem] Tryd.underlying26 Tryd.underlying27 Tryd.underlying28 Tryd.underlying29 sz29 ok29 ze29 by29 Tryd.underlying30 sz30 cz30 ok30 ze30 by30 eg30 sh30 Tryd.underlying31 Tryd.underlying32 Tryd.underlying33 Tryd.underlying34 Tryd.underlying35 Tryd.underlying36 sz36 ok36 Tryd.underlying37 Tryd.underlying38
attribute [go_sem] Tryd.underlying39 Tryd.underlying40 Tryd.underlying41 Tryd.underlying42 Tryd.underlying43 Tryd.underlying44 Tryd.underlying45 Tryd.underlying46 Tryd.underlying47 Tryd.underlying48 Tryd.underlying49 Tryd.underlying50 Tryd.underlying51 Tryd.underlying52 Tryd.underlying53 Tryd.underlying54 Tryd.underlying55 Tryd.underlying56 Tryd.underlying57 Tryd.underlying58 Tryd.underlying59 sz59 ok59 Tryd.underlying60
attribute [go_sem] Tryd.underlying61 ok61 ze61 Tryd.underlying62 Tryd.underlying63 Tryd.underlying64 Tryd.underlying65 Tryd.underlying66 Tryd.underlying67 Tryd.underlying68 Tryd.underlying69 Tryd.underlying70 Tryd.underlying71 Tryd.underlying72 Tryd.underlying73 Tryd.underlying74 Tryd.underlying75 Tryd.underlying76 Tryd.underlying77 Tryd.underlying78
attribute [go_sem] Tryd.underlying79 Tryd.underlying80 Tryd.underlying81 Tryd.underlying82 Tryd.underlying83 Tryd.underlying84 Tryd.underlying85 Tryd.underlying86 Tryd.underlying87 Tryd.underlying88 Tryd.underlying89 Tryd.underlying90 Tryd.underlying91 Tryd.underlying92 Tryd.underlying93 Tryd.underlying94 Tryd.underlying95 Tryd.underlying96 Tryd.underlying97 Tryd.underlying98 Tryd.underlying99 Tryd.underlying100 Tryd.underlying101 Tryd.underlying102 Tryd.underlying103 Tryd.underlying104 Tryd.underlying105 Tryd.underlying106 Tryd.underlying107 Tryd.underlying108 Tryd.underlying109 Tryd.underlying110 Tryd.underlying111 Tryd.underlying112 Tryd.underlying113 Tryd.underlying114 Tryd.underlying115 Tryd.underlying116 Tryd.underlying117
attribute [go_sem] Tryd.underlying118 Tryd.underlying119 Tryd.underlying120 Tryd.underlying121 Tryd.underlying122 Tryd.underlying123 Tryd.underlying124 Tryd.underlying125 Tryd.underlying126 Tryd.underlying127 Tryd.underlying128 Tryd.underlying129 Tryd.underlying130 Tryd.underlying131 Tryd.underlying132 Tryd.underlying133 Tryd.underlying134 Tryd.underlying135 Tryd.underlying136 Tryd.underlying137 Tryd.underlying138 Tryd.underlying139 Tryd.underlying140 Tryd.underlying141 Tryd.underlying142
attribute [go_sem] Tryd.underlying143 Tryd.underlying144 Tryd.underlying145 Tryd.underlying146 Tryd.underlying147 Tryd.underlying148 Tryd.underlying149 Tryd.underlying150 Tryd.underlying151 Tryd.underlying152 Tryd.underlying153 Tryd.underlying154 Tryd.underlying155 Tryd.underlying156 Tryd.underlying157 Tryd.underlying158 Tryd.underlying159 Tryd.underlying160 Tryd.underlying161 Tryd.underlying162 Tryd.underlying163
attribute [go_sem] Tryd.underlying164 Tryd.underlying165 Tryd.underlying166 Tryd.underlying167 Tryd.underlying168 Tryd.underlying169 Tryd.underlying170 Tryd.underlying171 Tryd.underlying172 Tryd.underlying173 Tryd.underlying174
attribute [go_sem] Tryd.underlying175 Tryd.underlying176 Tryd.underlying177 Tryd.underlying178 Tryd.underlying179 Tryd.underlying180
end Go.Proofs.YtdaojihnaajfeaaDoorX

/- Words for what functions answer. -/
set_option linter.unusedVariables false
namespace Go.Proofs.YtdaojihnaajfeaaDoorX
open Go Go.RowKit Go.Proofs
abbrev i64 (n : Int) : T := .imm (.int .i64 n)
abbrev u8 (n : Int) : T := .imm (.int .u8 n)
abbrev tb (b : Bool) : T := .imm (.bool b)
abbrev ts (s : ByteArray) : T := .imm (.string s)
theorem wf_of {k : IntKind} {n : Int} (h : (Lit.int k n).wf = true) : k.min ≤ n ∧ n ≤ k.max := by
  simpa [Lit.wf] using h
end Go.Proofs.YtdaojihnaajfeaaDoorX

/- Bits of numbers that are not below zero. -/
set_option linter.unusedVariables false
namespace Go.Proofs.YtdaojihnaajfeaaDoorX
open Go Go.RowKit Go.Proofs
theorem ofInt_nat (w : Nat) (n : Nat) (h : n < 2 ^ w) : (BitVec.ofInt w (n : Int)).toNat = n := by
  rw [BitVec.ofInt_natCast, BitVec.toNat_ofNat, Nat.mod_eq_of_lt h]
theorem or_low (i a b : Nat) (ha : a % 2 ^ i = 0) (hb : b < 2 ^ i) : a ||| b = a + b := by
  obtain ⟨q, rfl⟩ : ∃ q, a = 2 ^ i * q := ⟨a / 2 ^ i, by have := Nat.div_add_mod a (2 ^ i); omega⟩
  exact (Nat.two_pow_add_eq_or_of_lt hb q).symm
theorem or_add (w i : Nat) (x y : Int) (hx : 0 ≤ x) (hxw : x < 2 ^ w) (hd : x % 2 ^ i = 0) (hy : 0 ≤ y) (hyi : y < 2 ^ i) (hiw : i ≤ w) : ((BitVec.ofInt w x ||| BitVec.ofInt w y).toNat : Int) = x + y := by
  obtain ⟨a, rfl⟩ := Int.eq_ofNat_of_zero_le hx
  obtain ⟨b, rfl⟩ := Int.eq_ofNat_of_zero_le hy
  have e : ((2 : Int) ^ i) = ((2 ^ i : Nat) : Int) := by simp
  have e' : ((2 : Int) ^ w) = ((2 ^ w : Nat) : Int) := by simp
  rw [e] at hd hyi
  rw [e'] at hxw
  have hle : 2 ^ i ≤ 2 ^ w := Nat.pow_le_pow_right (by omega) hiw
  rw [BitVec.toNat_or, ofInt_nat w a (by omega), ofInt_nat w b (by omega), or_low i a b (by omega) (by omega)]
  omega
theorem bOr_add (k : IntKind) (i : Nat) (x y : Int) (hx : 0 ≤ x) (hxw : x < 2 ^ k.bits) (hd : x % 2 ^ i = 0) (hy : 0 ≤ y) (hyi : y < 2 ^ i) (hiw : i ≤ k.bits) : bOr k x y = x + y := or_add k.bits i x y hx hxw hd hy hyi hiw
end Go.Proofs.YtdaojihnaajfeaaDoorX

set_option linter.unusedVariables false
set_option linter.unusedSimpArgs false
namespace Go.Proofs.YtdaojihnaajfeaaDoorX
open Go Go.RowKit Go.Proofs
set_option maxRecDepth 100000
def eT28 (x : (List UInt8) × (List UInt8)) : T := .agg [.imm (.string (bs x.1)), .imm (.string (bs x.2))]
theorem eT28_def (x : (List UInt8) × (List UInt8)) : eT28 x = .agg [.imm (.string (bs x.1)), .imm (.string (bs x.2))] := rfl
attribute [go_sem] eT28_def
theorem app_T28 (l : List ((List UInt8) × (List UInt8))) (y0 : List UInt8) (y1 : List UInt8) (r : List T) : List.map eT28 l ++ (T.agg [.imm (.string (bs y0)), .imm (.string (bs y1))] :: r) = List.map eT28 (l ++ [(y0, y1)]) ++ r := by simp [eT28]
attribute [go_sem] app_T28
end Go.Proofs.YtdaojihnaajfeaaDoorX

set_option linter.unusedVariables false
set_option linter.unusedSimpArgs false
namespace Go.Proofs.YtdaojihnaajfeaaDoorX
open Go Go.RowKit Go.Proofs
set_option maxRecDepth 100000
/-! ### internal/stringslite.Index: by the shelf -/
open Go.Shelf
def Tryd.lay219_ren : Go.Shelf.Ren := ⟨fun | 219 => 55 | 217 => 83 | 225 => 84 | 224 => 85 | 267 => 86 | 266 => 113 | 314 => 114 | n => n, fun | 9 => 9 | 3 => 3 | 4 => 4 | 5 => 5 | 46 => 85 | 146 => 153 | 51 => 118 | n => n, fun | 1 => 0 | n => n⟩
theorem Tryd.lay219 : Go.Proofs.Lays.n219 Tryd.prog Tryd.lay219_ren := {
 mixed := by kernel_rfl,
 f217 := Tryd.func83.trans (congrArg some (by kernel_rfl)),
 f219 := Tryd.func55.trans (congrArg some (by kernel_rfl)),
 f224 := Tryd.func85.trans (congrArg some (by kernel_rfl)),
 f225 := Tryd.func84.trans (congrArg some (by kernel_rfl)),
 f266 := Tryd.func113.trans (congrArg some (by kernel_rfl)),
 f267 := Tryd.func86.trans (congrArg some (by kernel_rfl)),
 f314 := Tryd.func114.trans (congrArg some (by kernel_rfl)),
 t3 := Tryd.underlying3,
 a3 := Tryd.isAgg3,
 z3 := Tryd.sizeOf3,
 v3 := Tryd.zeroValue3,
 t4 := Tryd.underlying4,
 a4 := Tryd.isAgg4,
 z4 := Tryd.sizeOf4,
 v4 := Tryd.zeroValue4,
 t5 := Tryd.underlying5,
 a5 := Tryd.isAgg5,
 z5 := Tryd.sizeOf5,
 v5 := Tryd.zeroValue5,
 t9 := Tryd.underlying9,
 a9 := Tryd.isAgg9,
 z9 := Tryd.sizeOf9,
 v9 := Tryd.zeroValue9,
 t46 := Tryd.underlying85,
 a46 := Tryd.isAgg85,
 z46 := Tryd.sizeOf85,
 v46 := Tryd.zeroValue85,
 t51 := Tryd.underlying118,
 a51 := Tryd.isAgg118,
 z51 := Tryd.sizeOf118,
 v51 := Tryd.zeroValue118,
 t146 := Tryd.underlying153,
 a146 := Tryd.isAgg153,
 z146 := Tryd.sizeOf153,
 v146 := Tryd.zeroValue153,
 g1 := by kernel_rfl }
def F55 (n : Nat) (a0 : List UInt8) (a1 : List UInt8) : Option Int := match a1 with
 | [c] => some (Lib.indexByte a0 c)
 | _ => if a0.length < 4294967281 then some (Lib.index a0 a1) else none
theorem F55_ok (n : Nat) (a0 : List UInt8) (a1 : List UInt8) (r : Int) (h : F55 n a0 a1 = some r) : FnC Tryd.prog 55 [.imm (.string (bs a0)), .imm (.string (bs a1))] (.imm (.int .i64 r)) := by
 have hf : Tryd.lay219_ren.f 219 = 55 := by kernel_rfl
 refine ⟨⟨Tryd.f55, Tryd.func55, by kernel_rfl, rfl⟩, fun w ban vs hban hgi hv => ?_⟩
 obtain ⟨m, hm⟩ := hgi 0 (by decide)
 have e : vs = #[.string (bs a0), .string (bs a1)] := by
  obtain ⟨l⟩ := vs
  simp only [RepL, Rep] at hv
  obtain ⟨u, us, h1, h2, v, vs', h3, h4, h5⟩ := hv
  simp_all
 rw [e]
 unfold F55 at h
 split at h
 ·rename_i c
  obtain rfl := Option.some.inj h
  have hc := Any.stringslite_Index_one Tryd.lay219 (bs a0) c w
  rw [hf] at hc
  refine hc.mono ?_
  rintro e w' ⟨rfl, rfl⟩
  exact ⟨_, rfl, Below.refl _ _, by simp only [Rep]; exact ⟨rfl, rfl⟩⟩
 ·split at h
  case isFalse => cases h
  rename_i hh
  obtain rfl := Option.some.inj h
  have hc := Any.stringslite_Index Tryd.lay219 (bs a0) (bs a1) m w (by rw [bs_size]; exact hh) (by
   rw [show Tryd.lay219_ren.g 1 = 0 by kernel_rfl]; exact hm)
  rw [hf] at hc
  refine hc.mono ?_
  rintro e w' ⟨rfl, rfl⟩
  exact ⟨_, rfl, Below.refl _ _, by simp only [Rep]; exact ⟨rfl, rfl⟩⟩
end Go.Proofs.YtdaojihnaajfeaaDoorX

set_option linter.unusedVariables false
set_option linter.unusedSimpArgs false
namespace Go.Proofs.YtdaojihnaajfeaaDoorX
open Go Go.RowKit Go.Proofs
set_option maxRecDepth 100000
attribute [local go_sem ↓] stepsK_build stepsK_bs appendS
attribute [local go_sem] String.reduceEq String.reduceNe reduceCtorEq Int.reduceEq Nat.reduceAdd Nat.reduceSub Nat.reduceMul Nat.reduceLT Nat.reduceLeDiff Nat.reduceEqDiff Nat.reduceBEq Int.reduceToNat Int.reduceLT Int.reduceLE Int.reduceGT Int.reduceGE Int.reduceAdd Int.reduceSub Int.reduceMul Int.reduceNeg Int.reduceBEq Int.reduceBNe Int.reducePow Int.reduceDiv Int.reduceMod Int.reduceTDiv Int.reduceTMod Int.reduceNatCast
/-! ### internal/stringslite.Cut -/
def F32 (n : Nat) (a0 : List UInt8) (a1 : List UInt8) : Option ((List UInt8) × (List UInt8) × (Bool)) := (F55 n a0 a1).bind fun v1 => iteB (decide ((0 : Int) ≤ v1)) (grd (0 ≤ v1 ∧ v1 ≤ (a0.length : Int)) (grd (0 ≤ (IntKind.wrap .i64 (v1 + (a1.length : Int))) ∧ (IntKind.wrap .i64 (v1 + (a1.length : Int))) ≤ (a0.length : Int)) (some ((a0.take v1.toNat), (a0.drop (IntKind.wrap .i64 (v1 + (a1.length : Int))).toNat), true)))) (some (a0, [], false))
set_option maxHeartbeats 4000000 in
theorem F32_ok : ∀ (n : Nat) (a0 : List UInt8) (a1 : List UInt8) (r : (List UInt8) × (List UInt8) × (Bool)), F32 n a0 a1 = some r → FnC Tryd.prog 32 [.imm (.string (bs a0)), .imm (.string (bs a1))] (.tup [.imm (.string (bs r.1)), .imm (.string (bs r.2.1)), .imm (.bool r.2.2)])
 | n, a0, a1, r, h => by
  unfold F32 at h
  refine FnC.goX mixed Tryd.func32 (by kernel_rfl) rfl ?_
  simp only [Tryd.ntmps32, List.length_cons, List.length_nil, List.replicate, List.cons_append, List.nil_append, Nat.reduceAdd, Nat.reduceSub]
  refine runX_seq ?_
  refine runX_regionC fun C hC => ?_
  try simp -implicitDefEqProofs (maxSteps := 4000000) (disch := first | omega | decide | (simp only [go_sem]; omega)) only [go_sem, ↓reduceIte]
  repeat (with_reducible refine And.intro (by first | assumption | omega | (simp; done) | (simp; omega)) ?_)
  refine toEnd hC ?_
  refine endX_seq ?_
  refine runX_seq ?_
  refine runX_seq ?_
  refine runX_regionC fun C hC => ?_
  obtain ⟨v1, h1, h⟩ := bnd_some h
  try simp -implicitDefEqProofs (maxSteps := 4000000) (disch := first | omega | decide | (simp only [go_sem]; omega)) only [go_sem, ↓reduceIte]
  repeat (with_reducible refine And.intro (by first | assumption | omega | (simp; done) | (simp; omega)) ?_)
  refine callG_X (by first | rfl | (simp only [go_sem]; done) | (simp only [closedL, closedT, Bool.and_true]; exact closedL_map _ (fun _ => by first | rfl | (simp only [go_sem]; done)) _)) (F55_ok n a0 a1 _ h1) (by repeat (first | exact leL_refl _ | refine leL_cons (by first | exact leT_refl _ | exact leT_virt | exact leT_junk _ | exact leT_sl | exact leT_sln | exact leT_nil | (refine leT_agg (by repeat (first | exact leL_refl _ | refine leL_cons (by first | exact leT_refl _ | exact leT_sl | exact leT_sln | exact leT_nil) ?_)))) ?_)) ?_
  try simp -implicitDefEqProofs (maxSteps := 4000000) (disch := first | omega | decide | (simp only [go_sem]; omega)) only [go_sem, ↓reduceIte]
  repeat (with_reducible refine And.intro (by first | assumption | omega | (simp; done) | (simp; omega)) ?_)
  refine toEnd hC ?_
  refine endX_seq ?_
  refine runX_seq ?_
  refine runX_regionC fun C hC => ?_
  try simp -implicitDefEqProofs (maxSteps := 4000000) (disch := first | omega | decide | (simp only [go_sem]; omega)) only [go_sem, ↓reduceIte]
  repeat (with_reducible refine And.intro (by first | assumption | omega | (simp; done) | (simp; omega)) ?_)
  refine toEnd hC ?_
  refine endX_seq ?_
  rcases iteB_some h with ⟨c2, h⟩ | ⟨c2, h⟩
  ·refine runX_condT rfl c2 ?_
   refine runX_seq ?_
   refine runX_drawC mixed (by kernel_rfl) fun C hC => ?_
   obtain ⟨g3, h⟩ := grd_some h
   obtain ⟨g4, h⟩ := grd_some h
   try simp -implicitDefEqProofs (maxSteps := 4000000) (disch := first | omega | decide | (simp only [go_sem]; omega)) only [go_sem, ↓reduceIte]
   repeat (with_reducible refine And.intro (by first | assumption | omega | (simp; done) | (simp; omega)) ?_)
   refine toEnd hC ?_
   refine endX_seq ?_
   refine runX_ret ?_
   refine endX_seqR ?_
   refine endX_q ?_
   obtain rfl := Option.some.inj h
   show RetW _ _ _ _ _
   simp only [RetW]
   (try simp -implicitDefEqProofs (maxSteps := 4000000) (disch := first | omega | decide | (simp only [go_sem]; omega)) only [go_sem, ↓reduceIte])
   (try simp (disch := omega) only [if_pos, Nat.sub_zero])
   exact leT_refl _
  ·refine runX_condF rfl c2 ?_
   refine runX_skip ?_
   refine endX_seq ?_
   refine runX_seq ?_
   refine runX_regionC fun C hC => ?_
   try simp -implicitDefEqProofs (maxSteps := 4000000) (disch := first | omega | decide | (simp only [go_sem]; omega)) only [go_sem, ↓reduceIte]
   repeat (with_reducible refine And.intro (by first | assumption | omega | (simp; done) | (simp; omega)) ?_)
   refine toEnd hC ?_
   refine endX_seq ?_
   refine runX_ret ?_
   refine endX_q ?_
   obtain rfl := Option.some.inj h
   show RetW _ _ _ _ _
   simp only [RetW]
   (try simp -implicitDefEqProofs (maxSteps := 4000000) (disch := first | omega | decide | (simp only [go_sem]; omega)) only [go_sem, ↓reduceIte])
   (try simp (disch := omega) only [if_pos, Nat.sub_zero])
   exact leT_refl _
end Go.Proofs.YtdaojihnaajfeaaDoorX

set_option linter.unusedVariables false
set_option linter.unusedSimpArgs false
namespace Go.Proofs.YtdaojihnaajfeaaDoorX
open Go Go.RowKit Go.Proofs
set_option maxRecDepth 100000
attribute [local go_sem ↓] stepsK_build stepsK_bs appendS
attribute [local go_sem] String.reduceEq String.reduceNe reduceCtorEq Int.reduceEq Nat.reduceAdd Nat.reduceSub Nat.reduceMul Nat.reduceLT Nat.reduceLeDiff Nat.reduceEqDiff Nat.reduceBEq Int.reduceToNat Int.reduceLT Int.reduceLE Int.reduceGT Int.reduceGE Int.reduceAdd Int.reduceSub Int.reduceMul Int.reduceNeg Int.reduceBEq Int.reduceBNe Int.reducePow Int.reduceDiv Int.reduceMod Int.reduceTDiv Int.reduceTMod Int.reduceNatCast
/-! ### strings.Cut -/
def F14 (n : Nat) (a0 : List UInt8) (a1 : List UInt8) : Option ((List UInt8) × (List UInt8) × (Bool)) := (F32 n a0 a1).bind fun v1 => some (v1.1, v1.2.1, v1.2.2)
set_option maxHeartbeats 4000000 in
theorem F14_ok : ∀ (n : Nat) (a0 : List UInt8) (a1 : List UInt8) (r : (List UInt8) × (List UInt8) × (Bool)), F14 n a0 a1 = some r → FnC Tryd.prog 14 [.imm (.string (bs a0)), .imm (.string (bs a1))] (.tup [.imm (.string (bs r.1)), .imm (.string (bs r.2.1)), .imm (.bool r.2.2)])
 | n, a0, a1, r, h => by
  unfold F14 at h
  refine FnC.goX mixed Tryd.func14 (by kernel_rfl) rfl ?_
  simp only [Tryd.ntmps14, List.length_cons, List.length_nil, List.replicate, List.cons_append, List.nil_append, Nat.reduceAdd, Nat.reduceSub]
  refine runX_seq ?_
  refine runX_regionC fun C hC => ?_
  try simp -implicitDefEqProofs (maxSteps := 4000000) (disch := first | omega | decide | (simp only [go_sem]; omega)) only [go_sem, ↓reduceIte]
  repeat (with_reducible refine And.intro (by first | assumption | omega | (simp; done) | (simp; omega)) ?_)
  refine toEnd hC ?_
  refine endX_seq ?_
  refine runX_seq ?_
  refine runX_regionC fun C hC => ?_
  obtain ⟨v1, h1, h⟩ := bnd_some h
  try simp -implicitDefEqProofs (maxSteps := 4000000) (disch := first | omega | decide | (simp only [go_sem]; omega)) only [go_sem, ↓reduceIte]
  repeat (with_reducible refine And.intro (by first | assumption | omega | (simp; done) | (simp; omega)) ?_)
  refine callG_X (by first | rfl | (simp only [go_sem]; done) | (simp only [closedL, closedT, Bool.and_true]; exact closedL_map _ (fun _ => by first | rfl | (simp only [go_sem]; done)) _)) (F32_ok n a0 a1 _ h1) (by repeat (first | exact leL_refl _ | refine leL_cons (by first | exact leT_refl _ | exact leT_virt | exact leT_junk _ | exact leT_sl | exact leT_sln | exact leT_nil | (refine leT_agg (by repeat (first | exact leL_refl _ | refine leL_cons (by first | exact leT_refl _ | exact leT_sl | exact leT_sln | exact leT_nil) ?_)))) ?_)) ?_
  try simp -implicitDefEqProofs (maxSteps := 4000000) (disch := first | omega | decide | (simp only [go_sem]; omega)) only [go_sem, ↓reduceIte]
  repeat (with_reducible refine And.intro (by first | assumption | omega | (simp; done) | (simp; omega)) ?_)
  refine toEnd hC ?_
  refine endX_seq ?_
  refine runX_ret ?_
  refine endX_q ?_
  obtain rfl := Option.some.inj h
  show RetW _ _ _ _ _
  simp only [RetW]
  (try simp -implicitDefEqProofs (maxSteps := 4000000) (disch := first | omega | decide | (simp only [go_sem]; omega)) only [go_sem, ↓reduceIte])
  (try simp (disch := omega) only [if_pos, Nat.sub_zero])
  exact leT_refl _
end Go.Proofs.YtdaojihnaajfeaaDoorX

set_option linter.unusedVariables false
set_option linter.unusedSimpArgs false
namespace Go.Proofs.YtdaojihnaajfeaaDoorX
open Go Go.RowKit Go.Proofs
set_option maxRecDepth 100000
/-! ### strings.ReplaceAll: by the shelf -/
open Go.Shelf
def Tryd.lay155_ren : Go.Shelf.Ren := ⟨fun | 155 => 33 | 154 => 56 | 138 => 87 | 165 => 88 | 143 => 89 | 166 => 21 | 197 => 90 | 169 => 22 | 195 => 115 | 218 => 116 | 240 => 42 | 241 => 117 | 219 => 55 | 260 => 118 | 276 => 73 | 277 => 125 | 217 => 83 | 225 => 84 | 224 => 85 | 267 => 86 | 266 => 113 | 314 => 114 | n => n, fun | 9 => 9 | 3 => 3 | 4 => 4 | 72 => 61 | 0 => 0 | 76 => 64 | 105 => 130 | 21 => 21 | 5 => 5 | 70 => 59 | 20 => 20 | 37 => 36 | 75 => 63 | 127 => 88 | 164 => 120 | 46 => 85 | 119 => 162 | 139 => 165 | 138 => 164 | 146 => 153 | 51 => 118 | 80 => 66 | n => n, fun | 1 => 0 | 3 => 1 | 4 => 2 | n => n⟩
theorem Tryd.lay155 : Go.Proofs.Lays.n155 Tryd.prog Tryd.lay155_ren := {
 mixed := by kernel_rfl,
 f138 := Tryd.func87.trans (congrArg some (by kernel_rfl)),
 f143 := Tryd.func89.trans (congrArg some (by kernel_rfl)),
 f154 := Tryd.func56.trans (congrArg some (by kernel_rfl)),
 f155 := Tryd.func33.trans (congrArg some (by kernel_rfl)),
 f165 := Tryd.func88.trans (congrArg some (by kernel_rfl)),
 f166 := Tryd.func21.trans (congrArg some (by kernel_rfl)),
 f169 := Tryd.func22.trans (congrArg some (by kernel_rfl)),
 f195 := Tryd.func115.trans (congrArg some (by kernel_rfl)),
 f197 := Tryd.func90.trans (congrArg some (by kernel_rfl)),
 f217 := Tryd.func83.trans (congrArg some (by kernel_rfl)),
 f218 := Tryd.func116.trans (congrArg some (by kernel_rfl)),
 f219 := Tryd.func55.trans (congrArg some (by kernel_rfl)),
 f224 := Tryd.func85.trans (congrArg some (by kernel_rfl)),
 f225 := Tryd.func84.trans (congrArg some (by kernel_rfl)),
 f240 := Tryd.func42.trans (congrArg some (by kernel_rfl)),
 f241 := Tryd.func117.trans (congrArg some (by kernel_rfl)),
 f260 := Tryd.func118.trans (congrArg some (by kernel_rfl)),
 f266 := Tryd.func113.trans (congrArg some (by kernel_rfl)),
 f267 := Tryd.func86.trans (congrArg some (by kernel_rfl)),
 f276 := Tryd.func73.trans (congrArg some (by kernel_rfl)),
 f277 := Tryd.func125.trans (congrArg some (by kernel_rfl)),
 f314 := Tryd.func114.trans (congrArg some (by kernel_rfl)),
 t0 := Tryd.underlying0,
 a0 := Tryd.isAgg0,
 z0 := Tryd.sizeOf0,
 v0 := Tryd.zeroValue0,
 t3 := Tryd.underlying3,
 a3 := Tryd.isAgg3,
 z3 := Tryd.sizeOf3,
 v3 := Tryd.zeroValue3,
 t4 := Tryd.underlying4,
 a4 := Tryd.isAgg4,
 z4 := Tryd.sizeOf4,
 v4 := Tryd.zeroValue4,
 t5 := Tryd.underlying5,
 a5 := Tryd.isAgg5,
 z5 := Tryd.sizeOf5,
 v5 := Tryd.zeroValue5,
 t9 := Tryd.underlying9,
 a9 := Tryd.isAgg9,
 z9 := Tryd.sizeOf9,
 v9 := Tryd.zeroValue9,
 t20 := Tryd.underlying20,
 a20 := Tryd.isAgg20,
 z20 := Tryd.sizeOf20,
 v20 := Tryd.zeroValue20,
 t21 := Tryd.underlying21,
 a21 := Tryd.isAgg21,
 z21 := Tryd.sizeOf21,
 v21 := Tryd.zeroValue21,
 t37 := Tryd.underlying36,
 a37 := Tryd.isAgg36,
 z37 := Tryd.sizeOf36,
 v37 := Tryd.zeroValue36,
 t46 := Tryd.underlying85,
 a46 := Tryd.isAgg85,
 z46 := Tryd.sizeOf85,
 v46 := Tryd.zeroValue85,
 t51 := Tryd.underlying118,
 a51 := Tryd.isAgg118,
 z51 := Tryd.sizeOf118,
 v51 := Tryd.zeroValue118,
 t70 := Tryd.underlying59,
 a70 := Tryd.isAgg59,
 z70 := Tryd.sizeOf59,
 v70 := Tryd.zeroValue59,
 t72 := Tryd.underlying61,
 a72 := Tryd.isAgg61,
 z72 := Tryd.sizeOf61,
 v72 := Tryd.zeroValue61,
 t75 := Tryd.underlying63,
 a75 := Tryd.isAgg63,
 z75 := Tryd.sizeOf63,
 v75 := Tryd.zeroValue63,
 t76 := Tryd.underlying64,
 a76 := Tryd.isAgg64,
 z76 := Tryd.sizeOf64,
 v76 := Tryd.zeroValue64,
 t105 := Tryd.underlying130,
 a105 := Tryd.isAgg130,
 z105 := Tryd.sizeOf130,
 v105 := Tryd.zeroValue130,
 t119 := Tryd.underlying162,
 a119 := Tryd.isAgg162,
 z119 := Tryd.sizeOf162,
 t127 := Tryd.underlying88,
 a127 := Tryd.isAgg88,
 z127 := Tryd.sizeOf88,
 v127 := Tryd.zeroValue88,
 t138 := Tryd.underlying164,
 a138 := Tryd.isAgg164,
 z138 := Tryd.sizeOf164,
 v138 := Tryd.zeroValue164,
 t139 := Tryd.underlying165,
 a139 := Tryd.isAgg165,
 z139 := Tryd.sizeOf165,
 v139 := Tryd.zeroValue165,
 t146 := Tryd.underlying153,
 a146 := Tryd.isAgg153,
 z146 := Tryd.sizeOf153,
 v146 := Tryd.zeroValue153,
 t164 := Tryd.underlying120,
 a164 := Tryd.isAgg120,
 z164 := Tryd.sizeOf120,
 v164 := Tryd.zeroValue120,
 g1 := by kernel_rfl,
 g3 := by kernel_rfl,
 g4 := by kernel_rfl }
theorem Tryd.bx155 : Builder.Extra Tryd.prog Tryd.lay155_ren := {
 sizeBuilder := by kernel_rfl,
 liesBuilder := by kernel_rfl,
 t5 := Tryd.underlying5,
 a5 := Tryd.isAgg5,
 z5 := Tryd.sizeOf5,
 v5 := Tryd.zeroValue5,
 infoByte := by kernel_rfl,
 cellsByte := by kernel_rfl,
 sizeByte := by kernel_rfl,
 neB5 := by decide }
def F33 (n : Nat) (a0 a1 a2 : List UInt8) : Option (List UInt8) :=
 if a0.length < 4294967281 ∧ 1 ≤ a1.length ∧ a0.length + Lib.countB (bs a0) (bs a1) * a2.length ≤ 140737488355328 then some (Lib.replaceAll a0 a1 a2) else none
theorem F33_ok (n : Nat) (a0 a1 a2 r : List UInt8) (h : F33 n a0 a1 a2 = some r) : FnC Tryd.prog 33 [.imm (.string (bs a0)), .imm (.string (bs a1)), .imm (.string (bs a2))] (.imm (.string (bs r))) := by
 unfold F33 at h
 split at h
 case isFalse => cases h
 rename_i hh
 obtain ⟨h1, h2, h3⟩ := hh
 obtain rfl := Option.some.inj h
 have hf : Tryd.lay155_ren.f 155 = 33 := by kernel_rfl
 refine ⟨⟨Tryd.f33, Tryd.func33, by kernel_rfl, rfl⟩, fun w ban vs hban hgi hv => ?_⟩
 obtain ⟨m, hm⟩ := hgi 0 (by decide)
 have e : vs = #[.string (bs a0), .string (bs a1), .string (bs a2)] := by
  obtain ⟨l⟩ := vs
  simp only [RepL, Rep] at hv
  obtain ⟨u, us, e1, q1, v, vs', e2, q2, x, xs, e3, q3, q4⟩ := hv
  simp_all
 rw [e]
 have hc := Any.strings_ReplaceAll Tryd.lay155 Tryd.bx155 (bs a0) (bs a1) (bs a2) m w (by rw [bs_size]; exact h1) (by
  rw [show Tryd.lay155_ren.g 1 = 0 by kernel_rfl]; exact hm) (by rw [bs_size]; exact h2) (by rw [bs_size, bs_size]; exact h3)
 rw [hf] at hc
 refine hc.mono ?_
 rintro e w' ⟨rfl, hb⟩
 exact ⟨_, rfl, hb, by simp only [Rep]; first | exact ⟨rfl, rfl⟩ | exact ⟨trivial, rfl⟩⟩
end Go.Proofs.YtdaojihnaajfeaaDoorX

set_option linter.unusedVariables false
set_option linter.unusedSimpArgs false
namespace Go.Proofs.YtdaojihnaajfeaaDoorX
open Go Go.RowKit Go.Proofs
set_option maxRecDepth 100000
/-! ### hex.Kind: by hand (an inner function that sees the byte through a place of the caller's own) -/
def kindOf (c : Int) : Int := if 48 ≤ c ∧ c ≤ 57 then 1 else if 97 ≤ c ∧ c ≤ 102 then 2 else if 103 ≤ c ∧ c ≤ 122 then 3 else if 65 ≤ c ∧ c ≤ 90 then 4 else 0
def F61 (n : Nat) (a0 : Int) : Option Int := some (kindOf a0)
set_option maxHeartbeats 2000000 in
theorem kind_inside (a b c : Int) (p : Addr) (w : World) (hc : w.cell? p = some (.int .u8 c)) :
  Calls Tryd.prog 94 #[.int .u8 a, .int .u8 b, .pointer (some p)] w fun e w' => e = .returned (.bool (decide (a ≤ c ∧ c ≤ b))) ∧ w' = w := by
 by_cases h1 : a ≤ c
 ·have h1b : decide (a ≤ c) = true := decide_eq_true h1
  go_enter Tryd.func94, Tryd.ntmps94
  go_wp2
  go_ret
  exact ⟨by simp [h1], rfl⟩
 ·have h1b : decide (a ≤ c) = false := decide_eq_false h1
  go_enter Tryd.func94, Tryd.ntmps94
  go_wp2
  go_ret
  exact ⟨by simp [h1], rfl⟩
set_option maxHeartbeats 4000000 in
theorem kind_calls (a0 : Int) (w : World) :
  Calls Tryd.prog 61 #[.int .u8 a0] w fun e w' => e = .returned (.int .i64 (kindOf a0)) ∧ Below w.heap.size w w' := by
 have hmf : ∀ (fn : Fn) (first cap : Array Value) (w : World), (Instr.makeFunc fn first cap).run Tryd.prog w = .ok (.func fn first cap) w := fun _ _ _ _ => rfl
 go_enter Tryd.func61, Tryd.ntmps61
 go_wp2_with (go_at_call 94; refine (kind_inside _ _ a0 _ _ (by simp)).mono ?_; rintro e w' ⟨rfl, rfl⟩)
 all_goals (go_ret; exact ⟨by unfold kindOf; (repeat (first | rw [if_pos (by omega)] | rw [if_neg (by omega)])); rfl, (Below.refl _ _).alloc (Nat.le_refl _) _⟩)
theorem F61_ok (n : Nat) (a0 : Int) (r : Int) (h : F61 n a0 = some r) : FnC Tryd.prog 61 [.imm (.int .u8 a0)] (.imm (.int .i64 r)) := by
 obtain rfl := Option.some.inj h
 refine ⟨⟨Tryd.f61, Tryd.func61, by kernel_rfl, rfl⟩, fun w ban vs hban hgi hv => ?_⟩
 have e : vs = #[.int .u8 a0] := by
  obtain ⟨l⟩ := vs
  simp only [RepL, Rep] at hv
  obtain ⟨u, us, h1, h2, h3⟩ := hv
  simp_all [Lit.value]
 rw [e]
 refine (kind_calls a0 w).mono ?_
 rintro e w' ⟨rfl, hb⟩
 exact ⟨_, rfl, hb, by simp only [Rep]; exact ⟨trivial, rfl⟩⟩
end Go.Proofs.YtdaojihnaajfeaaDoorX

set_option linter.unusedVariables false
set_option linter.unusedSimpArgs false
namespace Go.Proofs.YtdaojihnaajfeaaDoorX
open Go Go.RowKit Go.Proofs
set_option maxRecDepth 100000
attribute [local go_sem ↓] stepsK_build stepsK_bs appendS
attribute [local go_sem] String.reduceEq String.reduceNe reduceCtorEq Int.reduceEq Nat.reduceAdd Nat.reduceSub Nat.reduceMul Nat.reduceLT Nat.reduceLeDiff Nat.reduceEqDiff Nat.reduceBEq Int.reduceToNat Int.reduceLT Int.reduceLE Int.reduceGT Int.reduceGE Int.reduceAdd Int.reduceSub Int.reduceMul Int.reduceNeg Int.reduceBEq Int.reduceBNe Int.reducePow Int.reduceDiv Int.reduceMod Int.reduceTDiv Int.reduceTMod Int.reduceNatCast
/-! ### hex.Lower -/
def F52_S1 (a0 : List UInt8) (x1 : Int) (x2 : List (Int)) : St := ⟨[.junk, .junk, .junk, .rsl 0 1 0 x2.length, .junk, .junk, .junk, .junk, .rsl 0 1 0 x2.length, .imm (.int .i64 (a0.length : Int)), .imm (.int .i64 x1), .junk, .junk, .junk, .junk, .junk, .junk, .junk, .junk, .junk, .junk, .junk, .junk, .junk, .junk, .junk], [some (.buf 5 1 (List.map byteT x2) 0)]⟩
def F52_L1 : Nat → (List UInt8) → (Int) → (List (Int)) → Option (List UInt8)
 | 0, _, _, _ => none
 | m1 + 1, a0, x1, x2 => iteB (decide (x1 < (a0.length : Int))) (grd (0 ≤ x1 ∧ x1 < (x2.length : Int)) (grd (x1.toNat < x2.length) ((F61 m1 (x2.getD x1.toNat default)).bind fun v6 => iteB (v6 == (4 : Int)) (grd (0 ≤ x1 ∧ x1 < (x2.length : Int)) (grd (x1.toNat < x2.length) (F52_L1 m1 a0 (IntKind.wrap .i64 (x1 + (1 : Int))) (List.set x2 x1.toNat (IntKind.wrap .u8 ((x2.getD x1.toNat default) + (32 : Int))))))) (F52_L1 m1 a0 (IntKind.wrap .i64 (x1 + (1 : Int))) x2)))) (some (x2.map toB))
def F52 (n : Nat) (a0 : List UInt8) : Option (List UInt8) := F52_L1 n a0 (0 : Int) (a0.map ofB)
set_option maxHeartbeats 4000000 in
theorem F52_ok : ∀ (n : Nat) (a0 : List UInt8) (r : List UInt8), F52 n a0 = some r → FnC Tryd.prog 52 [.imm (.string (bs a0))] (.imm (.string (bs r)))
 | n, a0, r, h => by
  unfold F52 at h
  refine FnC.goX mixed Tryd.func52 (by kernel_rfl) rfl ?_
  simp only [Tryd.ntmps52, List.length_cons, List.length_nil, List.replicate, List.cons_append, List.nil_append, Nat.reduceAdd, Nat.reduceSub]
  refine runX_seq ?_
  refine runX_regionC fun C hC => ?_
  try simp -implicitDefEqProofs (maxSteps := 4000000) (disch := first | omega | decide | (simp only [go_sem]; omega)) only [go_sem, ↓reduceIte]
  repeat (with_reducible refine And.intro (by first | assumption | omega | (simp; done) | (simp; omega)) ?_)
  refine toEnd hC ?_
  refine endX_seq ?_
  refine runX_seq ?_
  refine runX_regionC fun C hC => ?_
  try simp -implicitDefEqProofs (maxSteps := 4000000) (disch := first | omega | decide | (simp only [go_sem]; omega)) only [go_sem, ↓reduceIte]
  repeat (with_reducible refine And.intro (by first | assumption | omega | (simp; done) | (simp; omega)) ?_)
  refine toEnd hC ?_
  refine endX_seq ?_
  refine runX_seq ?_
  refine runX_seq ?_
  refine runX_regionC fun C hC => ?_
  try simp -implicitDefEqProofs (maxSteps := 4000000) (disch := first | omega | decide | (simp only [go_sem]; omega)) only [go_sem, ↓reduceIte]
  repeat (with_reducible refine And.intro (by first | assumption | omega | (simp; done) | (simp; omega)) ?_)
  refine toEnd hC ?_
  refine endX_seq ?_
  refine runX_block ?_
  refine runX_loop [3, 8, 9, 10] (fun m S => ∃ (x1 : Int) (x2 : List (Int)), S = F52_S1 a0 x1 x2 ∧ m ≤ n ∧ F52_L1 m a0 x1 x2 = some r) n ⟨F52_S1 a0 (0 : Int) (a0.map ofB), ?_, (0 : Int), (a0.map ofB), rfl, Nat.le_refl _, h⟩ ?_
  ·simp only [F52_S1]
   (try simp -implicitDefEqProofs (maxSteps := 4000000) (disch := first | omega | decide | (simp only [go_sem]; omega)) only [go_sem, ↓reduceIte])
   first | exact leS_refl _ | (refine leS_le ?_ ?_ <;> first | exact leL_refl _ | exact leOs_refl _ | (simp only [List.append_assoc, List.cons_append, List.nil_append]; exact leOs_refl _) | (refine leOs.cons (by first | exact leO.same _ | (refine leO.box (leT_agg (by repeat (first | exact leL_refl _ | refine leL_cons (by first | exact leT_refl _ | exact leT_virt | exact leT_junk _ | exact leT_sl | exact leT_sln | exact leT_nil | (refine leT_agg (by repeat (first | exact leL_refl _ | refine leL_cons (by first | exact leT_refl _ | exact leT_sl | exact leT_sln | exact leT_nil) ?_)))) ?_))) rfl) | (refine leO.box (by first | exact leT_virt | exact leT_sl | exact leT_sln) rfl)) ?_; repeat (first | exact leOs_refl _ | refine leOs.cons (by first | exact leO.same _ | (refine leO.box (leT_agg (by repeat (first | exact leL_refl _ | refine leL_cons (by first | exact leT_refl _ | exact leT_virt | exact leT_junk _ | exact leT_sl | exact leT_sln | exact leT_nil | (refine leT_agg (by repeat (first | exact leL_refl _ | refine leL_cons (by first | exact leT_refl _ | exact leT_sl | exact leT_sln | exact leT_nil) ?_)))) ?_))) rfl) | (refine leO.box (by first | exact leT_virt | exact leT_sl | exact leT_sln) rfl)) ?_)) | (repeat (first | exact leL_refl _ | refine leL_cons (by first | exact leT_refl _ | exact leT_virt | exact leT_junk _ | exact leT_sl | exact leT_sln | exact leT_nil | (refine leT_agg (by repeat (first | exact leL_refl _ | refine leL_cons (by first | exact leT_refl _ | exact leT_sl | exact leT_sln | exact leT_nil) ?_)))) ?_)))
  ·clear h
   rintro m1 S ⟨x1, x2, rfl, hm1, h⟩
   cases m1 with
   | zero => first | cases (show (none : Option _) = some _ from h) | (rw [F52_L1] at h; cases h)
   | succ m1 =>
    rw [F52_L1] at h
    simp only [F52_S1]
    refine runX_seq ?_
    refine runX_regionC fun C hC => ?_
    try simp -implicitDefEqProofs (maxSteps := 4000000) (disch := first | omega | decide | (simp only [go_sem]; omega)) only [go_sem, ↓reduceIte]
    repeat (with_reducible refine And.intro (by first | assumption | omega | (simp; done) | (simp; omega)) ?_)
    refine toEnd hC ?_
    refine endX_seq ?_
    refine runX_seq ?_
    rcases iteB_some h with ⟨c3, h⟩ | ⟨c3, h⟩
    ·refine runX_condT rfl c3 ?_
     refine runX_skip ?_
     refine endX_seq ?_
     refine runX_seq ?_
     refine runX_block ?_
     refine runX_seq ?_
     refine runX_regionC fun C hC => ?_
     obtain ⟨g4, h⟩ := grd_some h
     obtain ⟨g5, h⟩ := grd_some h
     try simp -implicitDefEqProofs (maxSteps := 4000000) (disch := first | omega | decide | (simp only [go_sem]; omega)) only [go_sem, ↓reduceIte]
     repeat (with_reducible refine And.intro (by first | assumption | omega | (simp; done) | (simp; omega)) ?_)
     refine toEnd hC ?_
     refine endX_seq ?_
     refine runX_seq ?_
     refine runX_regionC fun C hC => ?_
     obtain ⟨v6, h6, h⟩ := bnd_some h
     try simp -implicitDefEqProofs (maxSteps := 4000000) (disch := first | omega | decide | (simp only [go_sem]; omega)) only [go_sem, ↓reduceIte]
     repeat (with_reducible refine And.intro (by first | assumption | omega | (simp; done) | (simp; omega)) ?_)
     refine callG_X (by first | rfl | (simp only [go_sem]; done) | (simp only [closedL, closedT, Bool.and_true]; exact closedL_map _ (fun _ => by first | rfl | (simp only [go_sem]; done)) _)) (F61_ok m1 (x2.getD x1.toNat default) _ h6) (by repeat (first | exact leL_refl _ | refine leL_cons (by first | exact leT_refl _ | exact leT_virt | exact leT_junk _ | exact leT_sl | exact leT_sln | exact leT_nil | (refine leT_agg (by repeat (first | exact leL_refl _ | refine leL_cons (by first | exact leT_refl _ | exact leT_sl | exact leT_sln | exact leT_nil) ?_)))) ?_)) ?_
     try simp -implicitDefEqProofs (maxSteps := 4000000) (disch := first | omega | decide | (simp only [go_sem]; omega)) only [go_sem, ↓reduceIte]
     repeat (with_reducible refine And.intro (by first | assumption | omega | (simp; done) | (simp; omega)) ?_)
     refine toEnd hC ?_
     refine endX_seq ?_
     rcases iteB_some h with ⟨c7, h⟩ | ⟨c7, h⟩
     ·refine runX_condT rfl c7 ?_
      refine runX_regionC fun C hC => ?_
      obtain ⟨g8, h⟩ := grd_some h
      obtain ⟨g9, h⟩ := grd_some h
      try simp -implicitDefEqProofs (maxSteps := 4000000) (disch := first | omega | decide | (simp only [go_sem]; omega)) only [go_sem, ↓reduceIte]
      repeat (with_reducible refine And.intro (by first | assumption | omega | (simp; done) | (simp; omega)) ?_)
      refine toEnd hC ?_
      refine endX_blk ?_
      refine endX_seq ?_
      refine runX_regionC fun C hC => ?_
      try simp -implicitDefEqProofs (maxSteps := 4000000) (disch := first | omega | decide | (simp only [go_sem]; omega)) only [go_sem, ↓reduceIte]
      repeat (with_reducible refine And.intro (by first | assumption | omega | (simp; done) | (simp; omega)) ?_)
      refine toEnd hC ?_
      refine endX_q (roundQ_normal ⟨m1, by omega, F52_S1 a0 (IntKind.wrap .i64 (x1 + (1 : Int))) (List.set x2 x1.toNat (IntKind.wrap .u8 ((x2.getD x1.toNat default) + (32 : Int)))), ?_, (IntKind.wrap .i64 (x1 + (1 : Int))), (List.set x2 x1.toNat (IntKind.wrap .u8 ((x2.getD x1.toNat default) + (32 : Int)))), rfl, by omega, h⟩)
      simp only [F52_S1]
      (try simp -implicitDefEqProofs (maxSteps := 4000000) (disch := first | omega | decide | (simp only [go_sem]; omega)) only [go_sem, ↓reduceIte])
      first | exact leS_refl _ | (refine leS_le ?_ ?_ <;> first | exact leL_refl _ | exact leOs_refl _ | (simp only [List.append_assoc, List.cons_append, List.nil_append]; exact leOs_refl _) | (refine leOs.cons (by first | exact leO.same _ | (refine leO.box (leT_agg (by repeat (first | exact leL_refl _ | refine leL_cons (by first | exact leT_refl _ | exact leT_virt | exact leT_junk _ | exact leT_sl | exact leT_sln | exact leT_nil | (refine leT_agg (by repeat (first | exact leL_refl _ | refine leL_cons (by first | exact leT_refl _ | exact leT_sl | exact leT_sln | exact leT_nil) ?_)))) ?_))) rfl) | (refine leO.box (by first | exact leT_virt | exact leT_sl | exact leT_sln) rfl)) ?_; repeat (first | exact leOs_refl _ | refine leOs.cons (by first | exact leO.same _ | (refine leO.box (leT_agg (by repeat (first | exact leL_refl _ | refine leL_cons (by first | exact leT_refl _ | exact leT_virt | exact leT_junk _ | exact leT_sl | exact leT_sln | exact leT_nil | (refine leT_agg (by repeat (first | exact leL_refl _ | refine leL_cons (by first | exact leT_refl _ | exact leT_sl | exact leT_sln | exact leT_nil) ?_)))) ?_))) rfl) | (refine leO.box (by first | exact leT_virt | exact leT_sl | exact leT_sln) rfl)) ?_)) | (repeat (first | exact leL_refl _ | refine leL_cons (by first | exact leT_refl _ | exact leT_virt | exact leT_junk _ | exact leT_sl | exact leT_sln | exact leT_nil | (refine leT_agg (by repeat (first | exact leL_refl _ | refine leL_cons (by first | exact leT_refl _ | exact leT_sl | exact leT_sln | exact leT_nil) ?_)))) ?_)))
     ·refine runX_condF rfl c7 ?_
      refine runX_skip ?_
      refine endX_blk ?_
      refine endX_seq ?_
      refine runX_regionC fun C hC => ?_
      try simp -implicitDefEqProofs (maxSteps := 4000000) (disch := first | omega | decide | (simp only [go_sem]; omega)) only [go_sem, ↓reduceIte]
      repeat (with_reducible refine And.intro (by first | assumption | omega | (simp; done) | (simp; omega)) ?_)
      refine toEnd hC ?_
      refine endX_q (roundQ_normal ⟨m1, by omega, F52_S1 a0 (IntKind.wrap .i64 (x1 + (1 : Int))) x2, ?_, (IntKind.wrap .i64 (x1 + (1 : Int))), x2, rfl, by omega, h⟩)
      simp only [F52_S1]
      (try simp -implicitDefEqProofs (maxSteps := 4000000) (disch := first | omega | decide | (simp only [go_sem]; omega)) only [go_sem, ↓reduceIte])
      first | exact leS_refl _ | (refine leS_le ?_ ?_ <;> first | exact leL_refl _ | exact leOs_refl _ | (simp only [List.append_assoc, List.cons_append, List.nil_append]; exact leOs_refl _) | (refine leOs.cons (by first | exact leO.same _ | (refine leO.box (leT_agg (by repeat (first | exact leL_refl _ | refine leL_cons (by first | exact leT_refl _ | exact leT_virt | exact leT_junk _ | exact leT_sl | exact leT_sln | exact leT_nil | (refine leT_agg (by repeat (first | exact leL_refl _ | refine leL_cons (by first | exact leT_refl _ | exact leT_sl | exact leT_sln | exact leT_nil) ?_)))) ?_))) rfl) | (refine leO.box (by first | exact leT_virt | exact leT_sl | exact leT_sln) rfl)) ?_; repeat (first | exact leOs_refl _ | refine leOs.cons (by first | exact leO.same _ | (refine leO.box (leT_agg (by repeat (first | exact leL_refl _ | refine leL_cons (by first | exact leT_refl _ | exact leT_virt | exact leT_junk _ | exact leT_sl | exact leT_sln | exact leT_nil | (refine leT_agg (by repeat (first | exact leL_refl _ | refine leL_cons (by first | exact leT_refl _ | exact leT_sl | exact leT_sln | exact leT_nil) ?_)))) ?_))) rfl) | (refine leO.box (by first | exact leT_virt | exact leT_sl | exact leT_sln) rfl)) ?_)) | (repeat (first | exact leL_refl _ | refine leL_cons (by first | exact leT_refl _ | exact leT_virt | exact leT_junk _ | exact leT_sl | exact leT_sln | exact leT_nil | (refine leT_agg (by repeat (first | exact leL_refl _ | refine leL_cons (by first | exact leT_refl _ | exact leT_sl | exact leT_sln | exact leT_nil) ?_)))) ?_)))
    ·refine runX_condF rfl c3 ?_
     refine runX_exit ?_
     refine endX_seqE ?_
     refine endX_q (roundQ_exit ?_)
     refine endX_blkE ?_
     refine endX_seq ?_
     refine runX_seq ?_
     refine runX_regionC fun C hC => ?_
     try simp -implicitDefEqProofs (maxSteps := 4000000) (disch := first | omega | decide | (simp only [go_sem]; omega)) only [go_sem, ↓reduceIte]
     repeat (with_reducible refine And.intro (by first | assumption | omega | (simp; done) | (simp; omega)) ?_)
     refine toEnd hC ?_
     refine endX_seq ?_
     refine runX_ret ?_
     refine endX_q ?_
     obtain rfl := Option.some.inj h
     show RetW _ _ _ _ _
     simp only [RetW]
     (try simp -implicitDefEqProofs (maxSteps := 4000000) (disch := first | omega | decide | (simp only [go_sem]; omega)) only [go_sem, ↓reduceIte])
     (try simp (disch := omega) only [if_pos, Nat.sub_zero])
     exact leT_refl _
end Go.Proofs.YtdaojihnaajfeaaDoorX

set_option linter.unusedVariables false
set_option linter.unusedSimpArgs false
namespace Go.Proofs.YtdaojihnaajfeaaDoorX
open Go Go.RowKit Go.Proofs
set_option maxRecDepth 100000
/-! ### internal/stringslite.IndexByte: by hand (a function without a body stands below it) -/
def F83 (n : Nat) (a0 : List UInt8) (a1 : Int) : Option Int := some (Lib.indexByte a0 a1.toNat.toUInt8)
set_option maxHeartbeats 1000000 in
theorem indexByte_calls (a0 : List UInt8) (a1 : Int) (w : World) :
  Calls Tryd.prog 83 #[.string (bs a0), .int .u8 a1] w fun e w' => e = .returned (.int .i64 (Lib.indexByte a0 a1.toNat.toUInt8)) ∧ Below w.heap.size w w' := by
 go_enter Tryd.func83, Tryd.ntmps83
 go_wp2
 rw [run_callFunc_extern Tryd.func113 (by kernel_rfl) (by kernel_rfl) (by kernel_rfl) (e := Extern.BytealgIndexByte.indexByte) (by kernel_rfl), Lib.run_indexByteString]
 simp only [Result.andThen]
 rw [Oper.upon_value]
 go_wp2
 go_ret
 exact ⟨rfl, Below.refl _ _⟩
theorem F83_ok (n : Nat) (a0 : List UInt8) (a1 : Int) (r : Int) (h : F83 n a0 a1 = some r) : FnC Tryd.prog 83 [.imm (.string (bs a0)), .imm (.int .u8 a1)] (.imm (.int .i64 r)) := by
 obtain rfl := Option.some.inj h
 refine ⟨⟨Tryd.f83, Tryd.func83, by kernel_rfl, rfl⟩, fun w ban vs hban hgi hv => ?_⟩
 have e : vs = #[.string (bs a0), .int .u8 a1] := by
  obtain ⟨l⟩ := vs
  simp only [RepL, Rep] at hv
  obtain ⟨u, us, h1, h2, v, vs', h3, h4, h5⟩ := hv
  simp_all
 rw [e]
 refine (indexByte_calls a0 a1 w).mono ?_
 rintro e w' ⟨rfl, hb⟩
 exact ⟨_, rfl, hb, by simp only [Rep]; exact ⟨trivial, rfl⟩⟩
end Go.Proofs.YtdaojihnaajfeaaDoorX

set_option linter.unusedVariables false
set_option linter.unusedSimpArgs false
namespace Go.Proofs.YtdaojihnaajfeaaDoorX
open Go Go.RowKit Go.Proofs
set_option maxRecDepth 100000
attribute [local go_sem ↓] stepsK_build stepsK_bs appendS
attribute [local go_sem] String.reduceEq String.reduceNe reduceCtorEq Int.reduceEq Nat.reduceAdd Nat.reduceSub Nat.reduceMul Nat.reduceLT Nat.reduceLeDiff Nat.reduceEqDiff Nat.reduceBEq Int.reduceToNat Int.reduceLT Int.reduceLE Int.reduceGT Int.reduceGE Int.reduceAdd Int.reduceSub Int.reduceMul Int.reduceNeg Int.reduceBEq Int.reduceBNe Int.reducePow Int.reduceDiv Int.reduceMod Int.reduceTDiv Int.reduceTMod Int.reduceNatCast
/-! ### strings.IndexByte -/
def F57 (n : Nat) (a0 : List UInt8) (a1 : Int) : Option (Int) := (F83 n a0 a1).bind fun v1 => some v1
set_option maxHeartbeats 4000000 in
theorem F57_ok : ∀ (n : Nat) (a0 : List UInt8) (a1 : Int) (r : Int), F57 n a0 a1 = some r → FnC Tryd.prog 57 [.imm (.string (bs a0)), .imm (.int .u8 a1)] (.imm (.int .i64 r))
 | n, a0, a1, r, h => by
  unfold F57 at h
  refine FnC.goX mixed Tryd.func57 (by kernel_rfl) rfl ?_
  simp only [Tryd.ntmps57, List.length_cons, List.length_nil, List.replicate, List.cons_append, List.nil_append, Nat.reduceAdd, Nat.reduceSub]
  refine runX_seq ?_
  refine runX_regionC fun C hC => ?_
  try simp -implicitDefEqProofs (maxSteps := 4000000) (disch := first | omega | decide | (simp only [go_sem]; omega)) only [go_sem, ↓reduceIte]
  repeat (with_reducible refine And.intro (by first | assumption | omega | (simp; done) | (simp; omega)) ?_)
  refine toEnd hC ?_
  refine endX_seq ?_
  refine runX_seq ?_
  refine runX_regionC fun C hC => ?_
  obtain ⟨v1, h1, h⟩ := bnd_some h
  try simp -implicitDefEqProofs (maxSteps := 4000000) (disch := first | omega | decide | (simp only [go_sem]; omega)) only [go_sem, ↓reduceIte]
  repeat (with_reducible refine And.intro (by first | assumption | omega | (simp; done) | (simp; omega)) ?_)
  refine callG_X (by first | rfl | (simp only [go_sem]; done) | (simp only [closedL, closedT, Bool.and_true]; exact closedL_map _ (fun _ => by first | rfl | (simp only [go_sem]; done)) _)) (F83_ok n a0 a1 _ h1) (by repeat (first | exact leL_refl _ | refine leL_cons (by first | exact leT_refl _ | exact leT_virt | exact leT_junk _ | exact leT_sl | exact leT_sln | exact leT_nil | (refine leT_agg (by repeat (first | exact leL_refl _ | refine leL_cons (by first | exact leT_refl _ | exact leT_sl | exact leT_sln | exact leT_nil) ?_)))) ?_)) ?_
  try simp -implicitDefEqProofs (maxSteps := 4000000) (disch := first | omega | decide | (simp only [go_sem]; omega)) only [go_sem, ↓reduceIte]
  repeat (with_reducible refine And.intro (by first | assumption | omega | (simp; done) | (simp; omega)) ?_)
  refine toEnd hC ?_
  refine endX_seq ?_
  refine runX_ret ?_
  refine endX_q ?_
  obtain rfl := Option.some.inj h
  show RetW _ _ _ _ _
  simp only [RetW]
  (try simp -implicitDefEqProofs (maxSteps := 4000000) (disch := first | omega | decide | (simp only [go_sem]; omega)) only [go_sem, ↓reduceIte])
  (try simp (disch := omega) only [if_pos, Nat.sub_zero])
  exact leT_refl _
end Go.Proofs.YtdaojihnaajfeaaDoorX

set_option linter.unusedVariables false
set_option linter.unusedSimpArgs false
namespace Go.Proofs.YtdaojihnaajfeaaDoorX
open Go Go.RowKit Go.Proofs
set_option maxRecDepth 100000
attribute [local go_sem ↓] stepsK_build stepsK_bs appendS
attribute [local go_sem] String.reduceEq String.reduceNe reduceCtorEq Int.reduceEq Nat.reduceAdd Nat.reduceSub Nat.reduceMul Nat.reduceLT Nat.reduceLeDiff Nat.reduceEqDiff Nat.reduceBEq Int.reduceToNat Int.reduceLT Int.reduceLE Int.reduceGT Int.reduceGE Int.reduceAdd Int.reduceSub Int.reduceMul Int.reduceNeg Int.reduceBEq Int.reduceBNe Int.reducePow Int.reduceDiv Int.reduceMod Int.reduceTDiv Int.reduceTMod Int.reduceNatCast
/-! ### hex.value -/
def F91 (n : Nat) (a0 : Int) : Option ((Int) × (Bool)) := (F61 n a0).bind fun v1 => iteB (v1 == (1 : Int)) (some ((IntKind.wrap .u8 (a0 - (48 : Int))), true)) (iteB (v1 == (2 : Int)) (some ((IntKind.wrap .u8 ((IntKind.wrap .u8 (a0 - (97 : Int))) + (10 : Int))), true)) (some ((0 : Int), false)))
set_option maxHeartbeats 4000000 in
theorem F91_ok : ∀ (n : Nat) (a0 : Int) (r : (Int) × (Bool)), F91 n a0 = some r → FnC Tryd.prog 91 [.imm (.int .u8 a0)] (.tup [.imm (.int .u8 r.1), .imm (.bool r.2)])
 | n, a0, r, h => by
  unfold F91 at h
  refine FnC.goX mixed Tryd.func91 (by kernel_rfl) rfl ?_
  simp only [Tryd.ntmps91, List.length_cons, List.length_nil, List.replicate, List.cons_append, List.nil_append, Nat.reduceAdd, Nat.reduceSub]
  refine runX_seq ?_
  refine runX_regionC fun C hC => ?_
  try simp -implicitDefEqProofs (maxSteps := 4000000) (disch := first | omega | decide | (simp only [go_sem]; omega)) only [go_sem, ↓reduceIte]
  repeat (with_reducible refine And.intro (by first | assumption | omega | (simp; done) | (simp; omega)) ?_)
  refine toEnd hC ?_
  refine endX_seq ?_
  refine runX_seq ?_
  refine runX_seq ?_
  refine runX_regionC fun C hC => ?_
  obtain ⟨v1, h1, h⟩ := bnd_some h
  try simp -implicitDefEqProofs (maxSteps := 4000000) (disch := first | omega | decide | (simp only [go_sem]; omega)) only [go_sem, ↓reduceIte]
  repeat (with_reducible refine And.intro (by first | assumption | omega | (simp; done) | (simp; omega)) ?_)
  refine callG_X (by first | rfl | (simp only [go_sem]; done) | (simp only [closedL, closedT, Bool.and_true]; exact closedL_map _ (fun _ => by first | rfl | (simp only [go_sem]; done)) _)) (F61_ok n a0 _ h1) (by repeat (first | exact leL_refl _ | refine leL_cons (by first | exact leT_refl _ | exact leT_virt | exact leT_junk _ | exact leT_sl | exact leT_sln | exact leT_nil | (refine leT_agg (by repeat (first | exact leL_refl _ | refine leL_cons (by first | exact leT_refl _ | exact leT_sl | exact leT_sln | exact leT_nil) ?_)))) ?_)) ?_
  try simp -implicitDefEqProofs (maxSteps := 4000000) (disch := first | omega | decide | (simp only [go_sem]; omega)) only [go_sem, ↓reduceIte]
  repeat (with_reducible refine And.intro (by first | assumption | omega | (simp; done) | (simp; omega)) ?_)
  refine toEnd hC ?_
  refine endX_seq ?_
  refine runX_block ?_
  refine runX_seq ?_
  refine runX_regionC fun C hC => ?_
  try simp -implicitDefEqProofs (maxSteps := 4000000) (disch := first | omega | decide | (simp only [go_sem]; omega)) only [go_sem, ↓reduceIte]
  repeat (with_reducible refine And.intro (by first | assumption | omega | (simp; done) | (simp; omega)) ?_)
  refine toEnd hC ?_
  refine endX_seq ?_
  rcases iteB_some h with ⟨c2, h⟩ | ⟨c2, h⟩
  ·refine runX_condT rfl c2 ?_
   refine runX_seq ?_
   refine runX_regionC fun C hC => ?_
   try simp -implicitDefEqProofs (maxSteps := 4000000) (disch := first | omega | decide | (simp only [go_sem]; omega)) only [go_sem, ↓reduceIte]
   repeat (with_reducible refine And.intro (by first | assumption | omega | (simp; done) | (simp; omega)) ?_)
   refine toEnd hC ?_
   refine endX_seq ?_
   refine runX_ret ?_
   refine endX_blkR ?_
   refine endX_seqR ?_
   refine endX_q ?_
   obtain rfl := Option.some.inj h
   show RetW _ _ _ _ _
   simp only [RetW]
   (try simp -implicitDefEqProofs (maxSteps := 4000000) (disch := first | omega | decide | (simp only [go_sem]; omega)) only [go_sem, ↓reduceIte])
   (try simp (disch := omega) only [if_pos, Nat.sub_zero])
   exact leT_refl _
  ·refine runX_condF rfl c2 ?_
   refine runX_seq ?_
   refine runX_regionC fun C hC => ?_
   try simp -implicitDefEqProofs (maxSteps := 4000000) (disch := first | omega | decide | (simp only [go_sem]; omega)) only [go_sem, ↓reduceIte]
   repeat (with_reducible refine And.intro (by first | assumption | omega | (simp; done) | (simp; omega)) ?_)
   refine toEnd hC ?_
   refine endX_seq ?_
   rcases iteB_some h with ⟨c3, h⟩ | ⟨c3, h⟩
   ·refine runX_condT rfl c3 ?_
    refine runX_seq ?_
    refine runX_regionC fun C hC => ?_
    try simp -implicitDefEqProofs (maxSteps := 4000000) (disch := first | omega | decide | (simp only [go_sem]; omega)) only [go_sem, ↓reduceIte]
    repeat (with_reducible refine And.intro (by first | assumption | omega | (simp; done) | (simp; omega)) ?_)
    refine toEnd hC ?_
    refine endX_seq ?_
    refine runX_ret ?_
    refine endX_blkR ?_
    refine endX_seqR ?_
    refine endX_q ?_
    obtain rfl := Option.some.inj h
    show RetW _ _ _ _ _
    simp only [RetW]
    (try simp -implicitDefEqProofs (maxSteps := 4000000) (disch := first | omega | decide | (simp only [go_sem]; omega)) only [go_sem, ↓reduceIte])
    (try simp (disch := omega) only [if_pos, Nat.sub_zero])
    exact leT_refl _
   ·refine runX_condF rfl c3 ?_
    refine runX_skip ?_
    refine endX_blk ?_
    refine endX_seq ?_
    refine runX_seq ?_
    refine runX_regionC fun C hC => ?_
    try simp -implicitDefEqProofs (maxSteps := 4000000) (disch := first | omega | decide | (simp only [go_sem]; omega)) only [go_sem, ↓reduceIte]
    repeat (with_reducible refine And.intro (by first | assumption | omega | (simp; done) | (simp; omega)) ?_)
    refine toEnd hC ?_
    refine endX_seq ?_
    refine runX_ret ?_
    refine endX_q ?_
    obtain rfl := Option.some.inj h
    show RetW _ _ _ _ _
    simp only [RetW]
    (try simp -implicitDefEqProofs (maxSteps := 4000000) (disch := first | omega | decide | (simp only [go_sem]; omega)) only [go_sem, ↓reduceIte])
    (try simp (disch := omega) only [if_pos, Nat.sub_zero])
    exact leT_refl _
end Go.Proofs.YtdaojihnaajfeaaDoorX

set_option linter.unusedVariables false
set_option linter.unusedSimpArgs false
namespace Go.Proofs.YtdaojihnaajfeaaDoorX
open Go Go.RowKit Go.Proofs
set_option maxRecDepth 100000
attribute [local go_sem ↓] stepsK_build stepsK_bs appendS
attribute [local go_sem] String.reduceEq String.reduceNe reduceCtorEq Int.reduceEq Nat.reduceAdd Nat.reduceSub Nat.reduceMul Nat.reduceLT Nat.reduceLeDiff Nat.reduceEqDiff Nat.reduceBEq Int.reduceToNat Int.reduceLT Int.reduceLE Int.reduceGT Int.reduceGE Int.reduceAdd Int.reduceSub Int.reduceMul Int.reduceNeg Int.reduceBEq Int.reduceBNe Int.reducePow Int.reduceDiv Int.reduceMod Int.reduceTDiv Int.reduceTMod Int.reduceNatCast
/-! ### hex.ReadHex -/
def F58_S1 (a0 : List UInt8) (x2 : Int) (x3 : List (Int)) : St := ⟨[.imm (.string (bs a0)), .junk, .junk, .junk, .rsl 0 1 0 x3.length, .imm (.int .i64 x2), .junk, .junk, .junk, .junk, .junk, .junk, .junk, .junk, .junk, .junk, .junk, .junk, .junk, .junk, .junk, .junk, .junk, .junk, .junk, .junk, .junk, .junk, .junk, .junk, .junk, .junk, .junk, .junk, .junk, .junk, .junk, .junk, .junk, .junk, .junk, .junk, .junk, .junk, .junk, .junk, .junk, .junk, .junk], [some (.buf 5 1 (List.map byteT x3) 0)]⟩
def F58_L1 : Nat → (List UInt8) → (Int) → (List (Int)) → Option ((List (Int)) × (Bool))
 | 0, _, _, _ => none
 | m1 + 1, a0, x2, x3 => iteB (decide (x2 < (a0.length : Int))) (grd (0 ≤ x2 ∧ x2 < (a0.length : Int)) ((F91 m1 ((a0.getD x2.toNat 0).toNat : Int)).bind fun v6 => grd (0 ≤ (IntKind.wrap .i64 (x2 + (1 : Int))) ∧ (IntKind.wrap .i64 (x2 + (1 : Int))) < (a0.length : Int)) ((F91 m1 ((a0.getD (IntKind.wrap .i64 (x2 + (1 : Int))).toNat 0).toNat : Int)).bind fun v8 => iteB (!v6.2) (some ([], false)) (iteB (!v8.2) (some ([], false)) (grd ((x3.length + 1) ≤ 549755813888) (F58_L1 m1 a0 (IntKind.wrap .i64 (x2 + (2 : Int))) (x3 ++ [(IntKind.wrap .u8 (bOr .u8 (IntKind.wrap .u8 (bShl .u8 v6.1 4)) v8.1))]))))))) (some (x3, true))
def F58 (n : Nat) (a0 : List UInt8) : Option ((List (Int)) × (Bool)) := iteB (((a0.length : Int).tmod (2 : Int)) != (0 : Int)) (some ([], false)) (F58_L1 n a0 (0 : Int) [])
set_option maxHeartbeats 4000000 in
theorem F58_ok : ∀ (n : Nat) (a0 : List UInt8) (r : (List (Int)) × (Bool)), F58 n a0 = some r → FnC Tryd.prog 58 [.imm (.string (bs a0))] (.tup [.sl 1 false (List.map byteT r.1), .imm (.bool r.2)])
 | n, a0, r, h => by
  unfold F58 at h
  refine FnC.goX mixed Tryd.func58 (by kernel_rfl) rfl ?_
  simp only [Tryd.ntmps58, List.length_cons, List.length_nil, List.replicate, List.cons_append, List.nil_append, Nat.reduceAdd, Nat.reduceSub]
  refine runX_seq ?_
  refine runX_regionC fun C hC => ?_
  try simp -implicitDefEqProofs (maxSteps := 4000000) (disch := first | omega | decide | (simp only [go_sem]; omega)) only [go_sem, ↓reduceIte]
  repeat (with_reducible refine And.intro (by first | assumption | omega | (simp; done) | (simp; omega)) ?_)
  refine toEnd hC ?_
  refine endX_seq ?_
  refine runX_seq ?_
  refine runX_seq ?_
  refine runX_regionC fun C hC => ?_
  try simp -implicitDefEqProofs (maxSteps := 4000000) (disch := first | omega | decide | (simp only [go_sem]; omega)) only [go_sem, ↓reduceIte]
  repeat (with_reducible refine And.intro (by first | assumption | omega | (simp; done) | (simp; omega)) ?_)
  refine toEnd hC ?_
  refine endX_seq ?_
  rcases iteB_some h with ⟨c1, h⟩ | ⟨c1, h⟩
  ·refine runX_condT rfl c1 ?_
   refine runX_seq ?_
   refine runX_regionC fun C hC => ?_
   try simp -implicitDefEqProofs (maxSteps := 4000000) (disch := first | omega | decide | (simp only [go_sem]; omega)) only [go_sem, ↓reduceIte]
   repeat (with_reducible refine And.intro (by first | assumption | omega | (simp; done) | (simp; omega)) ?_)
   refine toEnd hC ?_
   refine endX_seq ?_
   refine runX_ret ?_
   refine endX_seqR ?_
   refine endX_q ?_
   obtain rfl := Option.some.inj h
   show RetW _ _ _ _ _
   simp only [RetW]
   (try simp -implicitDefEqProofs (maxSteps := 4000000) (disch := first | omega | decide | (simp only [go_sem]; omega)) only [go_sem, ↓reduceIte])
   (try simp (disch := omega) only [if_pos, Nat.sub_zero])
   first | exact leT_refl _ | (refine ⟨rfl, ?_⟩; first | exact leT_refl _ | exact leT_sl | exact leT_sln | exact leT_nil | (refine leT_tup (by repeat (first | exact leL_refl _ | refine leL_cons (by first | exact leT_refl _ | exact leT_virt | exact leT_junk _ | exact leT_sl | exact leT_sln | exact leT_nil | (refine leT_agg (by repeat (first | exact leL_refl _ | refine leL_cons (by first | exact leT_refl _ | exact leT_sl | exact leT_sln | exact leT_nil) ?_)))) ?_))) | (refine leT_agg (by repeat (first | exact leL_refl _ | refine leL_cons (by first | exact leT_refl _ | exact leT_virt | exact leT_junk _ | exact leT_sl | exact leT_sln | exact leT_nil | (refine leT_agg (by repeat (first | exact leL_refl _ | refine leL_cons (by first | exact leT_refl _ | exact leT_sl | exact leT_sln | exact leT_nil) ?_)))) ?_)))) | (first | exact leT_refl _ | exact leT_sl | exact leT_sln | exact leT_nil | (refine leT_tup (by repeat (first | exact leL_refl _ | refine leL_cons (by first | exact leT_refl _ | exact leT_virt | exact leT_junk _ | exact leT_sl | exact leT_sln | exact leT_nil | (refine leT_agg (by repeat (first | exact leL_refl _ | refine leL_cons (by first | exact leT_refl _ | exact leT_sl | exact leT_sln | exact leT_nil) ?_)))) ?_))) | (refine leT_agg (by repeat (first | exact leL_refl _ | refine leL_cons (by first | exact leT_refl _ | exact leT_virt | exact leT_junk _ | exact leT_sl | exact leT_sln | exact leT_nil | (refine leT_agg (by repeat (first | exact leL_refl _ | refine leL_cons (by first | exact leT_refl _ | exact leT_sl | exact leT_sln | exact leT_nil) ?_)))) ?_)))) | (simp only [List.append_assoc, List.cons_append, List.nil_append]; exact leT_refl _) | (rw [List.take_of_length_le (by first | (simp; done) | (simp; omega))]; (try simp only [List.append_assoc, List.cons_append, List.nil_append]); exact leT_refl _) | ((try simp (disch := first | omega | (simp; done) | (simp; omega)) only [if_pos, Nat.sub_zero, List.take_of_length_le]); (try simp only [List.append_assoc, List.cons_append, List.nil_append]); first | exact leT_refl _ | exact ⟨rfl, leT_refl _⟩)
  ·refine runX_condF rfl c1 ?_
   refine runX_skip ?_
   refine endX_seq ?_
   refine runX_seq ?_
   refine runX_regionC fun C hC => ?_
   try simp -implicitDefEqProofs (maxSteps := 4000000) (disch := first | omega | decide | (simp only [go_sem]; omega)) only [go_sem, ↓reduceIte]
   repeat (with_reducible refine And.intro (by first | assumption | omega | (simp; done) | (simp; omega)) ?_)
   refine toEnd hC ?_
   refine endX_seq ?_
   refine runX_seq ?_
   refine runX_seq ?_
   refine runX_regionC fun C hC => ?_
   try simp -implicitDefEqProofs (maxSteps := 4000000) (disch := first | omega | decide | (simp only [go_sem]; omega)) only [go_sem, ↓reduceIte]
   repeat (with_reducible refine And.intro (by first | assumption | omega | (simp; done) | (simp; omega)) ?_)
   refine toEnd hC ?_
   refine endX_seq ?_
   refine runX_block ?_
   refine runX_loop [0, 4, 5] (fun m S => ∃ (x2 : Int) (x3 : List (Int)), S = F58_S1 a0 x2 x3 ∧ m ≤ n ∧ F58_L1 m a0 x2 x3 = some r) n ⟨F58_S1 a0 (0 : Int) [], ?_, (0 : Int), [], rfl, Nat.le_refl _, h⟩ ?_
   ·(try simp -implicitDefEqProofs (maxSteps := 4000000) (disch := first | omega | decide | (simp only [go_sem]; omega)) only [go_sem, ↓reduceIte])
    simp only [F58_S1]
    refine leS_trans (leS_pad _ _ 1) ?_
    simp only [List.replicate, List.cons_append, List.nil_append]
    refine leS_virt 0 5 1 rfl ?_ ?_ rfl
    ·repeat (first | exact leL_refl _ | refine leL_cons (by first | exact leT_refl _ | exact leT_virt | exact leT_junk _ | exact leT_sl | exact leT_sln | exact leT_nil | (refine leT_agg (by repeat (first | exact leL_refl _ | refine leL_cons (by first | exact leT_refl _ | exact leT_sl | exact leT_sln | exact leT_nil) ?_)))) ?_)
    ·repeat (first | exact leOs_refl _ | refine leOs.cons (by first | exact leO.same _ | (refine leO.box (leT_agg (by repeat (first | exact leL_refl _ | refine leL_cons (by first | exact leT_refl _ | exact leT_virt | exact leT_junk _ | exact leT_sl | exact leT_sln | exact leT_nil | (refine leT_agg (by repeat (first | exact leL_refl _ | refine leL_cons (by first | exact leT_refl _ | exact leT_sl | exact leT_sln | exact leT_nil) ?_)))) ?_))) rfl) | (refine leO.box (by first | exact leT_virt | exact leT_sl | exact leT_sln) rfl)) ?_)
   ·clear h
    rintro m1 S ⟨x2, x3, rfl, hm1, h⟩
    cases m1 with
    | zero => first | cases (show (none : Option _) = some _ from h) | (rw [F58_L1] at h; cases h)
    | succ m1 =>
     rw [F58_L1] at h
     simp only [F58_S1]
     refine runX_seq ?_
     refine runX_seq ?_
     refine runX_regionC fun C hC => ?_
     try simp -implicitDefEqProofs (maxSteps := 4000000) (disch := first | omega | decide | (simp only [go_sem]; omega)) only [go_sem, ↓reduceIte]
     repeat (with_reducible refine And.intro (by first | assumption | omega | (simp; done) | (simp; omega)) ?_)
     refine toEnd hC ?_
     refine endX_seq ?_
     rcases iteB_some h with ⟨c4, h⟩ | ⟨c4, h⟩
     ·refine runX_condT rfl c4 ?_
      refine runX_skip ?_
      refine endX_seq ?_
      refine runX_seq ?_
      refine runX_block ?_
      refine runX_seq ?_
      refine runX_regionC fun C hC => ?_
      obtain ⟨g5, h⟩ := grd_some h
      obtain ⟨v6, h6, h⟩ := bnd_some h
      try simp -implicitDefEqProofs (maxSteps := 4000000) (disch := first | omega | decide | (simp only [go_sem]; omega)) only [go_sem, ↓reduceIte]
      repeat (with_reducible refine And.intro (by first | assumption | omega | (simp; done) | (simp; omega)) ?_)
      refine callG_X (by first | rfl | (simp only [go_sem]; done) | (simp only [closedL, closedT, Bool.and_true]; exact closedL_map _ (fun _ => by first | rfl | (simp only [go_sem]; done)) _)) (F91_ok m1 ((a0.getD x2.toNat 0).toNat : Int) _ h6) (by repeat (first | exact leL_refl _ | refine leL_cons (by first | exact leT_refl _ | exact leT_virt | exact leT_junk _ | exact leT_sl | exact leT_sln | exact leT_nil | (refine leT_agg (by repeat (first | exact leL_refl _ | refine leL_cons (by first | exact leT_refl _ | exact leT_sl | exact leT_sln | exact leT_nil) ?_)))) ?_)) ?_
      try simp -implicitDefEqProofs (maxSteps := 4000000) (disch := first | omega | decide | (simp only [go_sem]; omega)) only [go_sem, ↓reduceIte]
      repeat (with_reducible refine And.intro (by first | assumption | omega | (simp; done) | (simp; omega)) ?_)
      refine toEnd hC ?_
      refine endX_seq ?_
      refine runX_seq ?_
      refine runX_regionC fun C hC => ?_
      obtain ⟨g7, h⟩ := grd_some h
      obtain ⟨v8, h8, h⟩ := bnd_some h
      try simp -implicitDefEqProofs (maxSteps := 4000000) (disch := first | omega | decide | (simp only [go_sem]; omega)) only [go_sem, ↓reduceIte]
      repeat (with_reducible refine And.intro (by first | assumption | omega | (simp; done) | (simp; omega)) ?_)
      refine callG_X (by first | rfl | (simp only [go_sem]; done) | (simp only [closedL, closedT, Bool.and_true]; exact closedL_map _ (fun _ => by first | rfl | (simp only [go_sem]; done)) _)) (F91_ok m1 ((a0.getD (IntKind.wrap .i64 (x2 + (1 : Int))).toNat 0).toNat : Int) _ h8) (by repeat (first | exact leL_refl _ | refine leL_cons (by first | exact leT_refl _ | exact leT_virt | exact leT_junk _ | exact leT_sl | exact leT_sln | exact leT_nil | (refine leT_agg (by repeat (first | exact leL_refl _ | refine leL_cons (by first | exact leT_refl _ | exact leT_sl | exact leT_sln | exact leT_nil) ?_)))) ?_)) ?_
      try simp -implicitDefEqProofs (maxSteps := 4000000) (disch := first | omega | decide | (simp only [go_sem]; omega)) only [go_sem, ↓reduceIte]
      repeat (with_reducible refine And.intro (by first | assumption | omega | (simp; done) | (simp; omega)) ?_)
      refine toEnd hC ?_
      refine endX_seq ?_
      refine runX_seq ?_
      refine runX_seq ?_
      refine runX_regionC fun C hC => ?_
      try simp -implicitDefEqProofs (maxSteps := 4000000) (disch := first | omega | decide | (simp only [go_sem]; omega)) only [go_sem, ↓reduceIte]
      repeat (with_reducible refine And.intro (by first | assumption | omega | (simp; done) | (simp; omega)) ?_)
      rcases iteB_some h with ⟨c9, h⟩ | ⟨c9, h⟩
      ·refine guardK_F c9 ?_
       try simp -implicitDefEqProofs (maxSteps := 4000000) (disch := first | omega | decide | (simp only [go_sem]; omega)) only [go_sem, ↓reduceIte]
       repeat (with_reducible refine And.intro (by first | assumption | omega | (simp; done) | (simp; omega)) ?_)
       refine toEnd hC ?_
       refine endX_seq ?_
       refine runX_condT rfl rfl ?_
       refine runX_seq ?_
       refine runX_regionC fun C hC => ?_
       try simp -implicitDefEqProofs (maxSteps := 4000000) (disch := first | omega | decide | (simp only [go_sem]; omega)) only [go_sem, ↓reduceIte]
       repeat (with_reducible refine And.intro (by first | assumption | omega | (simp; done) | (simp; omega)) ?_)
       refine toEnd hC ?_
       refine endX_seq ?_
       refine runX_ret ?_
       refine endX_seqR ?_
       refine endX_blkR ?_
       refine endX_seqR ?_
       refine endX_q (roundQ_ret ?_)
       refine endX_blkR ?_
       refine endX_seqR ?_
       refine endX_q ?_
       obtain rfl := Option.some.inj h
       show RetW _ _ _ _ _
       simp only [RetW]
       (try simp -implicitDefEqProofs (maxSteps := 4000000) (disch := first | omega | decide | (simp only [go_sem]; omega)) only [go_sem, ↓reduceIte])
       (try simp (disch := omega) only [if_pos, Nat.sub_zero])
       first | exact leT_refl _ | (refine ⟨rfl, ?_⟩; first | exact leT_refl _ | exact leT_sl | exact leT_sln | exact leT_nil | (refine leT_tup (by repeat (first | exact leL_refl _ | refine leL_cons (by first | exact leT_refl _ | exact leT_virt | exact leT_junk _ | exact leT_sl | exact leT_sln | exact leT_nil | (refine leT_agg (by repeat (first | exact leL_refl _ | refine leL_cons (by first | exact leT_refl _ | exact leT_sl | exact leT_sln | exact leT_nil) ?_)))) ?_))) | (refine leT_agg (by repeat (first | exact leL_refl _ | refine leL_cons (by first | exact leT_refl _ | exact leT_virt | exact leT_junk _ | exact leT_sl | exact leT_sln | exact leT_nil | (refine leT_agg (by repeat (first | exact leL_refl _ | refine leL_cons (by first | exact leT_refl _ | exact leT_sl | exact leT_sln | exact leT_nil) ?_)))) ?_)))) | (first | exact leT_refl _ | exact leT_sl | exact leT_sln | exact leT_nil | (refine leT_tup (by repeat (first | exact leL_refl _ | refine leL_cons (by first | exact leT_refl _ | exact leT_virt | exact leT_junk _ | exact leT_sl | exact leT_sln | exact leT_nil | (refine leT_agg (by repeat (first | exact leL_refl _ | refine leL_cons (by first | exact leT_refl _ | exact leT_sl | exact leT_sln | exact leT_nil) ?_)))) ?_))) | (refine leT_agg (by repeat (first | exact leL_refl _ | refine leL_cons (by first | exact leT_refl _ | exact leT_virt | exact leT_junk _ | exact leT_sl | exact leT_sln | exact leT_nil | (refine leT_agg (by repeat (first | exact leL_refl _ | refine leL_cons (by first | exact leT_refl _ | exact leT_sl | exact leT_sln | exact leT_nil) ?_)))) ?_)))) | (simp only [List.append_assoc, List.cons_append, List.nil_append]; exact leT_refl _) | (rw [List.take_of_length_le (by first | (simp; done) | (simp; omega))]; (try simp only [List.append_assoc, List.cons_append, List.nil_append]); exact leT_refl _) | ((try simp (disch := first | omega | (simp; done) | (simp; omega)) only [if_pos, Nat.sub_zero, List.take_of_length_le]); (try simp only [List.append_assoc, List.cons_append, List.nil_append]); first | exact leT_refl _ | exact ⟨rfl, leT_refl _⟩)
      ·refine guardK_T c9 ?_
       try simp -implicitDefEqProofs (maxSteps := 4000000) (disch := first | omega | decide | (simp only [go_sem]; omega)) only [go_sem, ↓reduceIte]
       repeat (with_reducible refine And.intro (by first | assumption | omega | (simp; done) | (simp; omega)) ?_)
       refine toEnd hC ?_
       refine endX_seq ?_
       rcases iteB_some h with ⟨c10, h⟩ | ⟨c10, h⟩
       ·refine runX_condT rfl c10 ?_
        refine runX_seq ?_
        refine runX_regionC fun C hC => ?_
        try simp -implicitDefEqProofs (maxSteps := 4000000) (disch := first | omega | decide | (simp only [go_sem]; omega)) only [go_sem, ↓reduceIte]
        repeat (with_reducible refine And.intro (by first | assumption | omega | (simp; done) | (simp; omega)) ?_)
        refine toEnd hC ?_
        refine endX_seq ?_
        refine runX_ret ?_
        refine endX_seqR ?_
        refine endX_blkR ?_
        refine endX_seqR ?_
        refine endX_q (roundQ_ret ?_)
        refine endX_blkR ?_
        refine endX_seqR ?_
        refine endX_q ?_
        obtain rfl := Option.some.inj h
        show RetW _ _ _ _ _
        simp only [RetW]
        (try simp -implicitDefEqProofs (maxSteps := 4000000) (disch := first | omega | decide | (simp only [go_sem]; omega)) only [go_sem, ↓reduceIte])
        (try simp (disch := omega) only [if_pos, Nat.sub_zero])
        first | exact leT_refl _ | (refine ⟨rfl, ?_⟩; first | exact leT_refl _ | exact leT_sl | exact leT_sln | exact leT_nil | (refine leT_tup (by repeat (first | exact leL_refl _ | refine leL_cons (by first | exact leT_refl _ | exact leT_virt | exact leT_junk _ | exact leT_sl | exact leT_sln | exact leT_nil | (refine leT_agg (by repeat (first | exact leL_refl _ | refine leL_cons (by first | exact leT_refl _ | exact leT_sl | exact leT_sln | exact leT_nil) ?_)))) ?_))) | (refine leT_agg (by repeat (first | exact leL_refl _ | refine leL_cons (by first | exact leT_refl _ | exact leT_virt | exact leT_junk _ | exact leT_sl | exact leT_sln | exact leT_nil | (refine leT_agg (by repeat (first | exact leL_refl _ | refine leL_cons (by first | exact leT_refl _ | exact leT_sl | exact leT_sln | exact leT_nil) ?_)))) ?_)))) | (first | exact leT_refl _ | exact leT_sl | exact leT_sln | exact leT_nil | (refine leT_tup (by repeat (first | exact leL_refl _ | refine leL_cons (by first | exact leT_refl _ | exact leT_virt | exact leT_junk _ | exact leT_sl | exact leT_sln | exact leT_nil | (refine leT_agg (by repeat (first | exact leL_refl _ | refine leL_cons (by first | exact leT_refl _ | exact leT_sl | exact leT_sln | exact leT_nil) ?_)))) ?_))) | (refine leT_agg (by repeat (first | exact leL_refl _ | refine leL_cons (by first | exact leT_refl _ | exact leT_virt | exact leT_junk _ | exact leT_sl | exact leT_sln | exact leT_nil | (refine leT_agg (by repeat (first | exact leL_refl _ | refine leL_cons (by first | exact leT_refl _ | exact leT_sl | exact leT_sln | exact leT_nil) ?_)))) ?_)))) | (simp only [List.append_assoc, List.cons_append, List.nil_append]; exact leT_refl _) | (rw [List.take_of_length_le (by first | (simp; done) | (simp; omega))]; (try simp only [List.append_assoc, List.cons_append, List.nil_append]); exact leT_refl _) | ((try simp (disch := first | omega | (simp; done) | (simp; omega)) only [if_pos, Nat.sub_zero, List.take_of_length_le]); (try simp only [List.append_assoc, List.cons_append, List.nil_append]); first | exact leT_refl _ | exact ⟨rfl, leT_refl _⟩)
       ·refine runX_condF rfl c10 ?_
        refine runX_skip ?_
        refine endX_seq ?_
        refine runX_regionC fun C hC => ?_
        try simp -implicitDefEqProofs (maxSteps := 4000000) (disch := first | omega | decide | (simp only [go_sem]; omega)) only [go_sem, ↓reduceIte]
        repeat (with_reducible refine And.intro (by first | assumption | omega | (simp; done) | (simp; omega)) ?_)
        refine bs_go <| buildX_val ?_
        obtain ⟨g11, h⟩ := grd_some h
        try simp -implicitDefEqProofs (maxSteps := 4000000) (disch := first | omega | decide | (simp only [go_sem]; omega)) only [go_sem, ↓reduceIte]
        repeat (with_reducible refine And.intro (by first | assumption | omega | (simp; done) | (simp; omega)) ?_)
        refine toEnd hC ?_
        refine endX_blk ?_
        refine endX_seq ?_
        refine runX_regionC fun C hC => ?_
        try simp -implicitDefEqProofs (maxSteps := 4000000) (disch := first | omega | decide | (simp only [go_sem]; omega)) only [go_sem, ↓reduceIte]
        repeat (with_reducible refine And.intro (by first | assumption | omega | (simp; done) | (simp; omega)) ?_)
        refine toEnd hC ?_
        refine endX_q (roundQ_normal ⟨m1, by omega, F58_S1 a0 (IntKind.wrap .i64 (x2 + (2 : Int))) (x3 ++ [(IntKind.wrap .u8 (bOr .u8 (IntKind.wrap .u8 (bShl .u8 v6.1 4)) v8.1))]), ?_, (IntKind.wrap .i64 (x2 + (2 : Int))), (x3 ++ [(IntKind.wrap .u8 (bOr .u8 (IntKind.wrap .u8 (bShl .u8 v6.1 4)) v8.1))]), rfl, by omega, h⟩)
        simp only [F58_S1]
        (try simp -implicitDefEqProofs (maxSteps := 4000000) (disch := first | omega | decide | (simp only [go_sem]; omega)) only [go_sem, ↓reduceIte])
        first | exact leS_refl _ | (refine leS_le ?_ ?_ <;> first | exact leL_refl _ | exact leOs_refl _ | (simp only [List.append_assoc, List.cons_append, List.nil_append]; exact leOs_refl _) | (refine leOs.cons (by first | exact leO.same _ | (refine leO.box (leT_agg (by repeat (first | exact leL_refl _ | refine leL_cons (by first | exact leT_refl _ | exact leT_virt | exact leT_junk _ | exact leT_sl | exact leT_sln | exact leT_nil | (refine leT_agg (by repeat (first | exact leL_refl _ | refine leL_cons (by first | exact leT_refl _ | exact leT_sl | exact leT_sln | exact leT_nil) ?_)))) ?_))) rfl) | (refine leO.box (by first | exact leT_virt | exact leT_sl | exact leT_sln) rfl)) ?_; repeat (first | exact leOs_refl _ | refine leOs.cons (by first | exact leO.same _ | (refine leO.box (leT_agg (by repeat (first | exact leL_refl _ | refine leL_cons (by first | exact leT_refl _ | exact leT_virt | exact leT_junk _ | exact leT_sl | exact leT_sln | exact leT_nil | (refine leT_agg (by repeat (first | exact leL_refl _ | refine leL_cons (by first | exact leT_refl _ | exact leT_sl | exact leT_sln | exact leT_nil) ?_)))) ?_))) rfl) | (refine leO.box (by first | exact leT_virt | exact leT_sl | exact leT_sln) rfl)) ?_)) | (repeat (first | exact leL_refl _ | refine leL_cons (by first | exact leT_refl _ | exact leT_virt | exact leT_junk _ | exact leT_sl | exact leT_sln | exact leT_nil | (refine leT_agg (by repeat (first | exact leL_refl _ | refine leL_cons (by first | exact leT_refl _ | exact leT_sl | exact leT_sln | exact leT_nil) ?_)))) ?_)))
     ·refine runX_condF rfl c4 ?_
      refine runX_exit ?_
      refine endX_seqE ?_
      refine endX_q (roundQ_exit ?_)
      refine endX_blkE ?_
      refine endX_seq ?_
      refine runX_seq ?_
      refine runX_regionC fun C hC => ?_
      try simp -implicitDefEqProofs (maxSteps := 4000000) (disch := first | omega | decide | (simp only [go_sem]; omega)) only [go_sem, ↓reduceIte]
      repeat (with_reducible refine And.intro (by first | assumption | omega | (simp; done) | (simp; omega)) ?_)
      refine toEnd hC ?_
      refine endX_seq ?_
      refine runX_ret ?_
      refine endX_q ?_
      obtain rfl := Option.some.inj h
      show RetW _ _ _ _ _
      simp only [RetW]
      (try simp -implicitDefEqProofs (maxSteps := 4000000) (disch := first | omega | decide | (simp only [go_sem]; omega)) only [go_sem, ↓reduceIte])
      (try simp (disch := omega) only [if_pos, Nat.sub_zero])
      first | exact leT_refl _ | (refine ⟨rfl, ?_⟩; first | exact leT_refl _ | exact leT_sl | exact leT_sln | exact leT_nil | (refine leT_tup (by repeat (first | exact leL_refl _ | refine leL_cons (by first | exact leT_refl _ | exact leT_virt | exact leT_junk _ | exact leT_sl | exact leT_sln | exact leT_nil | (refine leT_agg (by repeat (first | exact leL_refl _ | refine leL_cons (by first | exact leT_refl _ | exact leT_sl | exact leT_sln | exact leT_nil) ?_)))) ?_))) | (refine leT_agg (by repeat (first | exact leL_refl _ | refine leL_cons (by first | exact leT_refl _ | exact leT_virt | exact leT_junk _ | exact leT_sl | exact leT_sln | exact leT_nil | (refine leT_agg (by repeat (first | exact leL_refl _ | refine leL_cons (by first | exact leT_refl _ | exact leT_sl | exact leT_sln | exact leT_nil) ?_)))) ?_)))) | (first | exact leT_refl _ | exact leT_sl | exact leT_sln | exact leT_nil | (refine leT_tup (by repeat (first | exact leL_refl _ | refine leL_cons (by first | exact leT_refl _ | exact leT_virt | exact leT_junk _ | exact leT_sl | exact leT_sln | exact leT_nil | (refine leT_agg (by repeat (first | exact leL_refl _ | refine leL_cons (by first | exact leT_refl _ | exact leT_sl | exact leT_sln | exact leT_nil) ?_)))) ?_))) | (refine leT_agg (by repeat (first | exact leL_refl _ | refine leL_cons (by first | exact leT_refl _ | exact leT_virt | exact leT_junk _ | exact leT_sl | exact leT_sln | exact leT_nil | (refine leT_agg (by repeat (first | exact leL_refl _ | refine leL_cons (by first | exact leT_refl _ | exact leT_sl | exact leT_sln | exact leT_nil) ?_)))) ?_)))) | (simp only [List.append_assoc, List.cons_append, List.nil_append]; exact leT_refl _) | (rw [List.take_of_length_le (by first | (simp; done) | (simp; omega))]; (try simp only [List.append_assoc, List.cons_append, List.nil_append]); exact leT_refl _) | ((try simp (disch := first | omega | (simp; done) | (simp; omega)) only [if_pos, Nat.sub_zero, List.take_of_length_le]); (try simp only [List.append_assoc, List.cons_append, List.nil_append]); first | exact leT_refl _ | exact ⟨rfl, leT_refl _⟩)
end Go.Proofs.YtdaojihnaajfeaaDoorX

set_option linter.unusedVariables false
set_option linter.unusedSimpArgs false
namespace Go.Proofs.YtdaojihnaajfeaaDoorX
open Go Go.RowKit Go.Proofs
set_option maxRecDepth 100000
attribute [local go_sem ↓] stepsK_build stepsK_bs appendS
attribute [local go_sem] String.reduceEq String.reduceNe reduceCtorEq Int.reduceEq Nat.reduceAdd Nat.reduceSub Nat.reduceMul Nat.reduceLT Nat.reduceLeDiff Nat.reduceEqDiff Nat.reduceBEq Int.reduceToNat Int.reduceLT Int.reduceLE Int.reduceGT Int.reduceGE Int.reduceAdd Int.reduceSub Int.reduceMul Int.reduceNeg Int.reduceBEq Int.reduceBNe Int.reducePow Int.reduceDiv Int.reduceMod Int.reduceTDiv Int.reduceTMod Int.reduceNatCast
/-! ### percent.Decode -/
def F34_S1 (x1 : List UInt8) (x2 : List (Int)) : St := ⟨[.imm (.string (bs x1)), .junk, .junk, .junk, .rsl 0 1 0 x2.length, .junk, .junk, .junk, .junk, .junk, .junk, .junk, .junk, .junk, .junk, .junk, .junk, .junk, .junk, .junk, .junk, .junk, .junk, .junk, .junk, .junk, .junk, .junk, .junk, .junk, .junk, .junk, .junk, .junk, .junk, .junk, .junk, .junk, .junk, .junk, .junk, .junk, .junk, .junk, .junk, .junk, .junk, .junk, .junk], [some (.buf 5 1 (List.map byteT x2) 0)]⟩
def F34_L1 : Nat → (List UInt8) → (List (Int)) → Option ((List UInt8) × (Bool))
 | 0, _, _ => none
 | m1 + 1, x1, x2 => iteB (!(x1 == [])) ((F57 m1 x1 (37 : Int)).bind fun v4 => iteB (decide (v4 < (0 : Int))) (grd ((x2.length + x1.length) ≤ 549755813888) (some (((x2 ++ (x1.map ofB)).map toB), true))) (grd (0 ≤ v4 ∧ v4 ≤ (x1.length : Int)) (grd ((x2.length + (x1.take v4.toNat).length) ≤ 549755813888) (iteB (decide ((x1.length : Int) < (IntKind.wrap .i64 (v4 + (3 : Int))))) (some ([], false)) (grd (0 ≤ (IntKind.wrap .i64 (v4 + (1 : Int))) ∧ (IntKind.wrap .i64 (v4 + (1 : Int))) ≤ (IntKind.wrap .i64 (v4 + (3 : Int))) ∧ (IntKind.wrap .i64 (v4 + (3 : Int))) ≤ (x1.length : Int)) ((F52 m1 ((x1.take (IntKind.wrap .i64 (v4 + (3 : Int))).toNat).drop (IntKind.wrap .i64 (v4 + (1 : Int))).toNat)).bind fun v11 => (F58 m1 v11).bind fun v12 => iteB (!v12.2) (some ([], false)) (grd ((x2.length + (x1.take v4.toNat).length + v12.1.length) ≤ 549755813888) (grd (0 ≤ (IntKind.wrap .i64 (v4 + (3 : Int))) ∧ (IntKind.wrap .i64 (v4 + (3 : Int))) ≤ (x1.length : Int)) (F34_L1 m1 (x1.drop (IntKind.wrap .i64 (v4 + (3 : Int))).toNat) ((x2 ++ ((x1.take v4.toNat).map ofB)) ++ v12.1)))))))))) (some ((x2.map toB), true))
def F34 (n : Nat) (a0 : List UInt8) : Option ((List UInt8) × (Bool)) := F34_L1 n a0 []
set_option maxHeartbeats 4000000 in
theorem F34_ok : ∀ (n : Nat) (a0 : List UInt8) (r : (List UInt8) × (Bool)), F34 n a0 = some r → FnC Tryd.prog 34 [.imm (.string (bs a0))] (.tup [.imm (.string (bs r.1)), .imm (.bool r.2)])
 | n, a0, r, h => by
  unfold F34 at h
  refine FnC.goX mixed Tryd.func34 (by kernel_rfl) rfl ?_
  simp only [Tryd.ntmps34, List.length_cons, List.length_nil, List.replicate, List.cons_append, List.nil_append, Nat.reduceAdd, Nat.reduceSub]
  refine runX_seq ?_
  refine runX_regionC fun C hC => ?_
  try simp -implicitDefEqProofs (maxSteps := 4000000) (disch := first | omega | decide | (simp only [go_sem]; omega)) only [go_sem, ↓reduceIte]
  repeat (with_reducible refine And.intro (by first | assumption | omega | (simp; done) | (simp; omega)) ?_)
  refine toEnd hC ?_
  refine endX_seq ?_
  refine runX_seq ?_
  refine runX_regionC fun C hC => ?_
  try simp -implicitDefEqProofs (maxSteps := 4000000) (disch := first | omega | decide | (simp only [go_sem]; omega)) only [go_sem, ↓reduceIte]
  repeat (with_reducible refine And.intro (by first | assumption | omega | (simp; done) | (simp; omega)) ?_)
  refine toEnd hC ?_
  refine endX_seq ?_
  refine runX_seq ?_
  refine runX_block ?_
  refine runX_loop [0, 4] (fun m S => ∃ (x1 : List UInt8) (x2 : List (Int)), S = F34_S1 x1 x2 ∧ m ≤ n ∧ F34_L1 m x1 x2 = some r) n ⟨F34_S1 a0 [], ?_, a0, [], rfl, Nat.le_refl _, h⟩ ?_
  ·(try simp -implicitDefEqProofs (maxSteps := 4000000) (disch := first | omega | decide | (simp only [go_sem]; omega)) only [go_sem, ↓reduceIte])
   simp only [F34_S1]
   refine leS_trans (leS_pad _ _ 1) ?_
   simp only [List.replicate, List.cons_append, List.nil_append]
   refine leS_virt 0 5 1 rfl ?_ ?_ rfl
   ·repeat (first | exact leL_refl _ | refine leL_cons (by first | exact leT_refl _ | exact leT_virt | exact leT_junk _ | exact leT_sl | exact leT_sln | exact leT_nil | (refine leT_agg (by repeat (first | exact leL_refl _ | refine leL_cons (by first | exact leT_refl _ | exact leT_sl | exact leT_sln | exact leT_nil) ?_)))) ?_)
   ·repeat (first | exact leOs_refl _ | refine leOs.cons (by first | exact leO.same _ | (refine leO.box (leT_agg (by repeat (first | exact leL_refl _ | refine leL_cons (by first | exact leT_refl _ | exact leT_virt | exact leT_junk _ | exact leT_sl | exact leT_sln | exact leT_nil | (refine leT_agg (by repeat (first | exact leL_refl _ | refine leL_cons (by first | exact leT_refl _ | exact leT_sl | exact leT_sln | exact leT_nil) ?_)))) ?_))) rfl) | (refine leO.box (by first | exact leT_virt | exact leT_sl | exact leT_sln) rfl)) ?_)
  ·clear h
   rintro m1 S ⟨x1, x2, rfl, hm1, h⟩
   cases m1 with
   | zero => first | cases (show (none : Option _) = some _ from h) | (rw [F34_L1] at h; cases h)
   | succ m1 =>
    rw [F34_L1] at h
    simp only [F34_S1]
    refine runX_seq ?_
    refine runX_seq ?_
    refine runX_regionC fun C hC => ?_
    try simp -implicitDefEqProofs (maxSteps := 4000000) (disch := first | omega | decide | (simp only [go_sem]; omega)) only [go_sem, ↓reduceIte]
    repeat (with_reducible refine And.intro (by first | assumption | omega | (simp; done) | (simp; omega)) ?_)
    refine toEnd hC ?_
    refine endX_seq ?_
    rcases iteB_some h with ⟨c3, h⟩ | ⟨c3, h⟩
    ·refine runX_condT rfl c3 ?_
     refine runX_skip ?_
     refine endX_seq ?_
     refine runX_block ?_
     refine runX_seq ?_
     refine runX_regionC fun C hC => ?_
     obtain ⟨v4, h4, h⟩ := bnd_some h
     try simp -implicitDefEqProofs (maxSteps := 4000000) (disch := first | omega | decide | (simp only [go_sem]; omega)) only [go_sem, ↓reduceIte]
     repeat (with_reducible refine And.intro (by first | assumption | omega | (simp; done) | (simp; omega)) ?_)
     refine callG_X (by first | rfl | (simp only [go_sem]; done) | (simp only [closedL, closedT, Bool.and_true]; exact closedL_map _ (fun _ => by first | rfl | (simp only [go_sem]; done)) _)) (F57_ok m1 x1 (37 : Int) _ h4) (by repeat (first | exact leL_refl _ | refine leL_cons (by first | exact leT_refl _ | exact leT_virt | exact leT_junk _ | exact leT_sl | exact leT_sln | exact leT_nil | (refine leT_agg (by repeat (first | exact leL_refl _ | refine leL_cons (by first | exact leT_refl _ | exact leT_sl | exact leT_sln | exact leT_nil) ?_)))) ?_)) ?_
     try simp -implicitDefEqProofs (maxSteps := 4000000) (disch := first | omega | decide | (simp only [go_sem]; omega)) only [go_sem, ↓reduceIte]
     repeat (with_reducible refine And.intro (by first | assumption | omega | (simp; done) | (simp; omega)) ?_)
     refine toEnd hC ?_
     refine endX_seq ?_
     refine runX_seq ?_
     refine runX_seq ?_
     refine runX_regionC fun C hC => ?_
     try simp -implicitDefEqProofs (maxSteps := 4000000) (disch := first | omega | decide | (simp only [go_sem]; omega)) only [go_sem, ↓reduceIte]
     repeat (with_reducible refine And.intro (by first | assumption | omega | (simp; done) | (simp; omega)) ?_)
     refine toEnd hC ?_
     refine endX_seq ?_
     rcases iteB_some h with ⟨c5, h⟩ | ⟨c5, h⟩
     ·refine runX_condT rfl c5 ?_
      refine runX_seq ?_
      refine runX_regionC fun C hC => ?_
      obtain ⟨g6, h⟩ := grd_some h
      try simp -implicitDefEqProofs (maxSteps := 4000000) (disch := first | omega | decide | (simp only [go_sem]; omega)) only [go_sem, ↓reduceIte]
      repeat (with_reducible refine And.intro (by first | assumption | omega | (simp; done) | (simp; omega)) ?_)
      refine toEnd hC ?_
      refine endX_seq ?_
      refine runX_exit ?_
      refine endX_seqE ?_
      refine endX_blkO (by decide) ?_
      refine endX_q (roundQ_exit ?_)
      refine endX_blkE ?_
      refine endX_seq ?_
      refine runX_seq ?_
      refine runX_regionC fun C hC => ?_
      try simp -implicitDefEqProofs (maxSteps := 4000000) (disch := first | omega | decide | (simp only [go_sem]; omega)) only [go_sem, ↓reduceIte]
      repeat (with_reducible refine And.intro (by first | assumption | omega | (simp; done) | (simp; omega)) ?_)
      refine toEnd hC ?_
      refine endX_seq ?_
      refine runX_ret ?_
      refine endX_q ?_
      obtain rfl := Option.some.inj h
      show RetW _ _ _ _ _
      simp only [RetW]
      (try simp -implicitDefEqProofs (maxSteps := 4000000) (disch := first | omega | decide | (simp only [go_sem]; omega)) only [go_sem, ↓reduceIte])
      (try simp (disch := omega) only [if_pos, Nat.sub_zero])
      exact leT_refl _
     ·refine runX_condF rfl c5 ?_
      refine runX_skip ?_
      refine endX_seq ?_
      refine runX_seq ?_
      refine runX_regionC fun C hC => ?_
      obtain ⟨g7, h⟩ := grd_some h
      obtain ⟨g8, h⟩ := grd_some h
      try simp -implicitDefEqProofs (maxSteps := 4000000) (disch := first | omega | decide | (simp only [go_sem]; omega)) only [go_sem, ↓reduceIte]
      repeat (with_reducible refine And.intro (by first | assumption | omega | (simp; done) | (simp; omega)) ?_)
      refine toEnd hC ?_
      refine endX_seq ?_
      refine runX_seq ?_
      refine runX_seq ?_
      refine runX_regionC fun C hC => ?_
      try simp -implicitDefEqProofs (maxSteps := 4000000) (disch := first | omega | decide | (simp only [go_sem]; omega)) only [go_sem, ↓reduceIte]
      repeat (with_reducible refine And.intro (by first | assumption | omega | (simp; done) | (simp; omega)) ?_)
      refine toEnd hC ?_
      refine endX_seq ?_
      rcases iteB_some h with ⟨c9, h⟩ | ⟨c9, h⟩
      ·refine runX_condT rfl c9 ?_
       refine runX_seq ?_
       refine runX_regionC fun C hC => ?_
       try simp -implicitDefEqProofs (maxSteps := 4000000) (disch := first | omega | decide | (simp only [go_sem]; omega)) only [go_sem, ↓reduceIte]
       repeat (with_reducible refine And.intro (by first | assumption | omega | (simp; done) | (simp; omega)) ?_)
       refine toEnd hC ?_
       refine endX_seq ?_
       refine runX_ret ?_
       refine endX_seqR ?_
       refine endX_blkR ?_
       refine endX_q (roundQ_ret ?_)
       refine endX_blkR ?_
       refine endX_seqR ?_
       refine endX_q ?_
       obtain rfl := Option.some.inj h
       show RetW _ _ _ _ _
       simp only [RetW]
       (try simp -implicitDefEqProofs (maxSteps := 4000000) (disch := first | omega | decide | (simp only [go_sem]; omega)) only [go_sem, ↓reduceIte])
       (try simp (disch := omega) only [if_pos, Nat.sub_zero])
       exact leT_refl _
      ·refine runX_condF rfl c9 ?_
       refine runX_skip ?_
       refine endX_seq ?_
       refine runX_seq ?_
       refine runX_regionC fun C hC => ?_
       obtain ⟨g10, h⟩ := grd_some h
       obtain ⟨v11, h11, h⟩ := bnd_some h
       try simp -implicitDefEqProofs (maxSteps := 4000000) (disch := first | omega | decide | (simp only [go_sem]; omega)) only [go_sem, ↓reduceIte]
       repeat (with_reducible refine And.intro (by first | assumption | omega | (simp; done) | (simp; omega)) ?_)
       refine callG_X (by first | rfl | (simp only [go_sem]; done) | (simp only [closedL, closedT, Bool.and_true]; exact closedL_map _ (fun _ => by first | rfl | (simp only [go_sem]; done)) _)) (F52_ok m1 ((x1.take (IntKind.wrap .i64 (v4 + (3 : Int))).toNat).drop (IntKind.wrap .i64 (v4 + (1 : Int))).toNat) _ h11) (by repeat (first | exact leL_refl _ | refine leL_cons (by first | exact leT_refl _ | exact leT_virt | exact leT_junk _ | exact leT_sl | exact leT_sln | exact leT_nil | (refine leT_agg (by repeat (first | exact leL_refl _ | refine leL_cons (by first | exact leT_refl _ | exact leT_sl | exact leT_sln | exact leT_nil) ?_)))) ?_)) ?_
       obtain ⟨v12, h12, h⟩ := bnd_some h
       try simp -implicitDefEqProofs (maxSteps := 4000000) (disch := first | omega | decide | (simp only [go_sem]; omega)) only [go_sem, ↓reduceIte]
       repeat (with_reducible refine And.intro (by first | assumption | omega | (simp; done) | (simp; omega)) ?_)
       refine callG_X (by first | rfl | (simp only [go_sem]; done) | (simp only [closedL, closedT, Bool.and_true]; exact closedL_map _ (fun _ => by first | rfl | (simp only [go_sem]; done)) _)) (F58_ok m1 v11 _ h12) (by repeat (first | exact leL_refl _ | refine leL_cons (by first | exact leT_refl _ | exact leT_virt | exact leT_junk _ | exact leT_sl | exact leT_sln | exact leT_nil | (refine leT_agg (by repeat (first | exact leL_refl _ | refine leL_cons (by first | exact leT_refl _ | exact leT_sl | exact leT_sln | exact leT_nil) ?_)))) ?_)) ?_
       try simp -implicitDefEqProofs (maxSteps := 4000000) (disch := first | omega | decide | (simp only [go_sem]; omega)) only [go_sem, ↓reduceIte]
       repeat (with_reducible refine And.intro (by first | assumption | omega | (simp; done) | (simp; omega)) ?_)
       refine toEnd hC ?_
       refine endX_seq ?_
       refine runX_seq ?_
       refine runX_seq ?_
       refine runX_regionC fun C hC => ?_
       try simp -implicitDefEqProofs (maxSteps := 4000000) (disch := first | omega | decide | (simp only [go_sem]; omega)) only [go_sem, ↓reduceIte]
       repeat (with_reducible refine And.intro (by first | assumption | omega | (simp; done) | (simp; omega)) ?_)
       refine toEnd hC ?_
       refine endX_seq ?_
       rcases iteB_some h with ⟨c13, h⟩ | ⟨c13, h⟩
       ·refine runX_condT rfl c13 ?_
        refine runX_seq ?_
        refine runX_regionC fun C hC => ?_
        try simp -implicitDefEqProofs (maxSteps := 4000000) (disch := first | omega | decide | (simp only [go_sem]; omega)) only [go_sem, ↓reduceIte]
        repeat (with_reducible refine And.intro (by first | assumption | omega | (simp; done) | (simp; omega)) ?_)
        refine toEnd hC ?_
        refine endX_seq ?_
        refine runX_ret ?_
        refine endX_seqR ?_
        refine endX_blkR ?_
        refine endX_q (roundQ_ret ?_)
        refine endX_blkR ?_
        refine endX_seqR ?_
        refine endX_q ?_
        obtain rfl := Option.some.inj h
        show RetW _ _ _ _ _
        simp only [RetW]
        (try simp -implicitDefEqProofs (maxSteps := 4000000) (disch := first | omega | decide | (simp only [go_sem]; omega)) only [go_sem, ↓reduceIte])
        (try simp (disch := omega) only [if_pos, Nat.sub_zero])
        exact leT_refl _
       ·refine runX_condF rfl c13 ?_
        refine runX_skip ?_
        refine endX_seq ?_
        refine runX_seq ?_
        refine runX_regionC fun C hC => ?_
        obtain ⟨g14, h⟩ := grd_some h
        try simp -implicitDefEqProofs (maxSteps := 4000000) (disch := first | omega | decide | (simp only [go_sem]; omega)) only [go_sem, ↓reduceIte]
        repeat (with_reducible refine And.intro (by first | assumption | omega | (simp; done) | (simp; omega)) ?_)
        refine toEnd hC ?_
        refine endX_seq ?_
        refine runX_regionC fun C hC => ?_
        obtain ⟨g15, h⟩ := grd_some h
        try simp -implicitDefEqProofs (maxSteps := 4000000) (disch := first | omega | decide | (simp only [go_sem]; omega)) only [go_sem, ↓reduceIte]
        repeat (with_reducible refine And.intro (by first | assumption | omega | (simp; done) | (simp; omega)) ?_)
        refine toEnd hC ?_
        refine endX_blk ?_
        refine endX_q (roundQ_normal ⟨m1, by omega, F34_S1 (x1.drop (IntKind.wrap .i64 (v4 + (3 : Int))).toNat) ((x2 ++ ((x1.take v4.toNat).map ofB)) ++ v12.1), ?_, (x1.drop (IntKind.wrap .i64 (v4 + (3 : Int))).toNat), ((x2 ++ ((x1.take v4.toNat).map ofB)) ++ v12.1), rfl, by omega, h⟩)
        simp only [F34_S1]
        (try simp -implicitDefEqProofs (maxSteps := 4000000) (disch := first | omega | decide | (simp only [go_sem]; omega)) only [go_sem, ↓reduceIte])
        first | exact leS_refl _ | (refine leS_le ?_ ?_ <;> first | exact leL_refl _ | exact leOs_refl _ | (simp only [List.append_assoc, List.cons_append, List.nil_append]; exact leOs_refl _) | (refine leOs.cons (by first | exact leO.same _ | (refine leO.box (leT_agg (by repeat (first | exact leL_refl _ | refine leL_cons (by first | exact leT_refl _ | exact leT_virt | exact leT_junk _ | exact leT_sl | exact leT_sln | exact leT_nil | (refine leT_agg (by repeat (first | exact leL_refl _ | refine leL_cons (by first | exact leT_refl _ | exact leT_sl | exact leT_sln | exact leT_nil) ?_)))) ?_))) rfl) | (refine leO.box (by first | exact leT_virt | exact leT_sl | exact leT_sln) rfl)) ?_; repeat (first | exact leOs_refl _ | refine leOs.cons (by first | exact leO.same _ | (refine leO.box (leT_agg (by repeat (first | exact leL_refl _ | refine leL_cons (by first | exact leT_refl _ | exact leT_virt | exact leT_junk _ | exact leT_sl | exact leT_sln | exact leT_nil | (refine leT_agg (by repeat (first | exact leL_refl _ | refine leL_cons (by first | exact leT_refl _ | exact leT_sl | exact leT_sln | exact leT_nil) ?_)))) ?_))) rfl) | (refine leO.box (by first | exact leT_virt | exact leT_sl | exact leT_sln) rfl)) ?_)) | (repeat (first | exact leL_refl _ | refine leL_cons (by first | exact leT_refl _ | exact leT_virt | exact leT_junk _ | exact leT_sl | exact leT_sln | exact leT_nil | (refine leT_agg (by repeat (first | exact leL_refl _ | refine leL_cons (by first | exact leT_refl _ | exact leT_sl | exact leT_sln | exact leT_nil) ?_)))) ?_)))
    ·refine runX_condF rfl c3 ?_
     refine runX_exit ?_
     refine endX_seqE ?_
     refine endX_q (roundQ_exit ?_)
     refine endX_blkE ?_
     refine endX_seq ?_
     refine runX_seq ?_
     refine runX_regionC fun C hC => ?_
     try simp -implicitDefEqProofs (maxSteps := 4000000) (disch := first | omega | decide | (simp only [go_sem]; omega)) only [go_sem, ↓reduceIte]
     repeat (with_reducible refine And.intro (by first | assumption | omega | (simp; done) | (simp; omega)) ?_)
     refine toEnd hC ?_
     refine endX_seq ?_
     refine runX_ret ?_
     refine endX_q ?_
     obtain rfl := Option.some.inj h
     show RetW _ _ _ _ _
     simp only [RetW]
     (try simp -implicitDefEqProofs (maxSteps := 4000000) (disch := first | omega | decide | (simp only [go_sem]; omega)) only [go_sem, ↓reduceIte])
     (try simp (disch := omega) only [if_pos, Nat.sub_zero])
     exact leT_refl _
end Go.Proofs.YtdaojihnaajfeaaDoorX

set_option linter.unusedVariables false
set_option linter.unusedSimpArgs false
namespace Go.Proofs.YtdaojihnaajfeaaDoorX
open Go Go.RowKit Go.Proofs
set_option maxRecDepth 100000
attribute [local go_sem ↓] stepsK_build stepsK_bs appendS
attribute [local go_sem] String.reduceEq String.reduceNe reduceCtorEq Int.reduceEq Nat.reduceAdd Nat.reduceSub Nat.reduceMul Nat.reduceLT Nat.reduceLeDiff Nat.reduceEqDiff Nat.reduceBEq Int.reduceToNat Int.reduceLT Int.reduceLE Int.reduceGT Int.reduceGE Int.reduceAdd Int.reduceSub Int.reduceMul Int.reduceNeg Int.reduceBEq Int.reduceBNe Int.reducePow Int.reduceDiv Int.reduceMod Int.reduceTDiv Int.reduceTMod Int.reduceNatCast
/-! ### query.part -/
def F15 (n : Nat) (a0 : List UInt8) : Option (((List UInt8) × (List UInt8)) × (Bool)) := (F33 n a0 ([43] : List UInt8) ([32] : List UInt8)).bind fun v1 => (F14 n v1 ([61] : List UInt8)).bind fun v2 => (F34 n v2.1).bind fun v3 => (F34 n v2.2.1).bind fun v4 => iteB (!(v2.1 == [])) (iteB v3.2 (some ((v3.1, v4.1), v4.2)) (some ((v3.1, v4.1), false))) (some ((v3.1, v4.1), false))
set_option maxHeartbeats 4000000 in
theorem F15_ok : ∀ (n : Nat) (a0 : List UInt8) (r : ((List UInt8) × (List UInt8)) × (Bool)), F15 n a0 = some r → FnC Tryd.prog 15 [.imm (.string (bs a0))] (.tup [.agg [.imm (.string (bs r.1.1)), .imm (.string (bs r.1.2))], .imm (.bool r.2)])
 | n, a0, r, h => by
  unfold F15 at h
  refine FnC.goX mixed Tryd.func15 (by kernel_rfl) rfl ?_
  simp only [Tryd.ntmps15, List.length_cons, List.length_nil, List.replicate, List.cons_append, List.nil_append, Nat.reduceAdd, Nat.reduceSub]
  refine runX_seq ?_
  refine runX_regionC fun C hC => ?_
  try simp -implicitDefEqProofs (maxSteps := 4000000) (disch := first | omega | decide | (simp only [go_sem]; omega)) only [go_sem, ↓reduceIte]
  repeat (with_reducible refine And.intro (by first | assumption | omega | (simp; done) | (simp; omega)) ?_)
  refine toEnd hC ?_
  refine endX_seq ?_
  refine runX_seq ?_
  refine runX_regionC fun C hC => ?_
  obtain ⟨v1, h1, h⟩ := bnd_some h
  try simp -implicitDefEqProofs (maxSteps := 4000000) (disch := first | omega | decide | (simp only [go_sem]; omega)) only [go_sem, ↓reduceIte]
  repeat (with_reducible refine And.intro (by first | assumption | omega | (simp; done) | (simp; omega)) ?_)
  refine callG_X (by first | rfl | (simp only [go_sem]; done) | (simp only [closedL, closedT, Bool.and_true]; exact closedL_map _ (fun _ => by first | rfl | (simp only [go_sem]; done)) _)) (F33_ok n a0 ([43] : List UInt8) ([32] : List UInt8) _ h1) (by repeat (first | exact leL_refl _ | refine leL_cons (by first | exact leT_refl _ | exact leT_virt | exact leT_junk _ | exact leT_sl | exact leT_sln | exact leT_nil | (refine leT_agg (by repeat (first | exact leL_refl _ | refine leL_cons (by first | exact leT_refl _ | exact leT_sl | exact leT_sln | exact leT_nil) ?_)))) ?_)) ?_
  obtain ⟨v2, h2, h⟩ := bnd_some h
  try simp -implicitDefEqProofs (maxSteps := 4000000) (disch := first | omega | decide | (simp only [go_sem]; omega)) only [go_sem, ↓reduceIte]
  repeat (with_reducible refine And.intro (by first | assumption | omega | (simp; done) | (simp; omega)) ?_)
  refine callG_X (by first | rfl | (simp only [go_sem]; done) | (simp only [closedL, closedT, Bool.and_true]; exact closedL_map _ (fun _ => by first | rfl | (simp only [go_sem]; done)) _)) (F14_ok n v1 ([61] : List UInt8) _ h2) (by repeat (first | exact leL_refl _ | refine leL_cons (by first | exact leT_refl _ | exact leT_virt | exact leT_junk _ | exact leT_sl | exact leT_sln | exact leT_nil | (refine leT_agg (by repeat (first | exact leL_refl _ | refine leL_cons (by first | exact leT_refl _ | exact leT_sl | exact leT_sln | exact leT_nil) ?_)))) ?_)) ?_
  try simp -implicitDefEqProofs (maxSteps := 4000000) (disch := first | omega | decide | (simp only [go_sem]; omega)) only [go_sem, ↓reduceIte]
  repeat (with_reducible refine And.intro (by first | assumption | omega | (simp; done) | (simp; omega)) ?_)
  refine toEnd hC ?_
  refine endX_seq ?_
  refine runX_seq ?_
  refine runX_regionC fun C hC => ?_
  obtain ⟨v3, h3, h⟩ := bnd_some h
  try simp -implicitDefEqProofs (maxSteps := 4000000) (disch := first | omega | decide | (simp only [go_sem]; omega)) only [go_sem, ↓reduceIte]
  repeat (with_reducible refine And.intro (by first | assumption | omega | (simp; done) | (simp; omega)) ?_)
  refine callG_X (by first | rfl | (simp only [go_sem]; done) | (simp only [closedL, closedT, Bool.and_true]; exact closedL_map _ (fun _ => by first | rfl | (simp only [go_sem]; done)) _)) (F34_ok n v2.1 _ h3) (by repeat (first | exact leL_refl _ | refine leL_cons (by first | exact leT_refl _ | exact leT_virt | exact leT_junk _ | exact leT_sl | exact leT_sln | exact leT_nil | (refine leT_agg (by repeat (first | exact leL_refl _ | refine leL_cons (by first | exact leT_refl _ | exact leT_sl | exact leT_sln | exact leT_nil) ?_)))) ?_)) ?_
  try simp -implicitDefEqProofs (maxSteps := 4000000) (disch := first | omega | decide | (simp only [go_sem]; omega)) only [go_sem, ↓reduceIte]
  repeat (with_reducible refine And.intro (by first | assumption | omega | (simp; done) | (simp; omega)) ?_)
  refine toEnd hC ?_
  refine endX_seq ?_
  refine runX_seq ?_
  refine runX_regionC fun C hC => ?_
  obtain ⟨v4, h4, h⟩ := bnd_some h
  try simp -implicitDefEqProofs (maxSteps := 4000000) (disch := first | omega | decide | (simp only [go_sem]; omega)) only [go_sem, ↓reduceIte]
  repeat (with_reducible refine And.intro (by first | assumption | omega | (simp; done) | (simp; omega)) ?_)
  refine callG_X (by first | rfl | (simp only [go_sem]; done) | (simp only [closedL, closedT, Bool.and_true]; exact closedL_map _ (fun _ => by first | rfl | (simp only [go_sem]; done)) _)) (F34_ok n v2.2.1 _ h4) (by repeat (first | exact leL_refl _ | refine leL_cons (by first | exact leT_refl _ | exact leT_virt | exact leT_junk _ | exact leT_sl | exact leT_sln | exact leT_nil | (refine leT_agg (by repeat (first | exact leL_refl _ | refine leL_cons (by first | exact leT_refl _ | exact leT_sl | exact leT_sln | exact leT_nil) ?_)))) ?_)) ?_
  try simp -implicitDefEqProofs (maxSteps := 4000000) (disch := first | omega | decide | (simp only [go_sem]; omega)) only [go_sem, ↓reduceIte]
  repeat (with_reducible refine And.intro (by first | assumption | omega | (simp; done) | (simp; omega)) ?_)
  refine toEnd hC ?_
  refine endX_seq ?_
  refine runX_seq ?_
  refine runX_regionC fun C hC => ?_
  try simp -implicitDefEqProofs (maxSteps := 4000000) (disch := first | omega | decide | (simp only [go_sem]; omega)) only [go_sem, ↓reduceIte]
  repeat (with_reducible refine And.intro (by first | assumption | omega | (simp; done) | (simp; omega)) ?_)
  refine bldG_of [.imm (.string (bs v3.1)), .imm (.string (bs v4.1))] (by kernel_rfl) ?_
  try simp -implicitDefEqProofs (maxSteps := 4000000) (disch := first | omega | decide | (simp only [go_sem]; omega)) only [go_sem, ↓reduceIte]
  repeat (with_reducible refine And.intro (by first | assumption | omega | (simp; done) | (simp; omega)) ?_)
  rcases iteB_some h with ⟨c5, h⟩ | ⟨c5, h⟩
  ·refine guardK_T c5 ?_
   try simp -implicitDefEqProofs (maxSteps := 4000000) (disch := first | omega | decide | (simp only [go_sem]; omega)) only [go_sem, ↓reduceIte]
   repeat (with_reducible refine And.intro (by first | assumption | omega | (simp; done) | (simp; omega)) ?_)
   rcases iteB_some h with ⟨c6, h⟩ | ⟨c6, h⟩
   ·refine guardK_T c6 ?_
    try simp -implicitDefEqProofs (maxSteps := 4000000) (disch := first | omega | decide | (simp only [go_sem]; omega)) only [go_sem, ↓reduceIte]
    repeat (with_reducible refine And.intro (by first | assumption | omega | (simp; done) | (simp; omega)) ?_)
    refine toEnd hC ?_
    refine endX_seq ?_
    refine runX_ret ?_
    refine endX_q ?_
    obtain rfl := Option.some.inj h
    show RetW _ _ _ _ _
    simp only [RetW]
    (try simp -implicitDefEqProofs (maxSteps := 4000000) (disch := first | omega | decide | (simp only [go_sem]; omega)) only [go_sem, ↓reduceIte])
    (try simp (disch := omega) only [if_pos, Nat.sub_zero])
    exact leT_refl _
   ·refine guardK_F c6 ?_
    try simp -implicitDefEqProofs (maxSteps := 4000000) (disch := first | omega | decide | (simp only [go_sem]; omega)) only [go_sem, ↓reduceIte]
    repeat (with_reducible refine And.intro (by first | assumption | omega | (simp; done) | (simp; omega)) ?_)
    refine toEnd hC ?_
    refine endX_seq ?_
    refine runX_ret ?_
    refine endX_q ?_
    obtain rfl := Option.some.inj h
    show RetW _ _ _ _ _
    simp only [RetW]
    (try simp -implicitDefEqProofs (maxSteps := 4000000) (disch := first | omega | decide | (simp only [go_sem]; omega)) only [go_sem, ↓reduceIte])
    (try simp (disch := omega) only [if_pos, Nat.sub_zero])
    exact leT_refl _
  ·refine guardK_F c5 ?_
   try simp -implicitDefEqProofs (maxSteps := 4000000) (disch := first | omega | decide | (simp only [go_sem]; omega)) only [go_sem, ↓reduceIte]
   repeat (with_reducible refine And.intro (by first | assumption | omega | (simp; done) | (simp; omega)) ?_)
   refine toEnd hC ?_
   refine endX_seq ?_
   refine runX_ret ?_
   refine endX_q ?_
   obtain rfl := Option.some.inj h
   show RetW _ _ _ _ _
   simp only [RetW]
   (try simp -implicitDefEqProofs (maxSteps := 4000000) (disch := first | omega | decide | (simp only [go_sem]; omega)) only [go_sem, ↓reduceIte])
   (try simp (disch := omega) only [if_pos, Nat.sub_zero])
   exact leT_refl _
end Go.Proofs.YtdaojihnaajfeaaDoorX

set_option linter.unusedVariables false
set_option linter.unusedSimpArgs false
namespace Go.Proofs.YtdaojihnaajfeaaDoorX
open Go Go.RowKit Go.Proofs
set_option maxRecDepth 100000
attribute [local go_sem ↓] stepsK_build stepsK_bs appendS
attribute [local go_sem] String.reduceEq String.reduceNe reduceCtorEq Int.reduceEq Nat.reduceAdd Nat.reduceSub Nat.reduceMul Nat.reduceLT Nat.reduceLeDiff Nat.reduceEqDiff Nat.reduceBEq Int.reduceToNat Int.reduceLT Int.reduceLE Int.reduceGT Int.reduceGE Int.reduceAdd Int.reduceSub Int.reduceMul Int.reduceNeg Int.reduceBEq Int.reduceBNe Int.reducePow Int.reduceDiv Int.reduceMod Int.reduceTDiv Int.reduceTMod Int.reduceNatCast
/-! ### query.Parse -/
def F7_S1 (x2 : List UInt8) (x3 : Bool) (x4 : List ((List UInt8) × (List UInt8))) : St := ⟨[.junk, .junk, .junk, .junk, .rsl 0 2 0 x4.length, .imm (.string (bs x2)), .imm (.bool x3), .junk, .junk, .junk, .junk, .junk, .junk, .junk, .junk, .junk, .junk, .junk, .junk, .junk, .junk, .junk, .junk, .junk, .junk, .junk, .junk, .junk, .junk, .junk, .junk, .junk, .junk, .junk, .junk, .junk, .junk], [some (.buf 30 2 (List.map eT28 x4) 0)]⟩
def F7_L1 : Nat → (List UInt8) → (Bool) → (List ((List UInt8) × (List UInt8))) → Option ((List ((List UInt8) × (List UInt8))) × (Bool))
 | 0, _, _, _ => none
 | m1 + 1, x2, x3, x4 => iteB x3 ((F14 m1 x2 ([38] : List UInt8)).bind fun v6 => (F15 m1 v6.1).bind fun v7 => iteB (!v7.2) (some ([], false)) (iteB ((x4.length : Int) == (64 : Int)) (some ([], false)) (grd ((x4.length + 1) ≤ 549755813888) (F7_L1 m1 v6.2.1 v6.2.2 (x4 ++ [(v7.1.1, v7.1.2)]))))) (some (x4, true))
def F7 (n : Nat) (a0 : List UInt8) : Option ((List ((List UInt8) × (List UInt8))) × (Bool)) := iteB (a0 == []) (some ([], true)) (F7_L1 n a0 true [])
set_option maxHeartbeats 4000000 in
theorem F7_ok : ∀ (n : Nat) (a0 : List UInt8) (r : (List ((List UInt8) × (List UInt8))) × (Bool)), F7 n a0 = some r → FnC Tryd.prog 7 [.imm (.string (bs a0))] (.tup [.sl 2 false (List.map eT28 r.1), .imm (.bool r.2)])
 | n, a0, r, h => by
  unfold F7 at h
  refine FnC.goX mixed Tryd.func7 (by kernel_rfl) rfl ?_
  simp only [Tryd.ntmps7, List.length_cons, List.length_nil, List.replicate, List.cons_append, List.nil_append, Nat.reduceAdd, Nat.reduceSub]
  refine runX_seq ?_
  refine runX_regionC fun C hC => ?_
  try simp -implicitDefEqProofs (maxSteps := 4000000) (disch := first | omega | decide | (simp only [go_sem]; omega)) only [go_sem, ↓reduceIte]
  repeat (with_reducible refine And.intro (by first | assumption | omega | (simp; done) | (simp; omega)) ?_)
  refine toEnd hC ?_
  refine endX_seq ?_
  refine runX_seq ?_
  refine runX_seq ?_
  refine runX_regionC fun C hC => ?_
  try simp -implicitDefEqProofs (maxSteps := 4000000) (disch := first | omega | decide | (simp only [go_sem]; omega)) only [go_sem, ↓reduceIte]
  repeat (with_reducible refine And.intro (by first | assumption | omega | (simp; done) | (simp; omega)) ?_)
  refine toEnd hC ?_
  refine endX_seq ?_
  rcases iteB_some h with ⟨c1, h⟩ | ⟨c1, h⟩
  ·refine runX_condT rfl c1 ?_
   refine runX_seq ?_
   refine runX_regionC fun C hC => ?_
   try simp -implicitDefEqProofs (maxSteps := 4000000) (disch := first | omega | decide | (simp only [go_sem]; omega)) only [go_sem, ↓reduceIte]
   repeat (with_reducible refine And.intro (by first | assumption | omega | (simp; done) | (simp; omega)) ?_)
   refine toEnd hC ?_
   refine endX_seq ?_
   refine runX_ret ?_
   refine endX_seqR ?_
   refine endX_q ?_
   obtain rfl := Option.some.inj h
   show RetW _ _ _ _ _
   simp only [RetW]
   (try simp -implicitDefEqProofs (maxSteps := 4000000) (disch := first | omega | decide | (simp only [go_sem]; omega)) only [go_sem, ↓reduceIte])
   (try simp (disch := omega) only [if_pos, Nat.sub_zero])
   first | exact leT_refl _ | (refine ⟨rfl, ?_⟩; first | exact leT_refl _ | exact leT_sl | exact leT_sln | exact leT_nil | (refine leT_tup (by repeat (first | exact leL_refl _ | refine leL_cons (by first | exact leT_refl _ | exact leT_virt | exact leT_junk _ | exact leT_sl | exact leT_sln | exact leT_nil | (refine leT_agg (by repeat (first | exact leL_refl _ | refine leL_cons (by first | exact leT_refl _ | exact leT_sl | exact leT_sln | exact leT_nil) ?_)))) ?_))) | (refine leT_agg (by repeat (first | exact leL_refl _ | refine leL_cons (by first | exact leT_refl _ | exact leT_virt | exact leT_junk _ | exact leT_sl | exact leT_sln | exact leT_nil | (refine leT_agg (by repeat (first | exact leL_refl _ | refine leL_cons (by first | exact leT_refl _ | exact leT_sl | exact leT_sln | exact leT_nil) ?_)))) ?_)))) | (first | exact leT_refl _ | exact leT_sl | exact leT_sln | exact leT_nil | (refine leT_tup (by repeat (first | exact leL_refl _ | refine leL_cons (by first | exact leT_refl _ | exact leT_virt | exact leT_junk _ | exact leT_sl | exact leT_sln | exact leT_nil | (refine leT_agg (by repeat (first | exact leL_refl _ | refine leL_cons (by first | exact leT_refl _ | exact leT_sl | exact leT_sln | exact leT_nil) ?_)))) ?_))) | (refine leT_agg (by repeat (first | exact leL_refl _ | refine leL_cons (by first | exact leT_refl _ | exact leT_virt | exact leT_junk _ | exact leT_sl | exact leT_sln | exact leT_nil | (refine leT_agg (by repeat (first | exact leL_refl _ | refine leL_cons (by first | exact leT_refl _ | exact leT_sl | exact leT_sln | exact leT_nil) ?_)))) ?_)))) | (simp only [List.append_assoc, List.cons_append, List.nil_append]; exact leT_refl _) | (rw [List.take_of_length_le (by first | (simp; done) | (simp; omega))]; (try simp only [List.append_assoc, List.cons_append, List.nil_append]); exact leT_refl _) | ((try simp (disch := first | omega | (simp; done) | (simp; omega)) only [if_pos, Nat.sub_zero, List.take_of_length_le]); (try simp only [List.append_assoc, List.cons_append, List.nil_append]); first | exact leT_refl _ | exact ⟨rfl, leT_refl _⟩)
  ·refine runX_condF rfl c1 ?_
   refine runX_skip ?_
   refine endX_seq ?_
   refine runX_seq ?_
   refine runX_regionC fun C hC => ?_
   try simp -implicitDefEqProofs (maxSteps := 4000000) (disch := first | omega | decide | (simp only [go_sem]; omega)) only [go_sem, ↓reduceIte]
   repeat (with_reducible refine And.intro (by first | assumption | omega | (simp; done) | (simp; omega)) ?_)
   refine toEnd hC ?_
   refine endX_seq ?_
   refine runX_seq ?_
   refine runX_seq ?_
   refine runX_regionC fun C hC => ?_
   try simp -implicitDefEqProofs (maxSteps := 4000000) (disch := first | omega | decide | (simp only [go_sem]; omega)) only [go_sem, ↓reduceIte]
   repeat (with_reducible refine And.intro (by first | assumption | omega | (simp; done) | (simp; omega)) ?_)
   refine toEnd hC ?_
   refine endX_seq ?_
   refine runX_block ?_
   refine runX_loop [4, 5, 6] (fun m S => ∃ (x2 : List UInt8) (x3 : Bool) (x4 : List ((List UInt8) × (List UInt8))), S = F7_S1 x2 x3 x4 ∧ m ≤ n ∧ F7_L1 m x2 x3 x4 = some r) n ⟨F7_S1 a0 true [], ?_, a0, true, [], rfl, Nat.le_refl _, h⟩ ?_
   ·(try simp -implicitDefEqProofs (maxSteps := 4000000) (disch := first | omega | decide | (simp only [go_sem]; omega)) only [go_sem, ↓reduceIte])
    simp only [F7_S1]
    refine leS_trans (leS_pad _ _ 1) ?_
    simp only [List.replicate, List.cons_append, List.nil_append]
    refine leS_virt 0 30 2 rfl ?_ ?_ rfl
    ·repeat (first | exact leL_refl _ | refine leL_cons (by first | exact leT_refl _ | exact leT_virt | exact leT_junk _ | exact leT_sl | exact leT_sln | exact leT_nil | (refine leT_agg (by repeat (first | exact leL_refl _ | refine leL_cons (by first | exact leT_refl _ | exact leT_sl | exact leT_sln | exact leT_nil) ?_)))) ?_)
    ·repeat (first | exact leOs_refl _ | refine leOs.cons (by first | exact leO.same _ | (refine leO.box (leT_agg (by repeat (first | exact leL_refl _ | refine leL_cons (by first | exact leT_refl _ | exact leT_virt | exact leT_junk _ | exact leT_sl | exact leT_sln | exact leT_nil | (refine leT_agg (by repeat (first | exact leL_refl _ | refine leL_cons (by first | exact leT_refl _ | exact leT_sl | exact leT_sln | exact leT_nil) ?_)))) ?_))) rfl) | (refine leO.box (by first | exact leT_virt | exact leT_sl | exact leT_sln) rfl)) ?_)
   ·clear h
    rintro m1 S ⟨x2, x3, x4, rfl, hm1, h⟩
    cases m1 with
    | zero => first | cases (show (none : Option _) = some _ from h) | (rw [F7_L1] at h; cases h)
    | succ m1 =>
     rw [F7_L1] at h
     simp only [F7_S1]
     refine runX_seq ?_
     refine runX_seq ?_
     refine runX_regionC fun C hC => ?_
     try simp -implicitDefEqProofs (maxSteps := 4000000) (disch := first | omega | decide | (simp only [go_sem]; omega)) only [go_sem, ↓reduceIte]
     repeat (with_reducible refine And.intro (by first | assumption | omega | (simp; done) | (simp; omega)) ?_)
     refine toEnd hC ?_
     refine endX_seq ?_
     rcases iteB_some h with ⟨c5, h⟩ | ⟨c5, h⟩
     ·refine runX_condT rfl c5 ?_
      refine runX_skip ?_
      refine endX_seq ?_
      refine runX_block ?_
      refine runX_seq ?_
      refine runX_regionC fun C hC => ?_
      try simp -implicitDefEqProofs (maxSteps := 4000000) (disch := first | omega | decide | (simp only [go_sem]; omega)) only [go_sem, ↓reduceIte]
      repeat (with_reducible refine And.intro (by first | assumption | omega | (simp; done) | (simp; omega)) ?_)
      refine toEnd hC ?_
      refine endX_seq ?_
      refine runX_seq ?_
      refine runX_regionC fun C hC => ?_
      obtain ⟨v6, h6, h⟩ := bnd_some h
      try simp -implicitDefEqProofs (maxSteps := 4000000) (disch := first | omega | decide | (simp only [go_sem]; omega)) only [go_sem, ↓reduceIte]
      repeat (with_reducible refine And.intro (by first | assumption | omega | (simp; done) | (simp; omega)) ?_)
      refine callG_X (by first | rfl | (simp only [go_sem]; done) | (simp only [closedL, closedT, Bool.and_true]; exact closedL_map _ (fun _ => by first | rfl | (simp only [go_sem]; done)) _)) (F14_ok m1 x2 ([38] : List UInt8) _ h6) (by repeat (first | exact leL_refl _ | refine leL_cons (by first | exact leT_refl _ | exact leT_virt | exact leT_junk _ | exact leT_sl | exact leT_sln | exact leT_nil | (refine leT_agg (by repeat (first | exact leL_refl _ | refine leL_cons (by first | exact leT_refl _ | exact leT_sl | exact leT_sln | exact leT_nil) ?_)))) ?_)) ?_
      try simp -implicitDefEqProofs (maxSteps := 4000000) (disch := first | omega | decide | (simp only [go_sem]; omega)) only [go_sem, ↓reduceIte]
      repeat (with_reducible refine And.intro (by first | assumption | omega | (simp; done) | (simp; omega)) ?_)
      refine toEnd hC ?_
      refine endX_seq ?_
      refine runX_seq ?_
      refine runX_regionC fun C hC => ?_
      obtain ⟨v7, h7, h⟩ := bnd_some h
      try simp -implicitDefEqProofs (maxSteps := 4000000) (disch := first | omega | decide | (simp only [go_sem]; omega)) only [go_sem, ↓reduceIte]
      repeat (with_reducible refine And.intro (by first | assumption | omega | (simp; done) | (simp; omega)) ?_)
      refine callG_X (by first | rfl | (simp only [go_sem]; done) | (simp only [closedL, closedT, Bool.and_true]; exact closedL_map _ (fun _ => by first | rfl | (simp only [go_sem]; done)) _)) (F15_ok m1 v6.1 _ h7) (by repeat (first | exact leL_refl _ | refine leL_cons (by first | exact leT_refl _ | exact leT_virt | exact leT_junk _ | exact leT_sl | exact leT_sln | exact leT_nil | (refine leT_agg (by repeat (first | exact leL_refl _ | refine leL_cons (by first | exact leT_refl _ | exact leT_sl | exact leT_sln | exact leT_nil) ?_)))) ?_)) ?_
      try simp -implicitDefEqProofs (maxSteps := 4000000) (disch := first | omega | decide | (simp only [go_sem]; omega)) only [go_sem, ↓reduceIte]
      repeat (with_reducible refine And.intro (by first | assumption | omega | (simp; done) | (simp; omega)) ?_)
      refine toEnd hC ?_
      refine endX_seq ?_
      refine runX_seq ?_
      refine runX_seq ?_
      refine runX_regionC fun C hC => ?_
      try simp -implicitDefEqProofs (maxSteps := 4000000) (disch := first | omega | decide | (simp only [go_sem]; omega)) only [go_sem, ↓reduceIte]
      repeat (with_reducible refine And.intro (by first | assumption | omega | (simp; done) | (simp; omega)) ?_)
      rcases iteB_some h with ⟨c8, h⟩ | ⟨c8, h⟩
      ·refine guardK_F c8 ?_
       try simp -implicitDefEqProofs (maxSteps := 4000000) (disch := first | omega | decide | (simp only [go_sem]; omega)) only [go_sem, ↓reduceIte]
       repeat (with_reducible refine And.intro (by first | assumption | omega | (simp; done) | (simp; omega)) ?_)
       refine toEnd hC ?_
       refine endX_seq ?_
       refine runX_condT rfl rfl ?_
       refine runX_seq ?_
       refine runX_regionC fun C hC => ?_
       try simp -implicitDefEqProofs (maxSteps := 4000000) (disch := first | omega | decide | (simp only [go_sem]; omega)) only [go_sem, ↓reduceIte]
       repeat (with_reducible refine And.intro (by first | assumption | omega | (simp; done) | (simp; omega)) ?_)
       refine toEnd hC ?_
       refine endX_seq ?_
       refine runX_ret ?_
       refine endX_seqR ?_
       refine endX_blkR ?_
       refine endX_q (roundQ_ret ?_)
       refine endX_blkR ?_
       refine endX_seqR ?_
       refine endX_q ?_
       obtain rfl := Option.some.inj h
       show RetW _ _ _ _ _
       simp only [RetW]
       (try simp -implicitDefEqProofs (maxSteps := 4000000) (disch := first | omega | decide | (simp only [go_sem]; omega)) only [go_sem, ↓reduceIte])
       (try simp (disch := omega) only [if_pos, Nat.sub_zero])
       first | exact leT_refl _ | (refine ⟨rfl, ?_⟩; first | exact leT_refl _ | exact leT_sl | exact leT_sln | exact leT_nil | (refine leT_tup (by repeat (first | exact leL_refl _ | refine leL_cons (by first | exact leT_refl _ | exact leT_virt | exact leT_junk _ | exact leT_sl | exact leT_sln | exact leT_nil | (refine leT_agg (by repeat (first | exact leL_refl _ | refine leL_cons (by first | exact leT_refl _ | exact leT_sl | exact leT_sln | exact leT_nil) ?_)))) ?_))) | (refine leT_agg (by repeat (first | exact leL_refl _ | refine leL_cons (by first | exact leT_refl _ | exact leT_virt | exact leT_junk _ | exact leT_sl | exact leT_sln | exact leT_nil | (refine leT_agg (by repeat (first | exact leL_refl _ | refine leL_cons (by first | exact leT_refl _ | exact leT_sl | exact leT_sln | exact leT_nil) ?_)))) ?_)))) | (first | exact leT_refl _ | exact leT_sl | exact leT_sln | exact leT_nil | (refine leT_tup (by repeat (first | exact leL_refl _ | refine leL_cons (by first | exact leT_refl _ | exact leT_virt | exact leT_junk _ | exact leT_sl | exact leT_sln | exact leT_nil | (refine leT_agg (by repeat (first | exact leL_refl _ | refine leL_cons (by first | exact leT_refl _ | exact leT_sl | exact leT_sln | exact leT_nil) ?_)))) ?_))) | (refine leT_agg (by repeat (first | exact leL_refl _ | refine leL_cons (by first | exact leT_refl _ | exact leT_virt | exact leT_junk _ | exact leT_sl | exact leT_sln | exact leT_nil | (refine leT_agg (by repeat (first | exact leL_refl _ | refine leL_cons (by first | exact leT_refl _ | exact leT_sl | exact leT_sln | exact leT_nil) ?_)))) ?_)))) | (simp only [List.append_assoc, List.cons_append, List.nil_append]; exact leT_refl _) | (rw [List.take_of_length_le (by first | (simp; done) | (simp; omega))]; (try simp only [List.append_assoc, List.cons_append, List.nil_append]); exact leT_refl _) | ((try simp (disch := first | omega | (simp; done) | (simp; omega)) only [if_pos, Nat.sub_zero, List.take_of_length_le]); (try simp only [List.append_assoc, List.cons_append, List.nil_append]); first | exact leT_refl _ | exact ⟨rfl, leT_refl _⟩)
      ·refine guardK_T c8 ?_
       try simp -implicitDefEqProofs (maxSteps := 4000000) (disch := first | omega | decide | (simp only [go_sem]; omega)) only [go_sem, ↓reduceIte]
       repeat (with_reducible refine And.intro (by first | assumption | omega | (simp; done) | (simp; omega)) ?_)
       refine toEnd hC ?_
       refine endX_seq ?_
       rcases iteB_some h with ⟨c9, h⟩ | ⟨c9, h⟩
       ·refine runX_condT rfl c9 ?_
        refine runX_seq ?_
        refine runX_regionC fun C hC => ?_
        try simp -implicitDefEqProofs (maxSteps := 4000000) (disch := first | omega | decide | (simp only [go_sem]; omega)) only [go_sem, ↓reduceIte]
        repeat (with_reducible refine And.intro (by first | assumption | omega | (simp; done) | (simp; omega)) ?_)
        refine toEnd hC ?_
        refine endX_seq ?_
        refine runX_ret ?_
        refine endX_seqR ?_
        refine endX_blkR ?_
        refine endX_q (roundQ_ret ?_)
        refine endX_blkR ?_
        refine endX_seqR ?_
        refine endX_q ?_
        obtain rfl := Option.some.inj h
        show RetW _ _ _ _ _
        simp only [RetW]
        (try simp -implicitDefEqProofs (maxSteps := 4000000) (disch := first | omega | decide | (simp only [go_sem]; omega)) only [go_sem, ↓reduceIte])
        (try simp (disch := omega) only [if_pos, Nat.sub_zero])
        first | exact leT_refl _ | (refine ⟨rfl, ?_⟩; first | exact leT_refl _ | exact leT_sl | exact leT_sln | exact leT_nil | (refine leT_tup (by repeat (first | exact leL_refl _ | refine leL_cons (by first | exact leT_refl _ | exact leT_virt | exact leT_junk _ | exact leT_sl | exact leT_sln | exact leT_nil | (refine leT_agg (by repeat (first | exact leL_refl _ | refine leL_cons (by first | exact leT_refl _ | exact leT_sl | exact leT_sln | exact leT_nil) ?_)))) ?_))) | (refine leT_agg (by repeat (first | exact leL_refl _ | refine leL_cons (by first | exact leT_refl _ | exact leT_virt | exact leT_junk _ | exact leT_sl | exact leT_sln | exact leT_nil | (refine leT_agg (by repeat (first | exact leL_refl _ | refine leL_cons (by first | exact leT_refl _ | exact leT_sl | exact leT_sln | exact leT_nil) ?_)))) ?_)))) | (first | exact leT_refl _ | exact leT_sl | exact leT_sln | exact leT_nil | (refine leT_tup (by repeat (first | exact leL_refl _ | refine leL_cons (by first | exact leT_refl _ | exact leT_virt | exact leT_junk _ | exact leT_sl | exact leT_sln | exact leT_nil | (refine leT_agg (by repeat (first | exact leL_refl _ | refine leL_cons (by first | exact leT_refl _ | exact leT_sl | exact leT_sln | exact leT_nil) ?_)))) ?_))) | (refine leT_agg (by repeat (first | exact leL_refl _ | refine leL_cons (by first | exact leT_refl _ | exact leT_virt | exact leT_junk _ | exact leT_sl | exact leT_sln | exact leT_nil | (refine leT_agg (by repeat (first | exact leL_refl _ | refine leL_cons (by first | exact leT_refl _ | exact leT_sl | exact leT_sln | exact leT_nil) ?_)))) ?_)))) | (simp only [List.append_assoc, List.cons_append, List.nil_append]; exact leT_refl _) | (rw [List.take_of_length_le (by first | (simp; done) | (simp; omega))]; (try simp only [List.append_assoc, List.cons_append, List.nil_append]); exact leT_refl _) | ((try simp (disch := first | omega | (simp; done) | (simp; omega)) only [if_pos, Nat.sub_zero, List.take_of_length_le]); (try simp only [List.append_assoc, List.cons_append, List.nil_append]); first | exact leT_refl _ | exact ⟨rfl, leT_refl _⟩)
       ·refine runX_condF rfl c9 ?_
        refine runX_skip ?_
        refine endX_seq ?_
        refine runX_regionC fun C hC => ?_
        try simp -implicitDefEqProofs (maxSteps := 4000000) (disch := first | omega | decide | (simp only [go_sem]; omega)) only [go_sem, ↓reduceIte]
        repeat (with_reducible refine And.intro (by first | assumption | omega | (simp; done) | (simp; omega)) ?_)
        refine bs_go <| buildX_val ?_
        obtain ⟨g10, h⟩ := grd_some h
        try simp -implicitDefEqProofs (maxSteps := 4000000) (disch := first | omega | decide | (simp only [go_sem]; omega)) only [go_sem, ↓reduceIte]
        repeat (with_reducible refine And.intro (by first | assumption | omega | (simp; done) | (simp; omega)) ?_)
        refine toEnd hC ?_
        refine endX_blk ?_
        refine endX_q (roundQ_normal ⟨m1, by omega, F7_S1 v6.2.1 v6.2.2 (x4 ++ [(v7.1.1, v7.1.2)]), ?_, v6.2.1, v6.2.2, (x4 ++ [(v7.1.1, v7.1.2)]), rfl, by omega, h⟩)
        simp only [F7_S1]
        (try simp -implicitDefEqProofs (maxSteps := 4000000) (disch := first | omega | decide | (simp only [go_sem]; omega)) only [go_sem, ↓reduceIte])
        first | exact leS_refl _ | (refine leS_le ?_ ?_ <;> first | exact leL_refl _ | exact leOs_refl _ | (simp only [List.append_assoc, List.cons_append, List.nil_append]; exact leOs_refl _) | (refine leOs.cons (by first | exact leO.same _ | (refine leO.box (leT_agg (by repeat (first | exact leL_refl _ | refine leL_cons (by first | exact leT_refl _ | exact leT_virt | exact leT_junk _ | exact leT_sl | exact leT_sln | exact leT_nil | (refine leT_agg (by repeat (first | exact leL_refl _ | refine leL_cons (by first | exact leT_refl _ | exact leT_sl | exact leT_sln | exact leT_nil) ?_)))) ?_))) rfl) | (refine leO.box (by first | exact leT_virt | exact leT_sl | exact leT_sln) rfl)) ?_; repeat (first | exact leOs_refl _ | refine leOs.cons (by first | exact leO.same _ | (refine leO.box (leT_agg (by repeat (first | exact leL_refl _ | refine leL_cons (by first | exact leT_refl _ | exact leT_virt | exact leT_junk _ | exact leT_sl | exact leT_sln | exact leT_nil | (refine leT_agg (by repeat (first | exact leL_refl _ | refine leL_cons (by first | exact leT_refl _ | exact leT_sl | exact leT_sln | exact leT_nil) ?_)))) ?_))) rfl) | (refine leO.box (by first | exact leT_virt | exact leT_sl | exact leT_sln) rfl)) ?_)) | (repeat (first | exact leL_refl _ | refine leL_cons (by first | exact leT_refl _ | exact leT_virt | exact leT_junk _ | exact leT_sl | exact leT_sln | exact leT_nil | (refine leT_agg (by repeat (first | exact leL_refl _ | refine leL_cons (by first | exact leT_refl _ | exact leT_sl | exact leT_sln | exact leT_nil) ?_)))) ?_)))
     ·refine runX_condF rfl c5 ?_
      refine runX_exit ?_
      refine endX_seqE ?_
      refine endX_q (roundQ_exit ?_)
      refine endX_blkE ?_
      refine endX_seq ?_
      refine runX_seq ?_
      refine runX_regionC fun C hC => ?_
      try simp -implicitDefEqProofs (maxSteps := 4000000) (disch := first | omega | decide | (simp only [go_sem]; omega)) only [go_sem, ↓reduceIte]
      repeat (with_reducible refine And.intro (by first | assumption | omega | (simp; done) | (simp; omega)) ?_)
      refine toEnd hC ?_
      refine endX_seq ?_
      refine runX_ret ?_
      refine endX_q ?_
      obtain rfl := Option.some.inj h
      show RetW _ _ _ _ _
      simp only [RetW]
      (try simp -implicitDefEqProofs (maxSteps := 4000000) (disch := first | omega | decide | (simp only [go_sem]; omega)) only [go_sem, ↓reduceIte])
      (try simp (disch := omega) only [if_pos, Nat.sub_zero])
      first | exact leT_refl _ | (refine ⟨rfl, ?_⟩; first | exact leT_refl _ | exact leT_sl | exact leT_sln | exact leT_nil | (refine leT_tup (by repeat (first | exact leL_refl _ | refine leL_cons (by first | exact leT_refl _ | exact leT_virt | exact leT_junk _ | exact leT_sl | exact leT_sln | exact leT_nil | (refine leT_agg (by repeat (first | exact leL_refl _ | refine leL_cons (by first | exact leT_refl _ | exact leT_sl | exact leT_sln | exact leT_nil) ?_)))) ?_))) | (refine leT_agg (by repeat (first | exact leL_refl _ | refine leL_cons (by first | exact leT_refl _ | exact leT_virt | exact leT_junk _ | exact leT_sl | exact leT_sln | exact leT_nil | (refine leT_agg (by repeat (first | exact leL_refl _ | refine leL_cons (by first | exact leT_refl _ | exact leT_sl | exact leT_sln | exact leT_nil) ?_)))) ?_)))) | (first | exact leT_refl _ | exact leT_sl | exact leT_sln | exact leT_nil | (refine leT_tup (by repeat (first | exact leL_refl _ | refine leL_cons (by first | exact leT_refl _ | exact leT_virt | exact leT_junk _ | exact leT_sl | exact leT_sln | exact leT_nil | (refine leT_agg (by repeat (first | exact leL_refl _ | refine leL_cons (by first | exact leT_refl _ | exact leT_sl | exact leT_sln | exact leT_nil) ?_)))) ?_))) | (refine leT_agg (by repeat (first | exact leL_refl _ | refine leL_cons (by first | exact leT_refl _ | exact leT_virt | exact leT_junk _ | exact leT_sl | exact leT_sln | exact leT_nil | (refine leT_agg (by repeat (first | exact leL_refl _ | refine leL_cons (by first | exact leT_refl _ | exact leT_sl | exact leT_sln | exact leT_nil) ?_)))) ?_)))) | (simp only [List.append_assoc, List.cons_append, List.nil_append]; exact leT_refl _) | (rw [List.take_of_length_le (by first | (simp; done) | (simp; omega))]; (try simp only [List.append_assoc, List.cons_append, List.nil_append]); exact leT_refl _) | ((try simp (disch := first | omega | (simp; done) | (simp; omega)) only [if_pos, Nat.sub_zero, List.take_of_length_le]); (try simp only [List.append_assoc, List.cons_append, List.nil_append]); first | exact leT_refl _ | exact ⟨rfl, leT_refl _⟩)
end Go.Proofs.YtdaojihnaajfeaaDoorX

set_option linter.unusedVariables false
set_option linter.unusedSimpArgs false
namespace Go.Proofs.YtdaojihnaajfeaaDoorX
open Go Go.RowKit Go.Proofs
set_option maxRecDepth 100000
attribute [local go_sem ↓] stepsK_build stepsK_bs appendS
attribute [local go_sem] String.reduceEq String.reduceNe reduceCtorEq Int.reduceEq Nat.reduceAdd Nat.reduceSub Nat.reduceMul Nat.reduceLT Nat.reduceLeDiff Nat.reduceEqDiff Nat.reduceBEq Int.reduceToNat Int.reduceLT Int.reduceLE Int.reduceGT Int.reduceGE Int.reduceAdd Int.reduceSub Int.reduceMul Int.reduceNeg Int.reduceBEq Int.reduceBNe Int.reducePow Int.reduceDiv Int.reduceMod Int.reduceTDiv Int.reduceTMod Int.reduceNatCast
/-! ### shadowboxlaw29.own -/
def F9_S1 (a0 : List ((List UInt8) × (List UInt8))) (x1 : Int) (x2 : Int) (x3 : List ((List UInt8) × (List UInt8))) : St := ⟨[.sl 2 false (List.map eT28 a0), .junk, .junk, .junk, .rsl 0 2 0 x3.length, .imm (.int .i64 x1), .imm (.int .i64 x2), .junk, .junk, .junk, .junk, .junk, .junk, .junk, .junk, .junk, .junk, .junk, .junk, .junk, .junk, .junk, .junk, .junk, .junk, .junk, .junk, .junk, .junk, .junk, .junk, .junk, .junk, .junk, .junk, .junk, .junk, .junk, .junk, .junk, .junk], [some (.buf 29 2 (List.map eT28 x3) 0)]⟩
def F9_L1 : Nat → (List ((List UInt8) × (List UInt8))) → (Int) → (Int) → (List ((List UInt8) × (List UInt8))) → Option ((List ((List UInt8) × (List UInt8))) × (Bool))
 | 0, _, _, _, _ => none
 | m1 + 1, a0, x1, x2, x3 => iteB (decide (x2 < (a0.length : Int))) (grd (0 ≤ x2 ∧ x2 < (a0.length : Int)) (grd (0 ≤ x2 ∧ x2 < (a0.length : Int)) (iteB (decide ((900 : Int) < (IntKind.wrap .i64 ((IntKind.wrap .i64 ((IntKind.wrap .i64 (x1 + (10 : Int))) + (if (900 : Int) < (((a0.getD x2.toNat default).1).length : Int) then (900 : Int) else (((a0.getD x2.toNat default).1).length : Int)))) + (if (900 : Int) < (((a0.getD x2.toNat default).2).length : Int) then (900 : Int) else (((a0.getD x2.toNat default).2).length : Int)))))) (some ([], false)) (grd (0 ≤ x2 ∧ x2 < (a0.length : Int)) (grd ((x3.length + 1) ≤ 549755813888) (F9_L1 m1 a0 (IntKind.wrap .i64 ((IntKind.wrap .i64 ((IntKind.wrap .i64 (x1 + (10 : Int))) + (if (900 : Int) < (((a0.getD x2.toNat default).1).length : Int) then (900 : Int) else (((a0.getD x2.toNat default).1).length : Int)))) + (if (900 : Int) < (((a0.getD x2.toNat default).2).length : Int) then (900 : Int) else (((a0.getD x2.toNat default).2).length : Int)))) (IntKind.wrap .i64 (x2 + (1 : Int))) (x3 ++ [((a0.getD x2.toNat default).1, (a0.getD x2.toNat default).2)]))))))) (some (x3, true))
def F9 (n : Nat) (a0 : List ((List UInt8) × (List UInt8))) : Option ((List ((List UInt8) × (List UInt8))) × (Bool)) := F9_L1 n a0 (0 : Int) (0 : Int) []
set_option maxHeartbeats 4000000 in
theorem F9_ok : ∀ (n : Nat) (a0 : List ((List UInt8) × (List UInt8))) (r : (List ((List UInt8) × (List UInt8))) × (Bool)), F9 n a0 = some r → FnC Tryd.prog 9 [.sl 2 false (List.map eT28 a0)] (.tup [.sl 2 false (List.map eT28 r.1), .imm (.bool r.2)])
 | n, a0, r, h => by
  unfold F9 at h
  refine FnC.goX mixed Tryd.func9 (by kernel_rfl) rfl ?_
  simp only [Tryd.ntmps9, List.length_cons, List.length_nil, List.replicate, List.cons_append, List.nil_append, Nat.reduceAdd, Nat.reduceSub]
  refine runX_seq ?_
  refine runX_regionC fun C hC => ?_
  try simp -implicitDefEqProofs (maxSteps := 4000000) (disch := first | omega | decide | (simp only [go_sem]; omega)) only [go_sem, ↓reduceIte]
  repeat (with_reducible refine And.intro (by first | assumption | omega | (simp; done) | (simp; omega)) ?_)
  refine toEnd hC ?_
  refine endX_seq ?_
  refine runX_seq ?_
  refine runX_regionC fun C hC => ?_
  try simp -implicitDefEqProofs (maxSteps := 4000000) (disch := first | omega | decide | (simp only [go_sem]; omega)) only [go_sem, ↓reduceIte]
  repeat (with_reducible refine And.intro (by first | assumption | omega | (simp; done) | (simp; omega)) ?_)
  refine toEnd hC ?_
  refine endX_seq ?_
  refine runX_seq ?_
  refine runX_regionC fun C hC => ?_
  try simp -implicitDefEqProofs (maxSteps := 4000000) (disch := first | omega | decide | (simp only [go_sem]; omega)) only [go_sem, ↓reduceIte]
  repeat (with_reducible refine And.intro (by first | assumption | omega | (simp; done) | (simp; omega)) ?_)
  refine toEnd hC ?_
  refine endX_seq ?_
  refine runX_seq ?_
  refine runX_seq ?_
  refine runX_regionC fun C hC => ?_
  try simp -implicitDefEqProofs (maxSteps := 4000000) (disch := first | omega | decide | (simp only [go_sem]; omega)) only [go_sem, ↓reduceIte]
  repeat (with_reducible refine And.intro (by first | assumption | omega | (simp; done) | (simp; omega)) ?_)
  refine toEnd hC ?_
  refine endX_seq ?_
  refine runX_block ?_
  refine runX_loop [0, 4, 5, 6] (fun m S => ∃ (x1 : Int) (x2 : Int) (x3 : List ((List UInt8) × (List UInt8))), S = F9_S1 a0 x1 x2 x3 ∧ m ≤ n ∧ F9_L1 m a0 x1 x2 x3 = some r) n ⟨F9_S1 a0 (0 : Int) (0 : Int) [], ?_, (0 : Int), (0 : Int), [], rfl, Nat.le_refl _, h⟩ ?_
  ·(try simp -implicitDefEqProofs (maxSteps := 4000000) (disch := first | omega | decide | (simp only [go_sem]; omega)) only [go_sem, ↓reduceIte])
   simp only [F9_S1]
   refine leS_trans (leS_pad _ _ 1) ?_
   simp only [List.replicate, List.cons_append, List.nil_append]
   refine leS_virt 0 29 2 rfl ?_ ?_ rfl
   ·repeat (first | exact leL_refl _ | refine leL_cons (by first | exact leT_refl _ | exact leT_virt | exact leT_junk _ | exact leT_sl | exact leT_sln | exact leT_nil | (refine leT_agg (by repeat (first | exact leL_refl _ | refine leL_cons (by first | exact leT_refl _ | exact leT_sl | exact leT_sln | exact leT_nil) ?_)))) ?_)
   ·repeat (first | exact leOs_refl _ | refine leOs.cons (by first | exact leO.same _ | (refine leO.box (leT_agg (by repeat (first | exact leL_refl _ | refine leL_cons (by first | exact leT_refl _ | exact leT_virt | exact leT_junk _ | exact leT_sl | exact leT_sln | exact leT_nil | (refine leT_agg (by repeat (first | exact leL_refl _ | refine leL_cons (by first | exact leT_refl _ | exact leT_sl | exact leT_sln | exact leT_nil) ?_)))) ?_))) rfl) | (refine leO.box (by first | exact leT_virt | exact leT_sl | exact leT_sln) rfl)) ?_)
  ·clear h
   rintro m1 S ⟨x1, x2, x3, rfl, hm1, h⟩
   cases m1 with
   | zero => first | cases (show (none : Option _) = some _ from h) | (rw [F9_L1] at h; cases h)
   | succ m1 =>
    rw [F9_L1] at h
    simp only [F9_S1]
    refine runX_seq ?_
    refine runX_seq ?_
    refine runX_regionC fun C hC => ?_
    try simp -implicitDefEqProofs (maxSteps := 4000000) (disch := first | omega | decide | (simp only [go_sem]; omega)) only [go_sem, ↓reduceIte]
    repeat (with_reducible refine And.intro (by first | assumption | omega | (simp; done) | (simp; omega)) ?_)
    refine toEnd hC ?_
    refine endX_seq ?_
    rcases iteB_some h with ⟨c4, h⟩ | ⟨c4, h⟩
    ·refine runX_condT rfl c4 ?_
     refine runX_skip ?_
     refine endX_seq ?_
     refine runX_seq ?_
     refine runX_block ?_
     refine runX_seq ?_
     refine runX_drawC mixed (by kernel_rfl) fun C hC => ?_
     obtain ⟨g5, h⟩ := grd_some h
     obtain ⟨g6, h⟩ := grd_some h
     try simp -implicitDefEqProofs (maxSteps := 4000000) (disch := first | omega | decide | (simp only [go_sem]; omega)) only [go_sem, ↓reduceIte]
     repeat (with_reducible refine And.intro (by first | assumption | omega | (simp; done) | (simp; omega)) ?_)
     refine toEnd hC ?_
     refine endX_seq ?_
     refine runX_seq ?_
     refine runX_seq ?_
     refine runX_regionC fun C hC => ?_
     try simp -implicitDefEqProofs (maxSteps := 4000000) (disch := first | omega | decide | (simp only [go_sem]; omega)) only [go_sem, ↓reduceIte]
     repeat (with_reducible refine And.intro (by first | assumption | omega | (simp; done) | (simp; omega)) ?_)
     refine toEnd hC ?_
     refine endX_seq ?_
     rcases iteB_some h with ⟨c7, h⟩ | ⟨c7, h⟩
     ·refine runX_condT rfl c7 ?_
      refine runX_seq ?_
      refine runX_regionC fun C hC => ?_
      try simp -implicitDefEqProofs (maxSteps := 4000000) (disch := first | omega | decide | (simp only [go_sem]; omega)) only [go_sem, ↓reduceIte]
      repeat (with_reducible refine And.intro (by first | assumption | omega | (simp; done) | (simp; omega)) ?_)
      refine toEnd hC ?_
      refine endX_seq ?_
      refine runX_ret ?_
      refine endX_seqR ?_
      refine endX_blkR ?_
      refine endX_seqR ?_
      refine endX_q (roundQ_ret ?_)
      refine endX_blkR ?_
      refine endX_seqR ?_
      refine endX_q ?_
      obtain rfl := Option.some.inj h
      show RetW _ _ _ _ _
      simp only [RetW]
      (try simp -implicitDefEqProofs (maxSteps := 4000000) (disch := first | omega | decide | (simp only [go_sem]; omega)) only [go_sem, ↓reduceIte])
      (try simp (disch := omega) only [if_pos, Nat.sub_zero])
      first | exact leT_refl _ | (refine ⟨rfl, ?_⟩; first | exact leT_refl _ | exact leT_sl | exact leT_sln | exact leT_nil | (refine leT_tup (by repeat (first | exact leL_refl _ | refine leL_cons (by first | exact leT_refl _ | exact leT_virt | exact leT_junk _ | exact leT_sl | exact leT_sln | exact leT_nil | (refine leT_agg (by repeat (first | exact leL_refl _ | refine leL_cons (by first | exact leT_refl _ | exact leT_sl | exact leT_sln | exact leT_nil) ?_)))) ?_))) | (refine leT_agg (by repeat (first | exact leL_refl _ | refine leL_cons (by first | exact leT_refl _ | exact leT_virt | exact leT_junk _ | exact leT_sl | exact leT_sln | exact leT_nil | (refine leT_agg (by repeat (first | exact leL_refl _ | refine leL_cons (by first | exact leT_refl _ | exact leT_sl | exact leT_sln | exact leT_nil) ?_)))) ?_)))) | (first | exact leT_refl _ | exact leT_sl | exact leT_sln | exact leT_nil | (refine leT_tup (by repeat (first | exact leL_refl _ | refine leL_cons (by first | exact leT_refl _ | exact leT_virt | exact leT_junk _ | exact leT_sl | exact leT_sln | exact leT_nil | (refine leT_agg (by repeat (first | exact leL_refl _ | refine leL_cons (by first | exact leT_refl _ | exact leT_sl | exact leT_sln | exact leT_nil) ?_)))) ?_))) | (refine leT_agg (by repeat (first | exact leL_refl _ | refine leL_cons (by first | exact leT_refl _ | exact leT_virt | exact leT_junk _ | exact leT_sl | exact leT_sln | exact leT_nil | (refine leT_agg (by repeat (first | exact leL_refl _ | refine leL_cons (by first | exact leT_refl _ | exact leT_sl | exact leT_sln | exact leT_nil) ?_)))) ?_)))) | (simp only [List.append_assoc, List.cons_append, List.nil_append]; exact leT_refl _) | (rw [List.take_of_length_le (by first | (simp; done) | (simp; omega))]; (try simp only [List.append_assoc, List.cons_append, List.nil_append]); exact leT_refl _) | ((try simp (disch := first | omega | (simp; done) | (simp; omega)) only [if_pos, Nat.sub_zero, List.take_of_length_le]); (try simp only [List.append_assoc, List.cons_append, List.nil_append]); first | exact leT_refl _ | exact ⟨rfl, leT_refl _⟩)
     ·refine runX_condF rfl c7 ?_
      refine runX_skip ?_
      refine endX_seq ?_
      refine runX_regionC fun C hC => ?_
      obtain ⟨g8, h⟩ := grd_some h
      try simp -implicitDefEqProofs (maxSteps := 4000000) (disch := first | omega | decide | (simp only [go_sem]; omega)) only [go_sem, ↓reduceIte]
      repeat (with_reducible refine And.intro (by first | assumption | omega | (simp; done) | (simp; omega)) ?_)
      refine bs_go <| buildX_val ?_
      obtain ⟨g9, h⟩ := grd_some h
      try simp -implicitDefEqProofs (maxSteps := 4000000) (disch := first | omega | decide | (simp only [go_sem]; omega)) only [go_sem, ↓reduceIte]
      repeat (with_reducible refine And.intro (by first | assumption | omega | (simp; done) | (simp; omega)) ?_)
      refine toEnd hC ?_
      refine endX_blk ?_
      refine endX_seq ?_
      refine runX_regionC fun C hC => ?_
      try simp -implicitDefEqProofs (maxSteps := 4000000) (disch := first | omega | decide | (simp only [go_sem]; omega)) only [go_sem, ↓reduceIte]
      repeat (with_reducible refine And.intro (by first | assumption | omega | (simp; done) | (simp; omega)) ?_)
      refine toEnd hC ?_
      refine endX_q (roundQ_normal ⟨m1, by omega, F9_S1 a0 (IntKind.wrap .i64 ((IntKind.wrap .i64 ((IntKind.wrap .i64 (x1 + (10 : Int))) + (if (900 : Int) < (((a0.getD x2.toNat default).1).length : Int) then (900 : Int) else (((a0.getD x2.toNat default).1).length : Int)))) + (if (900 : Int) < (((a0.getD x2.toNat default).2).length : Int) then (900 : Int) else (((a0.getD x2.toNat default).2).length : Int)))) (IntKind.wrap .i64 (x2 + (1 : Int))) (x3 ++ [((a0.getD x2.toNat default).1, (a0.getD x2.toNat default).2)]), ?_, (IntKind.wrap .i64 ((IntKind.wrap .i64 ((IntKind.wrap .i64 (x1 + (10 : Int))) + (if (900 : Int) < (((a0.getD x2.toNat default).1).length : Int) then (900 : Int) else (((a0.getD x2.toNat default).1).length : Int)))) + (if (900 : Int) < (((a0.getD x2.toNat default).2).length : Int) then (900 : Int) else (((a0.getD x2.toNat default).2).length : Int)))), (IntKind.wrap .i64 (x2 + (1 : Int))), (x3 ++ [((a0.getD x2.toNat default).1, (a0.getD x2.toNat default).2)]), rfl, by omega, h⟩)
      simp only [F9_S1]
      (try simp -implicitDefEqProofs (maxSteps := 4000000) (disch := first | omega | decide | (simp only [go_sem]; omega)) only [go_sem, ↓reduceIte])
      first | exact leS_refl _ | (refine leS_le ?_ ?_ <;> first | exact leL_refl _ | exact leOs_refl _ | (simp only [List.append_assoc, List.cons_append, List.nil_append]; exact leOs_refl _) | (refine leOs.cons (by first | exact leO.same _ | (refine leO.box (leT_agg (by repeat (first | exact leL_refl _ | refine leL_cons (by first | exact leT_refl _ | exact leT_virt | exact leT_junk _ | exact leT_sl | exact leT_sln | exact leT_nil | (refine leT_agg (by repeat (first | exact leL_refl _ | refine leL_cons (by first | exact leT_refl _ | exact leT_sl | exact leT_sln | exact leT_nil) ?_)))) ?_))) rfl) | (refine leO.box (by first | exact leT_virt | exact leT_sl | exact leT_sln) rfl)) ?_; repeat (first | exact leOs_refl _ | refine leOs.cons (by first | exact leO.same _ | (refine leO.box (leT_agg (by repeat (first | exact leL_refl _ | refine leL_cons (by first | exact leT_refl _ | exact leT_virt | exact leT_junk _ | exact leT_sl | exact leT_sln | exact leT_nil | (refine leT_agg (by repeat (first | exact leL_refl _ | refine leL_cons (by first | exact leT_refl _ | exact leT_sl | exact leT_sln | exact leT_nil) ?_)))) ?_))) rfl) | (refine leO.box (by first | exact leT_virt | exact leT_sl | exact leT_sln) rfl)) ?_)) | (repeat (first | exact leL_refl _ | refine leL_cons (by first | exact leT_refl _ | exact leT_virt | exact leT_junk _ | exact leT_sl | exact leT_sln | exact leT_nil | (refine leT_agg (by repeat (first | exact leL_refl _ | refine leL_cons (by first | exact leT_refl _ | exact leT_sl | exact leT_sln | exact leT_nil) ?_)))) ?_)))
    ·refine runX_condF rfl c4 ?_
     refine runX_exit ?_
     refine endX_seqE ?_
     refine endX_q (roundQ_exit ?_)
     refine endX_blkE ?_
     refine endX_seq ?_
     refine runX_seq ?_
     refine runX_regionC fun C hC => ?_
     try simp -implicitDefEqProofs (maxSteps := 4000000) (disch := first | omega | decide | (simp only [go_sem]; omega)) only [go_sem, ↓reduceIte]
     repeat (with_reducible refine And.intro (by first | assumption | omega | (simp; done) | (simp; omega)) ?_)
     refine toEnd hC ?_
     refine endX_seq ?_
     refine runX_ret ?_
     refine endX_q ?_
     obtain rfl := Option.some.inj h
     show RetW _ _ _ _ _
     simp only [RetW]
     (try simp -implicitDefEqProofs (maxSteps := 4000000) (disch := first | omega | decide | (simp only [go_sem]; omega)) only [go_sem, ↓reduceIte])
     (try simp (disch := omega) only [if_pos, Nat.sub_zero])
     first | exact leT_refl _ | (refine ⟨rfl, ?_⟩; first | exact leT_refl _ | exact leT_sl | exact leT_sln | exact leT_nil | (refine leT_tup (by repeat (first | exact leL_refl _ | refine leL_cons (by first | exact leT_refl _ | exact leT_virt | exact leT_junk _ | exact leT_sl | exact leT_sln | exact leT_nil | (refine leT_agg (by repeat (first | exact leL_refl _ | refine leL_cons (by first | exact leT_refl _ | exact leT_sl | exact leT_sln | exact leT_nil) ?_)))) ?_))) | (refine leT_agg (by repeat (first | exact leL_refl _ | refine leL_cons (by first | exact leT_refl _ | exact leT_virt | exact leT_junk _ | exact leT_sl | exact leT_sln | exact leT_nil | (refine leT_agg (by repeat (first | exact leL_refl _ | refine leL_cons (by first | exact leT_refl _ | exact leT_sl | exact leT_sln | exact leT_nil) ?_)))) ?_)))) | (first | exact leT_refl _ | exact leT_sl | exact leT_sln | exact leT_nil | (refine leT_tup (by repeat (first | exact leL_refl _ | refine leL_cons (by first | exact leT_refl _ | exact leT_virt | exact leT_junk _ | exact leT_sl | exact leT_sln | exact leT_nil | (refine leT_agg (by repeat (first | exact leL_refl _ | refine leL_cons (by first | exact leT_refl _ | exact leT_sl | exact leT_sln | exact leT_nil) ?_)))) ?_))) | (refine leT_agg (by repeat (first | exact leL_refl _ | refine leL_cons (by first | exact leT_refl _ | exact leT_virt | exact leT_junk _ | exact leT_sl | exact leT_sln | exact leT_nil | (refine leT_agg (by repeat (first | exact leL_refl _ | refine leL_cons (by first | exact leT_refl _ | exact leT_sl | exact leT_sln | exact leT_nil) ?_)))) ?_)))) | (simp only [List.append_assoc, List.cons_append, List.nil_append]; exact leT_refl _) | (rw [List.take_of_length_le (by first | (simp; done) | (simp; omega))]; (try simp only [List.append_assoc, List.cons_append, List.nil_append]); exact leT_refl _) | ((try simp (disch := first | omega | (simp; done) | (simp; omega)) only [if_pos, Nat.sub_zero, List.take_of_length_le]); (try simp only [List.append_assoc, List.cons_append, List.nil_append]); first | exact leT_refl _ | exact ⟨rfl, leT_refl _⟩)
end Go.Proofs.YtdaojihnaajfeaaDoorX

set_option linter.unusedVariables false
set_option linter.unusedSimpArgs false
namespace Go.Proofs.YtdaojihnaajfeaaDoorX
open Go Go.RowKit Go.Proofs
set_option maxRecDepth 100000
attribute [local go_sem ↓] stepsK_build stepsK_bs appendS
attribute [local go_sem] String.reduceEq String.reduceNe reduceCtorEq Int.reduceEq Nat.reduceAdd Nat.reduceSub Nat.reduceMul Nat.reduceLT Nat.reduceLeDiff Nat.reduceEqDiff Nat.reduceBEq Int.reduceToNat Int.reduceLT Int.reduceLE Int.reduceGT Int.reduceGE Int.reduceAdd Int.reduceSub Int.reduceMul Int.reduceNeg Int.reduceBEq Int.reduceBNe Int.reducePow Int.reduceDiv Int.reduceMod Int.reduceTDiv Int.reduceTMod Int.reduceNatCast
/-! ### percent.Plain -/
def F38 (n : Nat) (a0 : Int) : Option (Bool) := iteB (a0 == (45 : Int)) (iteB (a0 == (45 : Int)) (some true) ((F61 n a0).bind fun v3 => some (v3 != (0 : Int)))) (iteB (a0 == (46 : Int)) (iteB (a0 == (46 : Int)) (some true) ((F61 n a0).bind fun v6 => some (v6 != (0 : Int)))) (iteB (a0 == (95 : Int)) (iteB (a0 == (95 : Int)) (some true) ((F61 n a0).bind fun v9 => some (v9 != (0 : Int)))) (iteB (a0 == (126 : Int)) (some true) ((F61 n a0).bind fun v11 => some (v11 != (0 : Int))))))
set_option maxHeartbeats 4000000 in
theorem F38_ok : ∀ (n : Nat) (a0 : Int) (r : Bool), F38 n a0 = some r → FnC Tryd.prog 38 [.imm (.int .u8 a0)] (.imm (.bool r))
 | n, a0, r, h => by
  unfold F38 at h
  refine FnC.goX mixed Tryd.func38 (by kernel_rfl) rfl ?_
  simp only [Tryd.ntmps38, List.length_cons, List.length_nil, List.replicate, List.cons_append, List.nil_append, Nat.reduceAdd, Nat.reduceSub]
  refine runX_seq ?_
  refine runX_regionC fun C hC => ?_
  try simp -implicitDefEqProofs (maxSteps := 4000000) (disch := first | omega | decide | (simp only [go_sem]; omega)) only [go_sem, ↓reduceIte]
  repeat (with_reducible refine And.intro (by first | assumption | omega | (simp; done) | (simp; omega)) ?_)
  refine toEnd hC ?_
  refine endX_seq ?_
  refine runX_seq ?_
  refine runX_seq ?_
  refine runX_regionC fun C hC => ?_
  try simp -implicitDefEqProofs (maxSteps := 4000000) (disch := first | omega | decide | (simp only [go_sem]; omega)) only [go_sem, ↓reduceIte]
  repeat (with_reducible refine And.intro (by first | assumption | omega | (simp; done) | (simp; omega)) ?_)
  refine toEnd hC ?_
  refine endX_seq ?_
  refine runX_block ?_
  refine runX_seq ?_
  refine runX_seq ?_
  refine runX_regionC fun C hC => ?_
  try simp -implicitDefEqProofs (maxSteps := 4000000) (disch := first | omega | decide | (simp only [go_sem]; omega)) only [go_sem, ↓reduceIte]
  repeat (with_reducible refine And.intro (by first | assumption | omega | (simp; done) | (simp; omega)) ?_)
  refine toEnd hC ?_
  refine endX_seq ?_
  rcases iteB_some h with ⟨c1, h⟩ | ⟨c1, h⟩
  ·refine runX_condT rfl c1 ?_
   refine runX_skip ?_
   refine endX_seq ?_
   rcases iteB_some h with ⟨c2, h⟩ | ⟨c2, h⟩
   ·refine runX_condT rfl c2 ?_
    refine runX_seq ?_
    refine runX_regionC fun C hC => ?_
    try simp -implicitDefEqProofs (maxSteps := 4000000) (disch := first | omega | decide | (simp only [go_sem]; omega)) only [go_sem, ↓reduceIte]
    repeat (with_reducible refine And.intro (by first | assumption | omega | (simp; done) | (simp; omega)) ?_)
    refine toEnd hC ?_
    refine endX_seq ?_
    refine runX_ret ?_
    refine endX_blkR ?_
    refine endX_seqR ?_
    refine endX_q ?_
    obtain rfl := Option.some.inj h
    show RetW _ _ _ _ _
    simp only [RetW]
    (try simp -implicitDefEqProofs (maxSteps := 4000000) (disch := first | omega | decide | (simp only [go_sem]; omega)) only [go_sem, ↓reduceIte])
    (try simp (disch := omega) only [if_pos, Nat.sub_zero])
    exact leT_refl _
   ·refine runX_condF rfl c2 ?_
    refine runX_skip ?_
    refine endX_blk ?_
    refine endX_seq ?_
    refine runX_seq ?_
    refine runX_regionC fun C hC => ?_
    obtain ⟨v3, h3, h⟩ := bnd_some h
    try simp -implicitDefEqProofs (maxSteps := 4000000) (disch := first | omega | decide | (simp only [go_sem]; omega)) only [go_sem, ↓reduceIte]
    repeat (with_reducible refine And.intro (by first | assumption | omega | (simp; done) | (simp; omega)) ?_)
    refine callG_X (by first | rfl | (simp only [go_sem]; done) | (simp only [closedL, closedT, Bool.and_true]; exact closedL_map _ (fun _ => by first | rfl | (simp only [go_sem]; done)) _)) (F61_ok n a0 _ h3) (by repeat (first | exact leL_refl _ | refine leL_cons (by first | exact leT_refl _ | exact leT_virt | exact leT_junk _ | exact leT_sl | exact leT_sln | exact leT_nil | (refine leT_agg (by repeat (first | exact leL_refl _ | refine leL_cons (by first | exact leT_refl _ | exact leT_sl | exact leT_sln | exact leT_nil) ?_)))) ?_)) ?_
    try simp -implicitDefEqProofs (maxSteps := 4000000) (disch := first | omega | decide | (simp only [go_sem]; omega)) only [go_sem, ↓reduceIte]
    repeat (with_reducible refine And.intro (by first | assumption | omega | (simp; done) | (simp; omega)) ?_)
    refine toEnd hC ?_
    refine endX_seq ?_
    refine runX_ret ?_
    refine endX_q ?_
    obtain rfl := Option.some.inj h
    show RetW _ _ _ _ _
    simp only [RetW]
    (try simp -implicitDefEqProofs (maxSteps := 4000000) (disch := first | omega | decide | (simp only [go_sem]; omega)) only [go_sem, ↓reduceIte])
    (try simp (disch := omega) only [if_pos, Nat.sub_zero])
    exact leT_refl _
  ·refine runX_condF rfl c1 ?_
   refine runX_seq ?_
   refine runX_regionC fun C hC => ?_
   try simp -implicitDefEqProofs (maxSteps := 4000000) (disch := first | omega | decide | (simp only [go_sem]; omega)) only [go_sem, ↓reduceIte]
   repeat (with_reducible refine And.intro (by first | assumption | omega | (simp; done) | (simp; omega)) ?_)
   refine toEnd hC ?_
   refine endX_seq ?_
   rcases iteB_some h with ⟨c4, h⟩ | ⟨c4, h⟩
   ·refine runX_condT rfl c4 ?_
    refine runX_skip ?_
    refine endX_seq ?_
    rcases iteB_some h with ⟨c5, h⟩ | ⟨c5, h⟩
    ·refine runX_condT rfl c5 ?_
     refine runX_seq ?_
     refine runX_regionC fun C hC => ?_
     try simp -implicitDefEqProofs (maxSteps := 4000000) (disch := first | omega | decide | (simp only [go_sem]; omega)) only [go_sem, ↓reduceIte]
     repeat (with_reducible refine And.intro (by first | assumption | omega | (simp; done) | (simp; omega)) ?_)
     refine toEnd hC ?_
     refine endX_seq ?_
     refine runX_ret ?_
     refine endX_blkR ?_
     refine endX_seqR ?_
     refine endX_q ?_
     obtain rfl := Option.some.inj h
     show RetW _ _ _ _ _
     simp only [RetW]
     (try simp -implicitDefEqProofs (maxSteps := 4000000) (disch := first | omega | decide | (simp only [go_sem]; omega)) only [go_sem, ↓reduceIte])
     (try simp (disch := omega) only [if_pos, Nat.sub_zero])
     exact leT_refl _
    ·refine runX_condF rfl c5 ?_
     refine runX_skip ?_
     refine endX_blk ?_
     refine endX_seq ?_
     refine runX_seq ?_
     refine runX_regionC fun C hC => ?_
     obtain ⟨v6, h6, h⟩ := bnd_some h
     try simp -implicitDefEqProofs (maxSteps := 4000000) (disch := first | omega | decide | (simp only [go_sem]; omega)) only [go_sem, ↓reduceIte]
     repeat (with_reducible refine And.intro (by first | assumption | omega | (simp; done) | (simp; omega)) ?_)
     refine callG_X (by first | rfl | (simp only [go_sem]; done) | (simp only [closedL, closedT, Bool.and_true]; exact closedL_map _ (fun _ => by first | rfl | (simp only [go_sem]; done)) _)) (F61_ok n a0 _ h6) (by repeat (first | exact leL_refl _ | refine leL_cons (by first | exact leT_refl _ | exact leT_virt | exact leT_junk _ | exact leT_sl | exact leT_sln | exact leT_nil | (refine leT_agg (by repeat (first | exact leL_refl _ | refine leL_cons (by first | exact leT_refl _ | exact leT_sl | exact leT_sln | exact leT_nil) ?_)))) ?_)) ?_
     try simp -implicitDefEqProofs (maxSteps := 4000000) (disch := first | omega | decide | (simp only [go_sem]; omega)) only [go_sem, ↓reduceIte]
     repeat (with_reducible refine And.intro (by first | assumption | omega | (simp; done) | (simp; omega)) ?_)
     refine toEnd hC ?_
     refine endX_seq ?_
     refine runX_ret ?_
     refine endX_q ?_
     obtain rfl := Option.some.inj h
     show RetW _ _ _ _ _
     simp only [RetW]
     (try simp -implicitDefEqProofs (maxSteps := 4000000) (disch := first | omega | decide | (simp only [go_sem]; omega)) only [go_sem, ↓reduceIte])
     (try simp (disch := omega) only [if_pos, Nat.sub_zero])
     exact leT_refl _
   ·refine runX_condF rfl c4 ?_
    refine runX_seq ?_
    refine runX_regionC fun C hC => ?_
    try simp -implicitDefEqProofs (maxSteps := 4000000) (disch := first | omega | decide | (simp only [go_sem]; omega)) only [go_sem, ↓reduceIte]
    repeat (with_reducible refine And.intro (by first | assumption | omega | (simp; done) | (simp; omega)) ?_)
    refine toEnd hC ?_
    refine endX_seq ?_
    rcases iteB_some h with ⟨c7, h⟩ | ⟨c7, h⟩
    ·refine runX_condT rfl c7 ?_
     refine runX_skip ?_
     refine endX_seq ?_
     rcases iteB_some h with ⟨c8, h⟩ | ⟨c8, h⟩
     ·refine runX_condT rfl c8 ?_
      refine runX_seq ?_
      refine runX_regionC fun C hC => ?_
      try simp -implicitDefEqProofs (maxSteps := 4000000) (disch := first | omega | decide | (simp only [go_sem]; omega)) only [go_sem, ↓reduceIte]
      repeat (with_reducible refine And.intro (by first | assumption | omega | (simp; done) | (simp; omega)) ?_)
      refine toEnd hC ?_
      refine endX_seq ?_
      refine runX_ret ?_
      refine endX_blkR ?_
      refine endX_seqR ?_
      refine endX_q ?_
      obtain rfl := Option.some.inj h
      show RetW _ _ _ _ _
      simp only [RetW]
      (try simp -implicitDefEqProofs (maxSteps := 4000000) (disch := first | omega | decide | (simp only [go_sem]; omega)) only [go_sem, ↓reduceIte])
      (try simp (disch := omega) only [if_pos, Nat.sub_zero])
      exact leT_refl _
     ·refine runX_condF rfl c8 ?_
      refine runX_skip ?_
      refine endX_blk ?_
      refine endX_seq ?_
      refine runX_seq ?_
      refine runX_regionC fun C hC => ?_
      obtain ⟨v9, h9, h⟩ := bnd_some h
      try simp -implicitDefEqProofs (maxSteps := 4000000) (disch := first | omega | decide | (simp only [go_sem]; omega)) only [go_sem, ↓reduceIte]
      repeat (with_reducible refine And.intro (by first | assumption | omega | (simp; done) | (simp; omega)) ?_)
      refine callG_X (by first | rfl | (simp only [go_sem]; done) | (simp only [closedL, closedT, Bool.and_true]; exact closedL_map _ (fun _ => by first | rfl | (simp only [go_sem]; done)) _)) (F61_ok n a0 _ h9) (by repeat (first | exact leL_refl _ | refine leL_cons (by first | exact leT_refl _ | exact leT_virt | exact leT_junk _ | exact leT_sl | exact leT_sln | exact leT_nil | (refine leT_agg (by repeat (first | exact leL_refl _ | refine leL_cons (by first | exact leT_refl _ | exact leT_sl | exact leT_sln | exact leT_nil) ?_)))) ?_)) ?_
      try simp -implicitDefEqProofs (maxSteps := 4000000) (disch := first | omega | decide | (simp only [go_sem]; omega)) only [go_sem, ↓reduceIte]
      repeat (with_reducible refine And.intro (by first | assumption | omega | (simp; done) | (simp; omega)) ?_)
      refine toEnd hC ?_
      refine endX_seq ?_
      refine runX_ret ?_
      refine endX_q ?_
      obtain rfl := Option.some.inj h
      show RetW _ _ _ _ _
      simp only [RetW]
      (try simp -implicitDefEqProofs (maxSteps := 4000000) (disch := first | omega | decide | (simp only [go_sem]; omega)) only [go_sem, ↓reduceIte])
      (try simp (disch := omega) only [if_pos, Nat.sub_zero])
      exact leT_refl _
    ·refine runX_condF rfl c7 ?_
     refine runX_regionC fun C hC => ?_
     try simp -implicitDefEqProofs (maxSteps := 4000000) (disch := first | omega | decide | (simp only [go_sem]; omega)) only [go_sem, ↓reduceIte]
     repeat (with_reducible refine And.intro (by first | assumption | omega | (simp; done) | (simp; omega)) ?_)
     refine toEnd hC ?_
     refine endX_seq ?_
     rcases iteB_some h with ⟨c10, h⟩ | ⟨c10, h⟩
     ·refine runX_condT rfl c10 ?_
      refine runX_seq ?_
      refine runX_regionC fun C hC => ?_
      try simp -implicitDefEqProofs (maxSteps := 4000000) (disch := first | omega | decide | (simp only [go_sem]; omega)) only [go_sem, ↓reduceIte]
      repeat (with_reducible refine And.intro (by first | assumption | omega | (simp; done) | (simp; omega)) ?_)
      refine toEnd hC ?_
      refine endX_seq ?_
      refine runX_ret ?_
      refine endX_blkR ?_
      refine endX_seqR ?_
      refine endX_q ?_
      obtain rfl := Option.some.inj h
      show RetW _ _ _ _ _
      simp only [RetW]
      (try simp -implicitDefEqProofs (maxSteps := 4000000) (disch := first | omega | decide | (simp only [go_sem]; omega)) only [go_sem, ↓reduceIte])
      (try simp (disch := omega) only [if_pos, Nat.sub_zero])
      exact leT_refl _
     ·refine runX_condF rfl c10 ?_
      refine runX_skip ?_
      refine endX_blk ?_
      refine endX_seq ?_
      refine runX_seq ?_
      refine runX_regionC fun C hC => ?_
      obtain ⟨v11, h11, h⟩ := bnd_some h
      try simp -implicitDefEqProofs (maxSteps := 4000000) (disch := first | omega | decide | (simp only [go_sem]; omega)) only [go_sem, ↓reduceIte]
      repeat (with_reducible refine And.intro (by first | assumption | omega | (simp; done) | (simp; omega)) ?_)
      refine callG_X (by first | rfl | (simp only [go_sem]; done) | (simp only [closedL, closedT, Bool.and_true]; exact closedL_map _ (fun _ => by first | rfl | (simp only [go_sem]; done)) _)) (F61_ok n a0 _ h11) (by repeat (first | exact leL_refl _ | refine leL_cons (by first | exact leT_refl _ | exact leT_virt | exact leT_junk _ | exact leT_sl | exact leT_sln | exact leT_nil | (refine leT_agg (by repeat (first | exact leL_refl _ | refine leL_cons (by first | exact leT_refl _ | exact leT_sl | exact leT_sln | exact leT_nil) ?_)))) ?_)) ?_
      try simp -implicitDefEqProofs (maxSteps := 4000000) (disch := first | omega | decide | (simp only [go_sem]; omega)) only [go_sem, ↓reduceIte]
      repeat (with_reducible refine And.intro (by first | assumption | omega | (simp; done) | (simp; omega)) ?_)
      refine toEnd hC ?_
      refine endX_seq ?_
      refine runX_ret ?_
      refine endX_q ?_
      obtain rfl := Option.some.inj h
      show RetW _ _ _ _ _
      simp only [RetW]
      (try simp -implicitDefEqProofs (maxSteps := 4000000) (disch := first | omega | decide | (simp only [go_sem]; omega)) only [go_sem, ↓reduceIte])
      (try simp (disch := omega) only [if_pos, Nat.sub_zero])
      exact leT_refl _
end Go.Proofs.YtdaojihnaajfeaaDoorX

set_option linter.unusedVariables false
set_option linter.unusedSimpArgs false
namespace Go.Proofs.YtdaojihnaajfeaaDoorX
open Go Go.RowKit Go.Proofs
set_option maxRecDepth 100000
attribute [local go_sem ↓] stepsK_build stepsK_bs appendS
attribute [local go_sem] String.reduceEq String.reduceNe reduceCtorEq Int.reduceEq Nat.reduceAdd Nat.reduceSub Nat.reduceMul Nat.reduceLT Nat.reduceLeDiff Nat.reduceEqDiff Nat.reduceBEq Int.reduceToNat Int.reduceLT Int.reduceLE Int.reduceGT Int.reduceGE Int.reduceAdd Int.reduceSub Int.reduceMul Int.reduceNeg Int.reduceBEq Int.reduceBNe Int.reducePow Int.reduceDiv Int.reduceMod Int.reduceTDiv Int.reduceTMod Int.reduceNatCast
/-! ### percent.Encode$1 -/
def F37 (n : Nat) (a0 : Int) (a1 : Bool) : Option ((Bool) × (Bool)) := (F38 n a0).bind fun v1 => iteB v1 (some (true, a1)) (iteB a1 (some ((a0 == (47 : Int)), a1)) (some (false, a1)))
set_option maxHeartbeats 4000000 in
theorem F37_ok : ∀ (n : Nat) (a0 : Int) (a1 : Bool) (r : (Bool) × (Bool)), F37 n a0 a1 = some r → FnR Tryd.prog 37 [some (.box 4294967300 (.imm (.bool a1)) false)] [.imm (.int .u8 a0), .ref 0 0 0 0] (.imm (.bool r.1)) [some (.box 4294967300 (.imm (.bool r.2)) false)]
 | n, a0, a1, r, h => by
  unfold F37 at h
  refine FnR.goX mixed [3] Tryd.func37 (by kernel_rfl) rfl (by simp [rowsOk, refsC, refsCL, adT_refsC, tagM]) (by simp [sameO]) (by simp [refsC, refsCL]) ?_
  simp only [Tryd.ntmps37, List.length_cons, List.length_nil, List.replicate, List.cons_append, List.nil_append, Nat.reduceAdd, Nat.reduceSub]
  refine runX_seq ?_
  refine runX_regionC fun C hC => ?_
  try simp -implicitDefEqProofs (maxSteps := 4000000) (disch := first | omega | decide | (simp only [go_sem]; omega)) only [go_sem, ↓reduceIte]
  repeat (with_reducible refine And.intro (by first | assumption | omega | (simp; done) | (simp; omega)) ?_)
  refine toEnd hC ?_
  refine endX_seq ?_
  refine runX_seq ?_
  refine runX_regionC fun C hC => ?_
  obtain ⟨v1, h1, h⟩ := bnd_some h
  try simp -implicitDefEqProofs (maxSteps := 4000000) (disch := first | omega | decide | (simp only [go_sem]; omega)) only [go_sem, ↓reduceIte]
  repeat (with_reducible refine And.intro (by first | assumption | omega | (simp; done) | (simp; omega)) ?_)
  refine callG_X (by first | rfl | (simp only [go_sem]; done) | (simp only [closedL, closedT, Bool.and_true]; exact closedL_map _ (fun _ => by first | rfl | (simp only [go_sem]; done)) _)) (F38_ok n a0 _ h1) (by repeat (first | exact leL_refl _ | refine leL_cons (by first | exact leT_refl _ | exact leT_virt | exact leT_junk _ | exact leT_sl | exact leT_sln | exact leT_nil | (refine leT_agg (by repeat (first | exact leL_refl _ | refine leL_cons (by first | exact leT_refl _ | exact leT_sl | exact leT_sln | exact leT_nil) ?_)))) ?_)) ?_
  try simp -implicitDefEqProofs (maxSteps := 4000000) (disch := first | omega | decide | (simp only [go_sem]; omega)) only [go_sem, ↓reduceIte]
  repeat (with_reducible refine And.intro (by first | assumption | omega | (simp; done) | (simp; omega)) ?_)
  rcases iteB_some h with ⟨c2, h⟩ | ⟨c2, h⟩
  ·refine guardK_F c2 ?_
   try simp -implicitDefEqProofs (maxSteps := 4000000) (disch := first | omega | decide | (simp only [go_sem]; omega)) only [go_sem, ↓reduceIte]
   repeat (with_reducible refine And.intro (by first | assumption | omega | (simp; done) | (simp; omega)) ?_)
   refine toEnd hC ?_
   refine endX_seq ?_
   refine runX_ret ?_
   refine endX_q ?_
   obtain rfl := Option.some.inj h
   show RetR _ _ _ _ _ _ _ _
   simp only [RetR]
   (try simp -implicitDefEqProofs (maxSteps := 4000000) (disch := first | omega | decide | (simp only [go_sem]; omega)) only [go_sem, ↓reduceIte])
   exact ⟨leOs_refl _, leT_refl _⟩
  ·refine guardK_T c2 ?_
   try simp -implicitDefEqProofs (maxSteps := 4000000) (disch := first | omega | decide | (simp only [go_sem]; omega)) only [go_sem, ↓reduceIte]
   repeat (with_reducible refine And.intro (by first | assumption | omega | (simp; done) | (simp; omega)) ?_)
   rcases iteB_some h with ⟨c3, h⟩ | ⟨c3, h⟩
   ·refine guardK_T c3 ?_
    try simp -implicitDefEqProofs (maxSteps := 4000000) (disch := first | omega | decide | (simp only [go_sem]; omega)) only [go_sem, ↓reduceIte]
    repeat (with_reducible refine And.intro (by first | assumption | omega | (simp; done) | (simp; omega)) ?_)
    refine toEnd hC ?_
    refine endX_seq ?_
    refine runX_ret ?_
    refine endX_q ?_
    obtain rfl := Option.some.inj h
    show RetR _ _ _ _ _ _ _ _
    simp only [RetR]
    (try simp -implicitDefEqProofs (maxSteps := 4000000) (disch := first | omega | decide | (simp only [go_sem]; omega)) only [go_sem, ↓reduceIte])
    exact ⟨leOs_refl _, leT_refl _⟩
   ·refine guardK_F c3 ?_
    try simp -implicitDefEqProofs (maxSteps := 4000000) (disch := first | omega | decide | (simp only [go_sem]; omega)) only [go_sem, ↓reduceIte]
    repeat (with_reducible refine And.intro (by first | assumption | omega | (simp; done) | (simp; omega)) ?_)
    refine toEnd hC ?_
    refine endX_seq ?_
    refine runX_ret ?_
    refine endX_q ?_
    obtain rfl := Option.some.inj h
    show RetR _ _ _ _ _ _ _ _
    simp only [RetR]
    (try simp -implicitDefEqProofs (maxSteps := 4000000) (disch := first | omega | decide | (simp only [go_sem]; omega)) only [go_sem, ↓reduceIte])
    exact ⟨leOs_refl _, leT_refl _⟩
end Go.Proofs.YtdaojihnaajfeaaDoorX

set_option linter.unusedVariables false
set_option linter.unusedSimpArgs false
namespace Go.Proofs.YtdaojihnaajfeaaDoorX
open Go Go.RowKit Go.Proofs
set_option maxRecDepth 100000
attribute [local go_sem ↓] stepsK_build stepsK_bs appendS
attribute [local go_sem] String.reduceEq String.reduceNe reduceCtorEq Int.reduceEq Nat.reduceAdd Nat.reduceSub Nat.reduceMul Nat.reduceLT Nat.reduceLeDiff Nat.reduceEqDiff Nat.reduceBEq Int.reduceToNat Int.reduceLT Int.reduceLE Int.reduceGT Int.reduceGE Int.reduceAdd Int.reduceSub Int.reduceMul Int.reduceNeg Int.reduceBEq Int.reduceBNe Int.reducePow Int.reduceDiv Int.reduceMod Int.reduceTDiv Int.reduceTMod Int.reduceNatCast
/-! ### percent.Encode -/
def F17_S1 (a0 : List UInt8) (x2 : Int) (x3 : Bool) (x4 : List (Int)) : St := ⟨[.imm (.string (bs a0)), .junk, .junk, .junk, .junk, .fn 37 [.ref 0 0 0 0], .rsl 1 1 0 x4.length, .junk, .junk, .junk, .junk, .junk, .junk, .junk, .imm (.int .i64 (a0.length : Int)), .imm (.int .i64 x2), .junk, .junk, .junk, .junk, .junk, .junk, .junk, .junk, .junk, .junk, .junk, .junk, .junk, .junk, .junk, .junk, .junk, .junk, .junk, .junk, .junk, .junk, .junk, .junk], [some (.box 4 (.imm (.bool x3)) false), some (.buf 5 1 (List.map byteT x4) 0)]⟩
def F17_L1 : Nat → (List UInt8) → (Int) → (Bool) → (List (Int)) → Option (List UInt8)
 | 0, _, _, _, _ => none
 | m1 + 1, a0, x2, x3, x4 => iteB (decide (x2 < (a0.length : Int))) (grd (0 ≤ x2 ∧ x2 < (a0.length : Int)) ((F37 m1 ((a0.getD x2.toNat 0).toNat : Int) x3).bind fun v7 => iteB v7.1 (grd ((x4.length + 1) ≤ 549755813888) (F17_L1 m1 a0 (IntKind.wrap .i64 (x2 + (1 : Int))) v7.2 (x4 ++ [((a0.getD x2.toNat 0).toNat : Int)]))) (grd (0 ≤ (bShr .u8 ((a0.getD x2.toNat 0).toNat : Int) 4) ∧ (bShr .u8 ((a0.getD x2.toNat 0).toNat : Int) 4) < (16 : Int)) (grd (0 ≤ (IntKind.wrap .u8 (bAnd .u8 ((a0.getD x2.toNat 0).toNat : Int) (15 : Int))) ∧ (IntKind.wrap .u8 (bAnd .u8 ((a0.getD x2.toNat 0).toNat : Int) (15 : Int))) < (16 : Int)) (grd ((x4.length + 3) ≤ 549755813888) (F17_L1 m1 a0 (IntKind.wrap .i64 (x2 + (1 : Int))) v7.2 (x4 ++ ([(37 : Int), ((([48, 49, 50, 51, 52, 53, 54, 55, 56, 57, 65, 66, 67, 68, 69, 70] : List UInt8).getD (bShr .u8 ((a0.getD x2.toNat 0).toNat : Int) 4).toNat 0).toNat : Int), ((([48, 49, 50, 51, 52, 53, 54, 55, 56, 57, 65, 66, 67, 68, 69, 70] : List UInt8).getD (IntKind.wrap .u8 (bAnd .u8 ((a0.getD x2.toNat 0).toNat : Int) (15 : Int))).toNat 0).toNat : Int)])))))))) (some (x4.map toB))
def F17 (n : Nat) (a0 : List UInt8) (a1 : Bool) : Option (List UInt8) := grd ((0 : Int) ≤ (a0.length : Int) ∧ (a0.length : Int) ≤ 1099511627776) (F17_L1 n a0 (0 : Int) a1 [])
set_option maxHeartbeats 4000000 in
theorem F17_ok : ∀ (n : Nat) (a0 : List UInt8) (a1 : Bool) (r : List UInt8), F17 n a0 a1 = some r → FnC Tryd.prog 17 [.imm (.string (bs a0)), .imm (.bool a1)] (.imm (.string (bs r)))
 | n, a0, a1, r, h => by
  unfold F17 at h
  refine FnC.goX mixed Tryd.func17 (by kernel_rfl) rfl ?_
  simp only [Tryd.ntmps17, List.length_cons, List.length_nil, List.replicate, List.cons_append, List.nil_append, Nat.reduceAdd, Nat.reduceSub]
  refine runX_seq ?_
  refine runX_regionC fun C hC => ?_
  try simp -implicitDefEqProofs (maxSteps := 4000000) (disch := first | omega | decide | (simp only [go_sem]; omega)) only [go_sem, ↓reduceIte]
  repeat (with_reducible refine And.intro (by first | assumption | omega | (simp; done) | (simp; omega)) ?_)
  refine toEnd hC ?_
  refine endX_seq ?_
  refine runX_seq ?_
  refine runX_regionC fun C hC => ?_
  try simp -implicitDefEqProofs (maxSteps := 4000000) (disch := first | omega | decide | (simp only [go_sem]; omega)) only [go_sem, ↓reduceIte]
  repeat (with_reducible refine And.intro (by first | assumption | omega | (simp; done) | (simp; omega)) ?_)
  refine toEnd hC ?_
  refine endX_seq ?_
  refine runX_seq ?_
  refine runX_regionC fun C hC => ?_
  obtain ⟨g1, h⟩ := grd_some h
  try simp -implicitDefEqProofs (maxSteps := 4000000) (disch := first | omega | decide | (simp only [go_sem]; omega)) only [go_sem, ↓reduceIte]
  repeat (with_reducible refine And.intro (by first | assumption | omega | (simp; done) | (simp; omega)) ?_)
  refine toEnd hC ?_
  refine endX_seq ?_
  refine runX_seq ?_
  refine runX_seq ?_
  refine runX_regionC fun C hC => ?_
  try simp -implicitDefEqProofs (maxSteps := 4000000) (disch := first | omega | decide | (simp only [go_sem]; omega)) only [go_sem, ↓reduceIte]
  repeat (with_reducible refine And.intro (by first | assumption | omega | (simp; done) | (simp; omega)) ?_)
  refine toEnd hC ?_
  refine endX_seq ?_
  refine runX_block ?_
  refine runX_loop [0, 5, 6, 14, 15] (fun m S => ∃ (x2 : Int) (x3 : Bool) (x4 : List (Int)), S = F17_S1 a0 x2 x3 x4 ∧ m ≤ n ∧ F17_L1 m a0 x2 x3 x4 = some r) n ⟨F17_S1 a0 (0 : Int) a1 [], ?_, (0 : Int), a1, [], rfl, Nat.le_refl _, h⟩ ?_
  ·simp only [F17_S1]
   (try simp -implicitDefEqProofs (maxSteps := 4000000) (disch := first | omega | decide | (simp only [go_sem]; omega)) only [go_sem, ↓reduceIte])
   first | exact leS_refl _ | (refine leS_le ?_ ?_ <;> first | exact leL_refl _ | exact leOs_refl _ | (simp only [List.append_assoc, List.cons_append, List.nil_append]; exact leOs_refl _) | (refine leOs.cons (by first | exact leO.same _ | (refine leO.box (leT_agg (by repeat (first | exact leL_refl _ | refine leL_cons (by first | exact leT_refl _ | exact leT_virt | exact leT_junk _ | exact leT_sl | exact leT_sln | exact leT_nil | (refine leT_agg (by repeat (first | exact leL_refl _ | refine leL_cons (by first | exact leT_refl _ | exact leT_sl | exact leT_sln | exact leT_nil) ?_)))) ?_))) rfl) | (refine leO.box (by first | exact leT_virt | exact leT_sl | exact leT_sln) rfl)) ?_; repeat (first | exact leOs_refl _ | refine leOs.cons (by first | exact leO.same _ | (refine leO.box (leT_agg (by repeat (first | exact leL_refl _ | refine leL_cons (by first | exact leT_refl _ | exact leT_virt | exact leT_junk _ | exact leT_sl | exact leT_sln | exact leT_nil | (refine leT_agg (by repeat (first | exact leL_refl _ | refine leL_cons (by first | exact leT_refl _ | exact leT_sl | exact leT_sln | exact leT_nil) ?_)))) ?_))) rfl) | (refine leO.box (by first | exact leT_virt | exact leT_sl | exact leT_sln) rfl)) ?_)) | (repeat (first | exact leL_refl _ | refine leL_cons (by first | exact leT_refl _ | exact leT_virt | exact leT_junk _ | exact leT_sl | exact leT_sln | exact leT_nil | (refine leT_agg (by repeat (first | exact leL_refl _ | refine leL_cons (by first | exact leT_refl _ | exact leT_sl | exact leT_sln | exact leT_nil) ?_)))) ?_)))
  ·clear h
   rintro m1 S ⟨x2, x3, x4, rfl, hm1, h⟩
   cases m1 with
   | zero => first | cases (show (none : Option _) = some _ from h) | (rw [F17_L1] at h; cases h)
   | succ m1 =>
    rw [F17_L1] at h
    simp only [F17_S1]
    refine runX_seq ?_
    refine runX_regionC fun C hC => ?_
    try simp -implicitDefEqProofs (maxSteps := 4000000) (disch := first | omega | decide | (simp only [go_sem]; omega)) only [go_sem, ↓reduceIte]
    repeat (with_reducible refine And.intro (by first | assumption | omega | (simp; done) | (simp; omega)) ?_)
    refine toEnd hC ?_
    refine endX_seq ?_
    refine runX_seq ?_
    rcases iteB_some h with ⟨c5, h⟩ | ⟨c5, h⟩
    ·refine runX_condT rfl c5 ?_
     refine runX_skip ?_
     refine endX_seq ?_
     refine runX_seq ?_
     refine runX_block ?_
     refine runX_seq ?_
     refine runX_regionC fun C hC => ?_
     try simp -implicitDefEqProofs (maxSteps := 4000000) (disch := first | omega | decide | (simp only [go_sem]; omega)) only [go_sem, ↓reduceIte]
     repeat (with_reducible refine And.intro (by first | assumption | omega | (simp; done) | (simp; omega)) ?_)
     refine toEnd hC ?_
     refine endX_seq ?_
     refine runX_seq ?_
     refine runX_regionC fun C hC => ?_
     obtain ⟨g6, h⟩ := grd_some h
     try simp -implicitDefEqProofs (maxSteps := 4000000) (disch := first | omega | decide | (simp only [go_sem]; omega)) only [go_sem, ↓reduceIte]
     repeat (with_reducible refine And.intro (by first | assumption | omega | (simp; done) | (simp; omega)) ?_)
     refine toEnd hC ?_
     refine endX_seq ?_
     refine runX_seq ?_
     refine runX_regionC fun C hC => ?_
     obtain ⟨v7, h7, h⟩ := bnd_some h
     try simp -implicitDefEqProofs (maxSteps := 4000000) (disch := first | omega | decide | (simp only [go_sem]; omega)) only [go_sem, ↓reduceIte]
     repeat (with_reducible refine And.intro (by first | assumption | omega | (simp; done) | (simp; omega)) ?_)
     refine callR_X [0] (F37_ok m1 ((a0.getD x2.toNat 0).toNat : Int) x3 _ h7) (by decide) (by (try simp -implicitDefEqProofs (maxSteps := 4000000) (disch := first | omega | decide | (simp only [go_sem]; omega)) only [go_sem, ↓reduceIte]); repeat (first | exact trivial | refine And.intro ?_ ?_ | exact fun _ => trivial | exact fun _ _ => trivial | exact fun _ _ h => h | rfl | decide)) (by (try simp -implicitDefEqProofs (maxSteps := 4000000) (disch := first | omega | decide | (simp only [go_sem]; omega)) only [go_sem, ↓reduceIte]); repeat (first | exact leL_refl _ | refine leL_cons (by first | exact leT_refl _ | exact leT_virt | exact leT_junk _ | exact leT_sl | exact leT_sln | exact leT_nil | (refine leT_agg (by repeat (first | exact leL_refl _ | refine leL_cons (by first | exact leT_refl _ | exact leT_sl | exact leT_sln | exact leT_nil) ?_)))) ?_)) ?_
     try simp -implicitDefEqProofs (maxSteps := 4000000) (disch := first | omega | decide | (simp only [go_sem]; omega)) only [go_sem, ↓reduceIte]
     repeat (with_reducible refine And.intro (by first | assumption | omega | (simp; done) | (simp; omega)) ?_)
     refine toEnd hC ?_
     refine endX_seq ?_
     rcases iteB_some h with ⟨c8, h⟩ | ⟨c8, h⟩
     ·refine runX_condT rfl c8 ?_
      refine runX_regionC fun C hC => ?_
      try simp -implicitDefEqProofs (maxSteps := 4000000) (disch := first | omega | decide | (simp only [go_sem]; omega)) only [go_sem, ↓reduceIte]
      repeat (with_reducible refine And.intro (by first | assumption | omega | (simp; done) | (simp; omega)) ?_)
      refine bs_go <| buildX_val ?_
      obtain ⟨g9, h⟩ := grd_some h
      try simp -implicitDefEqProofs (maxSteps := 4000000) (disch := first | omega | decide | (simp only [go_sem]; omega)) only [go_sem, ↓reduceIte]
      repeat (with_reducible refine And.intro (by first | assumption | omega | (simp; done) | (simp; omega)) ?_)
      refine toEnd hC ?_
      refine endX_blk ?_
      refine endX_seq ?_
      refine runX_regionC fun C hC => ?_
      try simp -implicitDefEqProofs (maxSteps := 4000000) (disch := first | omega | decide | (simp only [go_sem]; omega)) only [go_sem, ↓reduceIte]
      repeat (with_reducible refine And.intro (by first | assumption | omega | (simp; done) | (simp; omega)) ?_)
      refine toEnd hC ?_
      refine endX_q (roundQ_normal ⟨m1, by omega, F17_S1 a0 (IntKind.wrap .i64 (x2 + (1 : Int))) v7.2 (x4 ++ [((a0.getD x2.toNat 0).toNat : Int)]), ?_, (IntKind.wrap .i64 (x2 + (1 : Int))), v7.2, (x4 ++ [((a0.getD x2.toNat 0).toNat : Int)]), rfl, by omega, h⟩)
      simp only [F17_S1]
      (try simp -implicitDefEqProofs (maxSteps := 4000000) (disch := first | omega | decide | (simp only [go_sem]; omega)) only [go_sem, ↓reduceIte])
      first | exact leS_refl _ | (refine leS_le ?_ ?_ <;> first | exact leL_refl _ | exact leOs_refl _ | (simp only [List.append_assoc, List.cons_append, List.nil_append]; exact leOs_refl _) | (refine leOs.cons (by first | exact leO.same _ | (refine leO.box (leT_agg (by repeat (first | exact leL_refl _ | refine leL_cons (by first | exact leT_refl _ | exact leT_virt | exact leT_junk _ | exact leT_sl | exact leT_sln | exact leT_nil | (refine leT_agg (by repeat (first | exact leL_refl _ | refine leL_cons (by first | exact leT_refl _ | exact leT_sl | exact leT_sln | exact leT_nil) ?_)))) ?_))) rfl) | (refine leO.box (by first | exact leT_virt | exact leT_sl | exact leT_sln) rfl)) ?_; repeat (first | exact leOs_refl _ | refine leOs.cons (by first | exact leO.same _ | (refine leO.box (leT_agg (by repeat (first | exact leL_refl _ | refine leL_cons (by first | exact leT_refl _ | exact leT_virt | exact leT_junk _ | exact leT_sl | exact leT_sln | exact leT_nil | (refine leT_agg (by repeat (first | exact leL_refl _ | refine leL_cons (by first | exact leT_refl _ | exact leT_sl | exact leT_sln | exact leT_nil) ?_)))) ?_))) rfl) | (refine leO.box (by first | exact leT_virt | exact leT_sl | exact leT_sln) rfl)) ?_)) | (repeat (first | exact leL_refl _ | refine leL_cons (by first | exact leT_refl _ | exact leT_virt | exact leT_junk _ | exact leT_sl | exact leT_sln | exact leT_nil | (refine leT_agg (by repeat (first | exact leL_refl _ | refine leL_cons (by first | exact leT_refl _ | exact leT_sl | exact leT_sln | exact leT_nil) ?_)))) ?_)))
     ·refine runX_condF rfl c8 ?_
      refine runX_drawC mixed (by kernel_rfl) fun C hC => ?_
      obtain ⟨g10, h⟩ := grd_some h
      obtain ⟨g11, h⟩ := grd_some h
      try simp -implicitDefEqProofs (maxSteps := 4000000) (disch := first | omega | decide | (simp only [go_sem]; omega)) only [go_sem, ↓reduceIte]
      repeat (with_reducible refine And.intro (by first | assumption | omega | (simp; done) | (simp; omega)) ?_)
      refine buildX_val ?_
      obtain ⟨g12, h⟩ := grd_some h
      try simp -implicitDefEqProofs (maxSteps := 4000000) (disch := first | omega | decide | (simp only [go_sem]; omega)) only [go_sem, ↓reduceIte]
      repeat (with_reducible refine And.intro (by first | assumption | omega | (simp; done) | (simp; omega)) ?_)
      refine toEnd hC ?_
      refine endX_blk ?_
      refine endX_seq ?_
      refine runX_regionC fun C hC => ?_
      try simp -implicitDefEqProofs (maxSteps := 4000000) (disch := first | omega | decide | (simp only [go_sem]; omega)) only [go_sem, ↓reduceIte]
      repeat (with_reducible refine And.intro (by first | assumption | omega | (simp; done) | (simp; omega)) ?_)
      refine toEnd hC ?_
      refine endX_q (roundQ_normal ⟨m1, by omega, F17_S1 a0 (IntKind.wrap .i64 (x2 + (1 : Int))) v7.2 (x4 ++ ([(37 : Int), ((([48, 49, 50, 51, 52, 53, 54, 55, 56, 57, 65, 66, 67, 68, 69, 70] : List UInt8).getD (bShr .u8 ((a0.getD x2.toNat 0).toNat : Int) 4).toNat 0).toNat : Int), ((([48, 49, 50, 51, 52, 53, 54, 55, 56, 57, 65, 66, 67, 68, 69, 70] : List UInt8).getD (IntKind.wrap .u8 (bAnd .u8 ((a0.getD x2.toNat 0).toNat : Int) (15 : Int))).toNat 0).toNat : Int)])), ?_, (IntKind.wrap .i64 (x2 + (1 : Int))), v7.2, (x4 ++ ([(37 : Int), ((([48, 49, 50, 51, 52, 53, 54, 55, 56, 57, 65, 66, 67, 68, 69, 70] : List UInt8).getD (bShr .u8 ((a0.getD x2.toNat 0).toNat : Int) 4).toNat 0).toNat : Int), ((([48, 49, 50, 51, 52, 53, 54, 55, 56, 57, 65, 66, 67, 68, 69, 70] : List UInt8).getD (IntKind.wrap .u8 (bAnd .u8 ((a0.getD x2.toNat 0).toNat : Int) (15 : Int))).toNat 0).toNat : Int)])), rfl, by omega, h⟩)
      simp only [F17_S1]
      (try simp -implicitDefEqProofs (maxSteps := 4000000) (disch := first | omega | decide | (simp only [go_sem]; omega)) only [go_sem, ↓reduceIte])
      first | exact leS_refl _ | (refine leS_le ?_ ?_ <;> first | exact leL_refl _ | exact leOs_refl _ | (simp only [List.append_assoc, List.cons_append, List.nil_append]; exact leOs_refl _) | (refine leOs.cons (by first | exact leO.same _ | (refine leO.box (leT_agg (by repeat (first | exact leL_refl _ | refine leL_cons (by first | exact leT_refl _ | exact leT_virt | exact leT_junk _ | exact leT_sl | exact leT_sln | exact leT_nil | (refine leT_agg (by repeat (first | exact leL_refl _ | refine leL_cons (by first | exact leT_refl _ | exact leT_sl | exact leT_sln | exact leT_nil) ?_)))) ?_))) rfl) | (refine leO.box (by first | exact leT_virt | exact leT_sl | exact leT_sln) rfl)) ?_; repeat (first | exact leOs_refl _ | refine leOs.cons (by first | exact leO.same _ | (refine leO.box (leT_agg (by repeat (first | exact leL_refl _ | refine leL_cons (by first | exact leT_refl _ | exact leT_virt | exact leT_junk _ | exact leT_sl | exact leT_sln | exact leT_nil | (refine leT_agg (by repeat (first | exact leL_refl _ | refine leL_cons (by first | exact leT_refl _ | exact leT_sl | exact leT_sln | exact leT_nil) ?_)))) ?_))) rfl) | (refine leO.box (by first | exact leT_virt | exact leT_sl | exact leT_sln) rfl)) ?_)) | (repeat (first | exact leL_refl _ | refine leL_cons (by first | exact leT_refl _ | exact leT_virt | exact leT_junk _ | exact leT_sl | exact leT_sln | exact leT_nil | (refine leT_agg (by repeat (first | exact leL_refl _ | refine leL_cons (by first | exact leT_refl _ | exact leT_sl | exact leT_sln | exact leT_nil) ?_)))) ?_)))
    ·refine runX_condF rfl c5 ?_
     refine runX_exit ?_
     refine endX_seqE ?_
     refine endX_q (roundQ_exit ?_)
     refine endX_blkE ?_
     refine endX_seq ?_
     refine runX_seq ?_
     refine runX_regionC fun C hC => ?_
     try simp -implicitDefEqProofs (maxSteps := 4000000) (disch := first | omega | decide | (simp only [go_sem]; omega)) only [go_sem, ↓reduceIte]
     repeat (with_reducible refine And.intro (by first | assumption | omega | (simp; done) | (simp; omega)) ?_)
     refine toEnd hC ?_
     refine endX_seq ?_
     refine runX_ret ?_
     refine endX_q ?_
     obtain rfl := Option.some.inj h
     show RetW _ _ _ _ _
     simp only [RetW]
     (try simp -implicitDefEqProofs (maxSteps := 4000000) (disch := first | omega | decide | (simp only [go_sem]; omega)) only [go_sem, ↓reduceIte])
     (try simp (disch := omega) only [if_pos, Nat.sub_zero])
     exact leT_refl _
end Go.Proofs.YtdaojihnaajfeaaDoorX

/- A row of the caller's that is sorted. Of no program. -/
set_option linter.unusedVariables false
set_option linter.unusedSimpArgs false
namespace Go.Proofs.YtdaojihnaajfeaaDoorX
open Go Go.RowKit Go.Sort Go.Lib
theorem flat_get {α : Type} [Inhabited α] (enc : α → List Value) (k : Nat) (hk : ∀ x, (enc x).length = k) (h0 : 0 < k) : ∀ (l : List α) (j : Nat), j < l.length * k → (l.flatMap enc)[j]? = some ((enc (l.toArray[j / k]!))[j % k]!)
  | [], j, h => by simp at h
  | x :: l, j, h => by
    rw [List.flatMap_cons]
    by_cases hj : j < k
    · rw [List.getElem?_append_left (by rw [hk]; exact hj), Nat.div_eq_of_lt hj, Nat.mod_eq_of_lt hj]
      have hx : (x :: l).toArray[0]! = x := by simp
      rw [hx, List.getElem?_eq_getElem (by rw [hk]; exact hj), getElem!_pos _ _ (by rw [hk]; exact hj)]
    · have ih := flat_get enc k hk h0 l (j - k) (by rw [List.length_cons, Nat.add_mul, Nat.one_mul] at h; omega)
      rw [List.getElem?_append_right (by rw [hk]; omega), hk, ih]
      have hd : j / k = (j - k) / k + 1 := by
        conv => lhs; rw [show j = (j - k) + k by omega]
        rw [Nat.add_div_right _ h0]
      have hm : j % k = (j - k) % k := by
        conv => lhs; rw [show j = (j - k) + k by omega]
        rw [Nat.add_mod_right]
      rw [hd, hm]
      have : (x :: l).toArray[(j - k) / k + 1]! = l.toArray[(j - k) / k]! := by simp
      rw [this]
theorem flat_len {α : Type} (enc : α → List Value) (k : Nat) (hk : ∀ x, (enc x).length = k) : ∀ l : List α, (l.flatMap enc).length = l.length * k
  | [] => by simp
  | x :: l => by rw [List.flatMap_cons, List.length_append, hk, flat_len enc k hk l, List.length_cons, Nat.add_mul, Nat.one_mul]; omega
theorem put_flat {α : Type} [Inhabited α] (enc : α → List Value) (k : Nat) (hk : ∀ x, (enc x).length = k) (h0 : 0 < k) (d : List α) (c : Array Value) (c1 c2 : List Value) (hc : c.toList = c1 ++ c2) (h1 : c1.length = d.length * k) :
    (putCells id 0 (flatK enc k d.toArray) c).toList = d.flatMap enc ++ c2 := by
  have hsz : c.size = c1.length + c2.length := by rw [← Array.length_toList, hc, List.length_append]
  refine List.ext_getElem? fun j => ?_
  have hfl := flat_len enc k hk d
  have hfs : (flatK enc k d.toArray).size = d.length * k := by rw [size_flatK]; simp
  have hl : (putCells id 0 (flatK enc k d.toArray) c).toList[j]? = (c[j]?).map fun x => if 0 ≤ j ∧ j < 0 + (flatK enc k d.toArray).size then id (flatK enc k d.toArray)[j - 0]! else x := by
    unfold putCells
    rw [Array.getElem?_toList, Array.getElem?_mapIdx]
  rw [hl]
  have hcj : c[j]? = (c1 ++ c2)[j]? := by rw [← hc, Array.getElem?_toList]
  rw [hcj]
  by_cases hj : j < d.length * k
  · rw [List.getElem?_append_left (by omega), List.getElem?_append_left (by omega), flat_get enc k hk h0 d j hj, List.getElem?_eq_getElem (by omega)]
    rw [Option.map_some, if_pos ⟨Nat.zero_le _, by omega⟩, Nat.sub_zero, get_flatK _ _ _ _ (by simpa using hj)]
    rfl
  · rw [List.getElem?_append_right (by omega), List.getElem?_append_right (by omega), hfl, h1]
    have : (fun x : Value => if 0 ≤ j ∧ j < 0 + (flatK enc k d.toArray).size then id (flatK enc k d.toArray)[j - 0]! else x) = id := by
      funext x; rw [if_neg (by omega)]; rfl
    rw [this, Option.map_id]; rfl
theorem sortW {α : Type} [Inhabited α] (enc : α → List Value) (k : Nat) (w : World) (b n : Nat) (d : Array α) (os : Array Obj) {c : Array Value} {t : TypeId} {fr : Nat × Nat} (hb : w.heap[b]? = some (Go.Obj.cells c t fr)) :
    let w' := sortWorldK enc k w b 0 n d os
    w'.os = w.os ∧ w'.tape = w.tape ∧ w'.output = w.output ∧ w.heap.size ≤ w'.heap.size ∧ (∀ j, j < w.heap.size → j ≠ b → w'.heap[j]? = w.heap[j]?) ∧ w'.heap[b]? = some (Go.Obj.cells (putCells id 0 (flatK enc k d) c) t fr) := by
  have hlt : b < w.heap.size := (Array.getElem?_eq_some_iff.1 hb).1
  have hh : (sortWorldK enc k w b 0 n d os).heap = (w.heap.modify b (onCells (putCells id 0 (flatK enc k d)))) ++ os := rfl
  refine ⟨rfl, rfl, rfl, by rw [hh]; simp, fun j hj hne => ?_, ?_⟩
  · rw [hh, Array.getElem?_append_left (by simpa using hj), Array.getElem?_modify, if_neg (fun e => hne e.symm)]
  · rw [hh, Array.getElem?_append_left (by simpa using hlt), Array.getElem?_modify, if_pos rfl, hb]; rfl
theorem FnI.sorted {P : Program} {f g : FuncId} {t : TypeId} {α : Type} [Inhabited α] (enc : α → List Value) (k : Nat) (hk : ∀ x, (enc x).length = k) (h0 : 0 < k) (toT : α → T) (hR : ∀ (E : Env) (l : List α) (c : List Value), RepR E k (List.map toT l) c ↔ c = l.flatMap enc) (le : α → α → Bool) (hf : enters P f)
    (hN : ∀ p cap fv w, Calls P f #[.slice p 0 cap, fv] w fun e w' => e = .returned (.tuple #[]) ∧ w' = w)
    (hS : ∀ (blk cap : Nat) (d : Array α) (w : World), HoldsK enc k w blk 0 d → blk < w.heap.size → d.size ≤ 1000000000 → Calls P f #[.slice (some ⟨blk, 0, none⟩) d.size cap, .func (.func g) #[] #[]] w fun e w' => e = .returned (.tuple #[]) ∧ ∃ n os, w' = sortWorldK enc k w blk 0 n (d.toList.mergeSort le).toArray os)
    (l : List α) (hl : l.length ≤ 1000000000) : FnI P f t k (List.map toT l) (List.map toT (l.mergeSort le)) [.fn g []] := by
  have more : ∀ (E : Env) (vs : List Value), RepL E false [.fn g []] vs → vs = [.func (.func g) #[] #[]] := by
    intro E vs h
    simp only [RepL, Rep] at h
    obtain ⟨v, vs', rfl, ⟨cs, rfl, hcs⟩, rfl⟩ := h
    have e4 : cs = #[] := by cases cs; simpa using hcs
    rw [e4]
  refine ⟨hf, fun hnil => ?_, fun hne E b cap c fr c1 c2 vs hvs hheap hunf hc hRR hcap => ?_⟩
  · have hl : l = [] := by cases l with
      | nil => rfl
      | cons a l => cases hnil
    subst hl
    have hm : ([] : List α).mergeSort le = [] := by simp
    rw [hm]
    refine ⟨rfl, fun E p cap vs hvs => ?_⟩
    rw [more E vs hvs]
    exact hN p cap _ E.w
  · rw [more E vs hvs]
    have hcc := (hR _ l c1).1 hRR
    have hc1 : c1.length = l.length * k := by rw [hcc, flat_len enc k hk]
    have hlt : b < E.w.heap.size := (Array.getElem?_eq_some_iff.1 hheap).1
    have hcs : c.size = c1.length + c2.length := by rw [← Array.length_toList, hc, List.length_append]
    have hH : HoldsK enc k E.w b 0 l.toArray := by
      intro j hj
      have hj : j < l.length * k := by simpa using hj
      rw [Nat.zero_add]
      constructor
      · have hg := flat_get enc k hk h0 l j hj
        rw [get_flatK _ _ _ _ (by simpa using hj)]
        unfold World.cell?
        dsimp only
        rw [hheap]
        show c[j]? = _
        rw [← Array.getElem?_toList, hc, List.getElem?_append_left (by omega), hcc, hg]; rfl
      · unfold World.frozen?
        dsimp only
        rw [hheap]
        have := hunf.out (j := j) (by omega)
        obtain ⟨lo, hi⟩ := fr
        show (decide (lo ≤ j) && decide (j < hi)) = false
        rw [Bool.and_eq_false_iff, decide_eq_false_iff_not, decide_eq_false_iff_not]
        dsimp only at this
        omega
    have hcall := hS b cap l.toArray E.w hH hlt (by simpa using hl)
    have hsz : l.toArray.size = (List.map toT l).length := by simp
    rw [hsz] at hcall
    refine hcall.mono ?_
    rintro e w' ⟨rfl, n, os, rfl⟩
    obtain ⟨k1, k2, k3, k4, k5, k6⟩ := sortW enc k E.w b n (l.toArray.toList.mergeSort le).toArray os hheap
    have hpl := put_flat enc k hk h0 (l.mergeSort le) c c1 c2 hc (by rw [List.length_mergeSort]; exact hc1)
    have hps : (putCells id 0 (flatK enc k (l.toArray.toList.mergeSort le).toArray) c).size = c.size := by unfold putCells; simp
    have hl2 : l.toArray.toList = l := by simp
    rw [hl2] at k1 k2 k3 k4 k5 k6 hps ⊢
    exact ⟨rfl, ⟨k1, k2, k3, k4, k5⟩, _, _, k6, hps, hpl, fun E' => (hR E' _ _).2 rfl⟩
section
variable {P : Program} {Q : Exit → St → Prop} {g : FuncId} {args more : List T} {dst : Option Tmp} {rest : List (Op × Option Tmp × Option (Option Tmp × Bool))} {S : St} {k : Kn}
theorem callI_X (o : Nat) (t : TypeId) (sz : Nat) (l l' : List T) (n : Nat) (hn : l.length = n) (hlo : lookS S o = some (.buf t sz l 0)) (h : FnI P g t sz l l' more) (ha : args = (if n ≤ 0 then T.sl sz false l else T.rsl o sz 0 n) :: more)
    (h2 : stepsK P Q rest ((S.after (.put o (.buf t sz l' 0))).put dst (.tup [])) k) : callG P Q g args dst rest S k := by
  refine .inr (.inr (.inr ⟨o, t, sz, l, l', more, hlo, h, fun E vs hv => ?_, h2⟩))
  subst hn
  rw [ha] at hv
  split at hv
  · rename_i h0
    exact .inr ⟨List.length_eq_zero_iff.1 (by omega), hv⟩
  · exact .inl hv
end
theorem runX_regionN {P : Program} {Q : Exit → St → Prop} {S : St} {k : Kn} {id : Nat} {l : List Oper} (h : ∀ C, contX P Q k = C → stepsK P C (liteL (dstsL l) l) S .q) : runX P Q (.region id ⟨l⟩ false) S k := by
  have h3 := h _ rfl
  refine WP.region ?_
  show stepsW P ⟨l⟩ l S _
  rw [stepsL_eq]
  exact h3
end Go.Proofs.YtdaojihnaajfeaaDoorX

set_option linter.unusedVariables false
set_option linter.unusedSimpArgs false
namespace Go.Proofs.YtdaojihnaajfeaaDoorX
open Go Go.RowKit Go.Proofs
set_option maxRecDepth 100000
/-! ### strings.Compare: by the shelf -/
open Go.Shelf
def Tryd.lay106_ren : Go.Shelf.Ren := ⟨fun | 106 => 20 | 213 => 41 | 265 => 72 | n => n, fun | 9 => 9 | 3 => 3 | n => n, fun | n => n⟩
theorem Tryd.lay106 : Go.Proofs.Lays.n106 Tryd.prog Tryd.lay106_ren := {
 mixed := by kernel_rfl,
 f106 := Tryd.func20.trans (congrArg some (by kernel_rfl)),
 f213 := Tryd.func41.trans (congrArg some (by kernel_rfl)),
 f265 := Tryd.func72.trans (congrArg some (by kernel_rfl)),
 t3 := Tryd.underlying3,
 a3 := Tryd.isAgg3,
 z3 := Tryd.sizeOf3,
 v3 := Tryd.zeroValue3,
 t9 := Tryd.underlying9,
 a9 := Tryd.isAgg9,
 z9 := Tryd.sizeOf9,
 v9 := Tryd.zeroValue9 }
theorem F20_calls (a b : ByteArray) (w : World) : Calls Tryd.prog 20 #[.string a, .string b] w fun e w' => e = .returned (.int .i64 (Lib.compareBytes a.data.toList b.data.toList)) ∧ w' = w := by
 have hf : Tryd.lay106_ren.f 106 = 20 := by kernel_rfl
 have hc := Any.strings_Compare Tryd.lay106 a b w
 rw [hf] at hc
 exact hc
end Go.Proofs.YtdaojihnaajfeaaDoorX

set_option linter.unusedVariables false
set_option linter.unusedSimpArgs false
namespace Go.Proofs.YtdaojihnaajfeaaDoorX
open Go Go.RowKit Go.Proofs
set_option maxRecDepth 100000
/-! ### slices.SortFunc of pairs, in query.Canon's order: by the shelf -/
-- ROW 0 query.Pair query.Canon$1
open Go.Shelf
def Tryd.lay6_ren : Go.Shelf.Ren := ⟨fun | 6 => 18 | 15 => 40 | 14 => 39 | 28 => 70 | 29 => 71 | 20 => 62 | 21 => 63 | 22 => 64 | 23 => 65 | 24 => 66 | 25 => 67 | 26 => 68 | 27 => 69 | 46 => 95 | 47 => 96 | 48 => 97 | 49 => 98 | 50 => 99 | 57 => 119 | n => n, fun | 22 => 22 | 24 => 30 | 25 => 58 | 3 => 3 | 39 => 85 | 0 => 0 | 53 => 118 | 55 => 94 | 4 => 4 | 46 => 112 | 45 => 111 | 50 => 101 | 5 => 5 | 9 => 9 | 66 => 135 | 70 => 139 | 76 => 156 | 77 => 157 | n => n, fun | n => n⟩
theorem Tryd.lay6 : Go.Proofs.SlLaysF0.n6 Tryd.prog Tryd.lay6_ren := {
 mixed := by kernel_rfl,
 f6 := ⟨ "slices.SortFunc[[]shadowbox/query.Pair,shadowbox/query.Pair]", by decide, Tryd.func18.trans (congrArg some (by kernel_rfl))⟩,
 f14 := ⟨ "slices.pdqsortCmpFunc[shadowbox/query.Pair]", by decide, Tryd.func39.trans (congrArg some (by kernel_rfl))⟩,
 f15 := Tryd.func40.trans (congrArg some (by kernel_rfl)),
 f20 := ⟨ "slices.insertionSortCmpFunc[shadowbox/query.Pair]", by decide, Tryd.func62.trans (congrArg some (by kernel_rfl))⟩,
 f21 := ⟨ "slices.heapSortCmpFunc[shadowbox/query.Pair]", by decide, Tryd.func63.trans (congrArg some (by kernel_rfl))⟩,
 f22 := ⟨ "slices.breakPatternsCmpFunc[shadowbox/query.Pair]", by decide, Tryd.func64.trans (congrArg some (by kernel_rfl))⟩,
 f23 := ⟨ "slices.choosePivotCmpFunc[shadowbox/query.Pair]", by decide, Tryd.func65.trans (congrArg some (by kernel_rfl))⟩,
 f24 := ⟨ "slices.reverseRangeCmpFunc[shadowbox/query.Pair]", by decide, Tryd.func66.trans (congrArg some (by kernel_rfl))⟩,
 f25 := ⟨ "slices.partialInsertionSortCmpFunc[shadowbox/query.Pair]", by decide, Tryd.func67.trans (congrArg some (by kernel_rfl))⟩,
 f26 := ⟨ "slices.partitionEqualCmpFunc[shadowbox/query.Pair]", by decide, Tryd.func68.trans (congrArg some (by kernel_rfl))⟩,
 f27 := ⟨ "slices.partitionCmpFunc[shadowbox/query.Pair]", by decide, Tryd.func69.trans (congrArg some (by kernel_rfl))⟩,
 f28 := Tryd.func70.trans (congrArg some (by kernel_rfl)),
 f29 := Tryd.func71.trans (congrArg some (by kernel_rfl)),
 f46 := ⟨ "slices.siftDownCmpFunc[shadowbox/query.Pair]", by decide, Tryd.func95.trans (congrArg some (by kernel_rfl))⟩,
 f47 := Tryd.func96.trans (congrArg some (by kernel_rfl)),
 f48 := Tryd.func97.trans (congrArg some (by kernel_rfl)),
 f49 := ⟨ "slices.medianAdjacentCmpFunc[shadowbox/query.Pair]", by decide, Tryd.func98.trans (congrArg some (by kernel_rfl))⟩,
 f50 := ⟨ "slices.medianCmpFunc[shadowbox/query.Pair]", by decide, Tryd.func99.trans (congrArg some (by kernel_rfl))⟩,
 f57 := ⟨ "slices.order2CmpFunc[shadowbox/query.Pair]", by decide, Tryd.func119.trans (congrArg some (by kernel_rfl))⟩,
 t0 := Tryd.underlying0,
 a0 := Tryd.isAgg0,
 z0 := Tryd.sizeOf0,
 v0 := Tryd.zeroValue0,
 t3 := Tryd.underlying3,
 a3 := Tryd.isAgg3,
 z3 := Tryd.sizeOf3,
 v3 := Tryd.zeroValue3,
 t4 := Tryd.underlying4,
 a4 := Tryd.isAgg4,
 z4 := Tryd.sizeOf4,
 v4 := Tryd.zeroValue4,
 t5 := Tryd.underlying5,
 a5 := Tryd.isAgg5,
 z5 := Tryd.sizeOf5,
 v5 := Tryd.zeroValue5,
 t9 := Tryd.underlying9,
 a9 := Tryd.isAgg9,
 z9 := Tryd.sizeOf9,
 v9 := Tryd.zeroValue9,
 t22 := Tryd.underlying22,
 a22 := Tryd.isAgg22,
 z22 := Tryd.sizeOf22,
 v22 := Tryd.zeroValue22,
 t25 := Tryd.underlying58,
 a25 := Tryd.isAgg58,
 z25 := Tryd.sizeOf58,
 v25 := Tryd.zeroValue58,
 t39 := Tryd.underlying85,
 a39 := Tryd.isAgg85,
 z39 := Tryd.sizeOf85,
 v39 := Tryd.zeroValue85,
 t45 := Tryd.underlying111,
 a45 := Tryd.isAgg111,
 z45 := Tryd.sizeOf111,
 v45 := Tryd.zeroValue111,
 t46 := Tryd.underlying112,
 a46 := Tryd.isAgg112,
 z46 := Tryd.sizeOf112,
 v46 := Tryd.zeroValue112,
 t50 := Tryd.underlying101,
 a50 := Tryd.isAgg101,
 z50 := Tryd.sizeOf101,
 v50 := Tryd.zeroValue101,
 t53 := Tryd.underlying118,
 a53 := Tryd.isAgg118,
 z53 := Tryd.sizeOf118,
 v53 := Tryd.zeroValue118,
 t55 := Tryd.underlying94,
 a55 := Tryd.isAgg94,
 z55 := Tryd.sizeOf94,
 v55 := Tryd.zeroValue94,
 t66 := Tryd.underlying135,
 a66 := Tryd.isAgg135,
 z66 := Tryd.sizeOf135,
 v66 := Tryd.zeroValue135,
 t70 := Tryd.underlying139,
 a70 := Tryd.isAgg139,
 z70 := Tryd.sizeOf139,
 v70 := Tryd.zeroValue139,
 t76 := Tryd.underlying156,
 a76 := Tryd.isAgg156,
 z76 := Tryd.sizeOf156,
 v76 := Tryd.zeroValue156,
 t77 := Tryd.underlying157,
 a77 := Tryd.isAgg157,
 z77 := Tryd.sizeOf157,
 v77 := Tryd.zeroValue157 }
open Go.Lib Go.Sort
theorem cb_rng : ∀ a b : List UInt8, Lib.compareBytes a b = -1 ∨ Lib.compareBytes a b = 0 ∨ Lib.compareBytes a b = 1
 | [], [] => .inr (.inl rfl)
 | [], _ :: _ => .inl rfl
 | _ :: _, [] => .inr (.inr rfl)
 | a :: l, b :: m => by
  rw [Lib.compareBytes]
  split
  ·exact .inl rfl
  ·split
   ·exact .inr (.inr rfl)
   ·exact cb_rng l m
theorem cb_refl : ∀ a : List UInt8, Lib.compareBytes a a = 0
 | [] => rfl
 | a :: l => by
  have h : ¬ a < a := by rw [UInt8.lt_iff_toNat_lt]; omega
  rw [Lib.compareBytes, if_neg h, if_neg h]; exact cb_refl l
theorem cb_eq : ∀ a b : List UInt8, Lib.compareBytes a b = 0 → a = b
 | [], [], _ => rfl
 | [], _ :: _, h => absurd h (by show ¬ (-1 : Int) = 0; decide)
 | _ :: _, [], h => absurd h (by show ¬ (1 : Int) = 0; decide)
 | a :: l, b :: m, h => by
  rw [Lib.compareBytes] at h
  split at h
  ·cases h
  ·split at h
   ·cases h
   ·rename_i h1 h2
    rw [UInt8.lt_iff_toNat_lt] at h1 h2
    rw [cb_eq l m h, UInt8.toNat_inj.1 (show a.toNat = b.toNat by omega)]
theorem cb_anti : ∀ a b : List UInt8, Lib.compareBytes b a = - Lib.compareBytes a b
 | [], [] => rfl
 | [], _ :: _ => rfl
 | _ :: _, [] => rfl
 | a :: l, b :: m => by
  rw [Lib.compareBytes, Lib.compareBytes]
  by_cases h1 : a < b
  ·have h2 : ¬ b < a := by rw [UInt8.lt_iff_toNat_lt] at h1 ⊢; omega
   rw [if_neg h2, if_pos h1, if_pos h1]; rfl
  ·by_cases h2 : b < a
   ·rw [if_pos h2, if_neg h1, if_pos h2]
   ·rw [if_neg h2, if_neg h1, if_neg h1, if_neg h2]; exact cb_anti l m
theorem cb_trans : ∀ a b c : List UInt8, Lib.compareBytes a b ≤ 0 → Lib.compareBytes b c ≤ 0 → Lib.compareBytes a c ≤ 0
 | [], _, [], _, _ => by show (0 : Int) ≤ 0; decide
 | [], _, _ :: _, _, _ => by show (-1 : Int) ≤ 0; decide
 | _ :: _, [], _, h, _ => absurd h (by show ¬ (1 : Int) ≤ 0; decide)
 | _ :: _, _ :: _, [], _, h => absurd h (by show ¬ (1 : Int) ≤ 0; decide)
 | a :: l, b :: m, c :: n, h, h' => by
  rw [Lib.compareBytes] at h h' ⊢
  by_cases k1 : a < b <;> by_cases k2 : b < a <;> by_cases k3 : b < c <;> by_cases k4 : c < b <;> simp only [k1, k2, k3, k4, if_true, if_false] at h h' <;>
   first
   | exact absurd h (by decide)
   | exact absurd h' (by decide)
   | (rw [UInt8.lt_iff_toNat_lt] at k1 k2 k3 k4; have k5 : a < c := (by rw [UInt8.lt_iff_toNat_lt]; omega); rw [if_pos k5]; decide)
   | (rw [UInt8.lt_iff_toNat_lt] at k1 k2 k3 k4; have k5 : ¬ a < c := (by rw [UInt8.lt_iff_toNat_lt]; omega); have k6 : ¬ c < a := (by rw [UInt8.lt_iff_toNat_lt]; omega); rw [if_neg k5, if_neg k6]; exact cb_trans l m n h h')
def pcmp (x y : List UInt8 × List UInt8) : Int := if Lib.compareBytes x.1 y.1 ≠ 0 then Lib.compareBytes x.1 y.1 else Lib.compareBytes x.2 y.2
theorem pcmp_refl (x : List UInt8 × List UInt8) : pcmp x x = 0 := by
 unfold pcmp; rw [cb_refl, if_neg (by decide), cb_refl]
theorem pcmp_anti (x y : List UInt8 × List UInt8) : pcmp y x = - pcmp x y := by
 unfold pcmp
 rw [cb_anti x.1 y.1, cb_anti x.2 y.2]
 by_cases h : Lib.compareBytes x.1 y.1 = 0
 ·rw [h, if_neg (by decide), if_neg (by decide)]
 ·rw [if_pos (by omega), if_pos h]
theorem pcmp_eq (x y : List UInt8 × List UInt8) (h : pcmp x y = 0) : x = y := by
 unfold pcmp at h
 split at h
 ·rename_i k; exact absurd h k
 ·rename_i k
  have k : Lib.compareBytes x.1 y.1 = 0 := Decidable.not_not.1 k
  exact Prod.ext (cb_eq _ _ k) (cb_eq _ _ h)
theorem pcmp_trans (x y z : List UInt8 × List UInt8) (h : pcmp x y ≤ 0) (h' : pcmp y z ≤ 0) : pcmp x z ≤ 0 := by
 unfold pcmp at h h' ⊢
 by_cases a : Lib.compareBytes x.1 y.1 = 0
 ·have e := cb_eq _ _ a
  rw [if_neg (by rw [a]; decide)] at h
  rw [e]
  by_cases b : Lib.compareBytes y.1 z.1 = 0
  ·rw [if_neg (by rw [b]; decide)] at h' ⊢
   exact cb_trans _ _ _ h h'
  ·rw [if_pos b] at h' ⊢; exact h'
 ·rw [if_pos a] at h
  by_cases b : Lib.compareBytes y.1 z.1 = 0
  ·have e := cb_eq _ _ b
   rw [← e, if_pos a]; exact h
  ·rw [if_pos b] at h'
   have t := cb_trans _ _ _ h h'
   have hne : Lib.compareBytes x.1 z.1 ≠ 0 := by
    intro e
    have e := cb_eq _ _ e
    rw [e, cb_anti] at h
    have := cb_rng y.1 z.1
    omega
   rw [if_pos hne]; exact t
def pairLe (x y : List UInt8 × List UInt8) : Bool := !(ltOf pcmp) y x
theorem pairLe_iff (x y : List UInt8 × List UInt8) : pairLe x y = true ↔ pcmp x y ≤ 0 := by
 unfold pairLe ltOf
 rw [pcmp_anti x y, Bool.not_eq_true', decide_eq_false_iff_not]
 omega
theorem pcmp_swo : SWO (ltOf pcmp) := by
 refine ⟨fun x => ?_, fun x y z h1 h2 => ?_, fun x y z h1 h2 => ?_⟩
 ·unfold ltOf; rw [pcmp_refl]; rfl
 ·unfold ltOf at h1 h2 ⊢
  rw [decide_eq_true_eq] at h1 h2 ⊢
  have t := pcmp_trans x y z (by omega) (by omega)
  have hne : pcmp x z ≠ 0 := by
   intro e
   have e := pcmp_eq _ _ e
   rw [e, pcmp_anti] at h1
   omega
  omega
 ·unfold ltOf at h1 h2 ⊢
  rw [decide_eq_false_iff_not] at h1 h2 ⊢
  have t := pcmp_trans z y x (by rw [pcmp_anti]; omega) (by rw [pcmp_anti]; omega)
  rw [pcmp_anti] at t
  omega
def encP (x : List UInt8 × List UInt8) : List Value := [.string (bs x.1), .string (bs x.2)]
theorem alloc2 (w : World) (o1 o2 : Go.Obj) : ∃ q os', (w.alloc o1).alloc o2 = grow (w.drewN q) os' := ⟨0, #[o1, o2], by rw [alloc_eq_grow, alloc_eq_grow, grow_grow]; rfl⟩
section
set_option maxHeartbeats 2000000 in
theorem srt_cmp (x y : List UInt8 × List UInt8) (w : World) :
  Calls Tryd.prog 19 (#[.agg (encP x).toArray, .agg (encP y).toArray] ++ #[]) w fun e w' => e = .returned (.int .i64 (pcmp x y)) ∧ ∃ q os', w' = grow (w.drewN q) os' := by
 have u9 := Tryd.underlying9
 have hS : Tryd.prog.underlying 30 = some (.struct (Tryd.prog.fieldsOf 30)) := by kernel_rfl
 have hp : Tryd.prog.stoodInHeld 30 = false := by kernel_rfl
 have hg : Tryd.prog.eqGuardType Tryd.prog.depth 30 = false := by kernel_rfl
 have heq : ∀ w, (binOp .eql 30 (.agg #[.string (bs x.1), .string (bs x.2)]) (.agg #[.string (bs y.1), .string (bs y.2)])).run Tryd.prog w = .ok (.bool (x.1 == y.1 && x.2 == y.2)) w := by
  intro w
  rw [run_eql_struct, show (10000 : Nat) = 9999 + 1 from rfl, run_equalIn_agg w 9999 30 _ _ hS hp]
  simp only [Program.fieldsOf, Tryd.underlying30]
  go_simp
  by_cases h1 : x.1 = y.1 <;> by_cases h2 : x.2 = y.2 <;> simp [h1, h2]
 have hc := fun a b w => F20_calls a b w
 have hT : ∀ s : List UInt8, (bs s).data.toList = s := fun s => rfl
 simp only [encP, Array.append_empty]
 by_cases hxy : x = y
 ·subst hxy
  have heq' : ∀ w, (binOp .eql 30 (.agg #[.string (bs x.1), .string (bs x.2)]) (.agg #[.string (bs x.1), .string (bs x.2)])).run Tryd.prog w = .ok (.bool true) w := by
   intro w; rw [heq, beq_self_eq_true, beq_self_eq_true]; rfl
  clear heq
  rw [pcmp_refl]
  go_enter Tryd.func19, Tryd.ntmps19
  go_wp2
  go_ret
  exact ⟨rfl, alloc2 w _ _⟩
 ·have hne : (x.1 == y.1 && x.2 == y.2) = false := by
   rw [Bool.and_eq_false_iff, beq_eq_false_iff_ne, beq_eq_false_iff_ne]
   by_cases h1 : x.1 = y.1
   ·exact .inr fun e => hxy (Prod.ext h1 e)
   ·exact .inl h1
  have heq' : ∀ w, (binOp .eql 30 (.agg #[.string (bs x.1), .string (bs x.2)]) (.agg #[.string (bs y.1), .string (bs y.2)])).run Tryd.prog w = .ok (.bool false) w := by
   intro w; rw [heq, hne]
  clear heq hne
  by_cases hk : Lib.compareBytes x.1 y.1 = 0
  ·have hv : pcmp x y = Lib.compareBytes x.2 y.2 := by unfold pcmp; rw [if_neg (by rw [hk]; decide)]
   rw [hv]
   have hc1 := hc (bs x.1) (bs y.1)
   rw [hT, hT, hk] at hc1
   have hc2 := hc (bs x.2) (bs y.2)
   rw [hT, hT] at hc2
   clear hc
   go_enter Tryd.func19, Tryd.ntmps19
   go_wp2_with (first | (refine (hc1 _).mono ?_; rintro e w' ⟨rfl, rfl⟩) | (refine (hc2 _).mono ?_; rintro e w' ⟨rfl, rfl⟩))
   go_ret
   exact ⟨rfl, alloc2 w _ _⟩
  ·have hv : pcmp x y = Lib.compareBytes x.1 y.1 := by unfold pcmp; rw [if_pos hk]
   rw [hv]
   have hc1 := hc (bs x.1) (bs y.1)
   rw [hT, hT] at hc1
   clear hc
   go_enter Tryd.func19, Tryd.ntmps19
   go_wp2_with (refine (hc1 _).mono ?_; rintro e w' ⟨rfl, rfl⟩)
   go_ret
   exact ⟨rfl, alloc2 w _ _⟩
end
theorem pair_cells : ∀ (E : Env) (l : List (List UInt8 × List UInt8)) (c : List Value), RepR E 2 (List.map eT28 l) c ↔ c = l.flatMap encP
 | E, [], c => by simp only [List.map_nil, RepR, List.flatMap_nil]
 | E, s :: l, c => by
  have ih := pair_cells E l
  simp only [List.map_cons, RepR, List.flatMap_cons]
  constructor
  ·rintro ⟨u, c', rfl, _, h2, h3⟩
   have h2 : Rep E true (.agg [.imm (.string (bs s.1)), .imm (.string (bs s.2))]) u := h2
   simp only [Rep, RepL] at h2
   obtain ⟨cs, rfl, v, vs', e1, ⟨rfl, _⟩, v2, vs2, rfl, ⟨rfl, _⟩, rfl⟩ := h2
   rw [(ih c').1 h3]
   show cs.toList ++ _ = _
   rw [e1]; rfl
  ·rintro rfl
   refine ⟨.agg (encP s).toArray, l.flatMap encP, rfl, ⟨rfl, ?_⟩, ?_, (ih _).2 rfl⟩
   ·intro v hv
    have hv : v ∈ encP s := hv
    simp only [encP, List.mem_cons, List.not_mem_nil, or_false] at hv
    rcases hv with rfl | rfl <;> rfl
   ·show Rep E true (.agg [.imm (.string (bs s.1)), .imm (.string (bs s.2))]) _
    simp only [Rep, RepL]
    exact ⟨_, rfl, _, _, rfl, ⟨rfl, rfl⟩, _, _, rfl, ⟨rfl, rfl⟩, rfl⟩
def F18 (n : Nat) (a0 : List (List UInt8 × List UInt8)) : Option (List (List UInt8 × List UInt8)) := if a0.length ≤ 1000000000 then some (a0.mergeSort pairLe) else none
theorem F18_ok (n : Nat) (a0 : List (List UInt8 × List UInt8)) (r : List (List UInt8 × List UInt8)) (h : F18 n a0 = some r) : FnI Tryd.prog 18 30 2 (List.map eT28 a0) (List.map eT28 r) [.fn 19 []] := by
 unfold F18 at h
 split at h
 case isFalse => cases h
 rename_i hh
 obtain rfl := Option.some.inj h
 have hf : Tryd.lay6_ren.f 6 = 18 := by kernel_rfl
 have ht : Tryd.lay6_ren.t 24 = 30 := by kernel_rfl
 refine FnI.sorted encP 2 (fun _ => rfl) (by decide) eT28 pair_cells pairLe ⟨Tryd.f18, Tryd.func18, by kernel_rfl, rfl⟩ (fun p cap fv w => ?_) (fun blk cap d w hH hlt hd => ?_) a0 hh
 ·have hc := AnyF.slices_SortFunc_none Tryd.lay6 p cap fv w
  rw [hf] at hc
  exact hc
 ·have hc := AnyQ.slices_SortFunc_total Tryd.lay6 2 (by rw [ht]; exact Tryd.isAgg30) (by rw [ht]; exact Tryd.sizeOf30) encP (fun _ => rfl) (fun x v hv => by simp only [encP, List.mem_cons, List.not_mem_nil, or_false] at hv; rcases hv with rfl | rfl <;> rfl) pcmp pcmp_swo 19 #[] blk 0 cap d w (enters_of Tryd.func19 (by kernel_rfl) rfl) (fun m os dk _ x y => srt_cmp x y _) hH hlt (by omega) (fun x y h1 h2 => by
   unfold ltOf at h1 h2
   rw [decide_eq_false_iff_not] at h1 h2
   rw [pcmp_anti] at h2
   exact pcmp_eq x y (by omega))
  rw [hf] at hc
  exact hc
end Go.Proofs.YtdaojihnaajfeaaDoorX

set_option linter.unusedVariables false
set_option linter.unusedSimpArgs false
namespace Go.Proofs.YtdaojihnaajfeaaDoorX
open Go Go.RowKit Go.Proofs
set_option maxRecDepth 100000
/-! ### strings.Builder's copyCheck: by hand (an address is stored in its own variable) -/
-- OWN 0 1 uint8
def F42 (n : Nat) (a0 : Bool × List Int) : Option (Bool × List Int) := some (true, a0.2)
theorem bld_store {w w' : World} {b : Nat} {v0 v1 u : Value} {fr : Nat × Nat} (h : w.heap[b]? = some (.cells #[v0, v1] 61 fr)) (hf : w.frozen? ⟨b, 0, none⟩ = false) (hu : leaf u = true)
  (hr : (Instr.storeAt 59 (.pointer (some ⟨b, 0, none⟩)) u).run Tryd.prog w = .ok () w') : w' = w.setCell ⟨b, 0, none⟩ u := by
 have hc : w.cell? ⟨b, 0, none⟩ = some v0 := by simp [World.cell?, h]
 have e : (Instr.storeAt 59 (.pointer (some ⟨b, 0, none⟩)) u).run Tryd.prog w = .ok () (w.setCell ⟨b, 0, none⟩ u) := by
  unfold Instr.storeAt
  rw [run_bind (show (Instr.sureAddr (.pointer (some (⟨b, 0, none⟩ : Addr)))).run Tryd.prog w = .ok (⟨b, 0, none⟩ : Addr) w from rfl)]
  obtain ⟨inf, hinf, hs⟩ : ∃ j, Tryd.prog.info? 59 = some j ∧ j.size = 1 := Option.map_eq_some_iff.1 (show (Tryd.prog.info? 59).map (·.size) = some 1 by kernel_rfl)
  have hcs : u.cells = #[u] := by cases u <;> first | rfl | cases hu
  unfold storeVar
  rw [run_bind (run_sizeOf hinf), hs, hcs]
  simp only [List.size_toArray, List.length_cons, List.length_nil, Nat.zero_add, ne_eq, not_true_eq_false, if_false]
  show (storeCells ⟨b, 0, none⟩ [u] 0).run Tryd.prog w = _
  rw [storeCells, show (⟨b, 0, none⟩ : Addr).add 0 = ⟨b, 0, none⟩ from rfl, run_bind (run_store hc hf hu)]
  rfl
 rw [e] at hr
 injection hr with _ h2
 exact h2.symm
set_option maxHeartbeats 1000000 in
set_option maxRecDepth 100000 in
theorem bld_used (w : World) (b : Nat) (v1 : Value) (fr : Nat × Nat) (h : w.heap[b]? = some (.cells #[.pointer (some ⟨b, 0, none⟩), v1] 61 fr)) :
  Calls Tryd.prog 42 #[.pointer (some ⟨b, 0, none⟩)] w fun e w' => e = .returned (.tuple #[]) ∧ w' = w := by
 have c0 : w.cell? ⟨b, 0, none⟩ = some (.pointer (some ⟨b, 0, none⟩)) := by simp [World.cell?, h]
 have hp : Tryd.prog.underlying 59 = some (.pointer 61) := by kernel_rfl
 obtain ⟨j, hj⟩ : ∃ j, Tryd.prog.info? 61 = some j := Option.isSome_iff_exists.1 (by kernel_rfl)
 go_enter Tryd.func42, Tryd.ntmps42
 go_wp2
 rw [Lib.run_neq_ptr_same w _ hp hj]
 go_wp2
 go_end0
 exact ⟨rfl, rfl⟩
set_option maxHeartbeats 1000000 in
set_option maxRecDepth 100000 in
theorem bld_fresh (w : World) (b : Nat) (v1 : Value) (fr : Nat × Nat) (h : w.heap[b]? = some (.cells #[.pointer none, v1] 61 fr)) (hfz : w.frozen? ⟨b, 0, none⟩ = false) :
  Calls Tryd.prog 42 #[.pointer (some ⟨b, 0, none⟩)] w fun e w' => e = .returned (.tuple #[]) ∧ w' = w.setCell ⟨b, 0, none⟩ (.pointer (some ⟨b, 0, none⟩)) := by
 have h0 : w.cell? ⟨b, 0, none⟩ = some (.pointer none) := by simp [World.cell?, h]
 have hsh : w.shape? b = some (61, 2) := by simp [World.shape?, h]
 have hp : Tryd.prog.underlying 59 = some (.pointer 61) := by kernel_rfl
 have hup : Tryd.prog.underlying 120 = some .unsafePointer := by kernel_rfl
 obtain ⟨j, hj, hjs⟩ : ∃ j, Tryd.prog.info? 61 = some j ∧ j.size = 2 := Option.map_eq_some_iff.1 (show (Tryd.prog.info? 61).map (·.size) = some 2 by kernel_rfl)
 go_enter Tryd.func42, Tryd.ntmps42
 go_wp2
 rw [Lib.run_to_unsafe w ⟨b, 0, none⟩ hp hup hj (by rw [hjs]; decide) hsh (Nat.zero_lt_succ 1)]
 simp only [Result.andThen]
 rw [Oper.upon_value]
 go_wp2
 rw [run_callFunc_extern Tryd.func73 (by kernel_rfl) (by kernel_rfl) (by kernel_rfl) (e := Extern.AbiNoEscape.same) (by kernel_rfl)]
 rw [Lib.run_noEscape]
 simp only [Result.andThen]
 rw [Oper.upon_value]
 go_wp2
 rw [Lib.run_from_unsafe w ⟨b, 0, none⟩ hup hp hj hsh (by kernel_rfl)]
 simp only [Result.andThen]
 rw [Oper.upon_value]
 go_wp2
 go_end0
 exact ⟨rfl, rfl⟩
def bldO (b : Bool) (l : List Int) : List (Option Own) := [some (.box (4294967296 + 61) (.agg [adT b 0, .rsl 1 1 0 l.length]) false), some (.buf 5 1 (List.map byteT l) 0)]
theorem bldO_at {w : World} {μ : Nat → Option Nat} {ban : Ban} {b : Bool} {l : List Int} (hO : Objs ⟨w, μ, bldO b l, ban⟩) : ∃ (g : Nat) (fr : Nat × Nat) (v1 : Value), μ 0 = some g ∧ w.heap[g]? = some (.cells #[if b = true then .pointer (some ⟨g, 0, none⟩) else .pointer none, v1] 61 fr) ∧ Unf fr 2 ∧ Rep ⟨w, μ, bldO b l, ban⟩ false (.rsl 1 1 0 l.length) v1 := by
 obtain ⟨g, fr, u, h1, h2, h3, h4, h5⟩ := hO.at_ 0 _ rfl
 simp only [Rep] at h4
 obtain ⟨cs, rfl, h4⟩ := h4
 simp only [RepL] at h4
 obtain ⟨v0, vs, e1, q1, v1, vs', e2, q2, e3⟩ := h4
 subst e3; subst e2
 have ec : cs = #[v0, v1] := by rw [← Array.toArray_toList (xs := cs), e1]
 subst ec
 have h1 : μ 0 = some g := h1
 have e0 : v0 = if b = true then .pointer (some ⟨g, 0, none⟩) else .pointer none := by
  cases b with
  | true =>
   have q1 : Rep _ false (.ref 0 7777 0 0) v0 := q1
   simp only [Rep] at q1
   obtain ⟨_, _, g', k1, rfl⟩ := q1
   obtain rfl : g' = g := Option.some.inj (k1.symm.trans h1)
   simp
  | false =>
   have q1 : Rep _ false (.imm (.pointer none)) v0 := q1
   simp only [Rep] at q1
   simp [q1.1]
 subst e0
 exact ⟨g, fr, v1, h1, h2, h3, by simp only [Rep] at q2 ⊢; exact q2⟩
theorem F42_ok (n : Nat) (a0 : Bool × List Int) (r : Bool × List Int) (h : F42 n a0 = some r) : FnR Tryd.prog 42 [some (.box (4294967296 + 61) (.agg [adT a0.1 0, .rsl 1 1 0 a0.2.length]) false), some (.buf 5 1 (List.map byteT a0.2) 0)] [.ref 0 0 0 0] (.tup []) [some (.box (4294967296 + 61) (.agg [adT r.1 0, .rsl 1 1 0 r.2.length]) false), some (.buf 5 1 (List.map byteT r.2) 0)] := by
 obtain rfl := Option.some.inj h
 obtain ⟨b, l⟩ := a0
 refine ⟨⟨Tryd.f42, Tryd.func42, by kernel_rfl, rfl⟩, by simp [rowsOk, refsC, refsCL, adT_refsC, tagM], by simp [sameO], by simp [refsC, refsCL], fun B μ vs hO hOwn hv => ?_⟩
 obtain ⟨g, fr, v1, h1, h2, h3, h4⟩ := bldO_at (b := b) (l := l) hO
 have evs : vs = #[.pointer (some ⟨g, 0, none⟩)] := by
  simp only [RepL, Rep] at hv
  obtain ⟨v, vs', e1, ⟨_, _, g', k1, rfl⟩, rfl⟩ := hv
  have k1 : μ 0 = some g' := k1
  rw [h1] at k1; cases k1
  rw [← Array.toArray_toList (xs := vs), e1]
 have hS : Sat B ⟨[.ref 0 0 0 0], bldO b l⟩ { tmps := vs, defers := [] } B.w μ := ⟨hv, rfl, hO, fun o x k q1 q2 q3 => by
  have q1 : (bldO b l)[o]? = some (some x) := q1
  obtain ⟨lk, hl⟩ : ∃ l, x.lock = some l := by cases x <;> first | exact ⟨_, rfl⟩ | exact absurd rfl q2
  exact .inr ⟨0, lk, (hOwn.1 k 0).2 ⟨rfl, o, (List.getElem?_eq_some_iff.1 q1).1, q3⟩, hl, Nat.zero_le _⟩, ⟨rfl, rfl, rfl, Nat.le_refl _, fun _ _ _ => rfl, fun _ _ _ _ _ => rfl, fun k lk _ c t fr h => ⟨c, fr, h, rfl⟩⟩⟩
 have hfz : B.w.frozen? ⟨g, 0, none⟩ = false := by
  have := h3.out (j := 0) (by omega)
  simp only [World.frozen?, h2]
  simpa using this
 rw [evs]
 cases b with
 | true =>
  refine (bld_used B.w g v1 fr (by simpa using h2)).mono ?_
  rintro e w' ⟨rfl, rfl⟩
  exact ⟨_, μ, rfl, hS.objs, by simp only [Rep, RepL]; exact ⟨#[], rfl, rfl⟩, hS.kept, fun o x k q1 q2 q3 => .inr ((hOwn.1 k 0).2 ⟨rfl, o, (List.getElem?_eq_some_iff.1 q1).1, q3⟩)⟩
 | false =>
  have h2' : B.w.heap[g]? = some (.cells #[.pointer none, v1] 61 fr) := by simpa using h2
  refine (bld_fresh B.w g v1 fr h2' hfz).mono ?_
  rintro e w' ⟨rfl, rfl⟩
  obtain ⟨r, eff, w', hK, hrun, hpost⟩ := store_sound (P := Tryd.prog) (k := 2) (t := 59) (x := .ref 0 0 0 0) (v := .ref 0 7777 0 0) (look := lookS ⟨[.ref 0 0 0 0], bldO false l⟩) (p := .pointer (some ⟨g, 0, none⟩)) (u := .pointer (some ⟨g, 0, none⟩)) (K := fun r eff => eff = .put 0 (.box (4294967296 + 61) (.agg [.ref 0 7777 0 0, .rsl 1 1 0 l.length]) false)) hS
   (by simp [storeW, bldO, lookS, adT, go_sem]) (by simp only [Rep]; exact ⟨trivial, ⟨_, rfl⟩, g, h1, by simp⟩) (by simp only [Rep]; exact ⟨trivial, ⟨_, rfl⟩, g, h1, by simp⟩) (fun i x hx => lookS_some hx)
  subst hK
  have ew := bld_store h2' hfz rfl hrun
  subst ew
  obtain ⟨μ', hS', _⟩ := hpost
  refine ⟨_, μ', rfl, hS'.objs, by simp only [Rep, RepL]; exact ⟨#[], rfl, rfl⟩, hS'.kept, fun o x k q1 q2 q3 => ?_⟩
  rcases hS'.fresh o x k q1 q2 q3 with h | ⟨lk, lk', q4, _⟩
  ·exact .inl h
  ·have := ((hOwn.1 k lk).1 q4).1
   subst this
   exact .inr q4
end Go.Proofs.YtdaojihnaajfeaaDoorX

set_option linter.unusedVariables false
set_option linter.unusedSimpArgs false
namespace Go.Proofs.YtdaojihnaajfeaaDoorX
open Go Go.RowKit Go.Proofs
set_option maxRecDepth 100000
attribute [local go_sem ↓] stepsK_build stepsK_bs appendS
attribute [local go_sem] String.reduceEq String.reduceNe reduceCtorEq Int.reduceEq Nat.reduceAdd Nat.reduceSub Nat.reduceMul Nat.reduceLT Nat.reduceLeDiff Nat.reduceEqDiff Nat.reduceBEq Int.reduceToNat Int.reduceLT Int.reduceLE Int.reduceGT Int.reduceGE Int.reduceAdd Int.reduceSub Int.reduceMul Int.reduceNeg Int.reduceBEq Int.reduceBNe Int.reducePow Int.reduceDiv Int.reduceMod Int.reduceTDiv Int.reduceTMod Int.reduceNatCast
/-! ### (*strings.Builder).WriteString -/
def F21 (n : Nat) (a0 : (Bool) × (List (Int))) (a1 : List UInt8) : Option ((Int) × (Unit) × ((Bool) × (List (Int)))) := (F42 n (a0.1, a0.2)).bind fun v1 => grd ((v1.2.length + a1.length) ≤ 549755813888) (some ((a1.length : Int), (), (v1.1, (v1.2 ++ (a1.map ofB)))))
set_option maxHeartbeats 4000000 in
theorem F21_ok : ∀ (n : Nat) (a0 : (Bool) × (List (Int))) (a1 : List UInt8) (r : (Int) × (Unit) × ((Bool) × (List (Int)))), F21 n a0 a1 = some r → FnR Tryd.prog 21 [some (.box 4294967357 (.agg [adT a0.1 0, .rsl 1 1 0 a0.2.length]) false), some (.buf 5 1 (List.map byteT a0.2) 0)] [.ref 0 0 0 0, .imm (.string (bs a1))] (.tup [.imm (.int .i64 r.1), .imm .nilIface]) [some (.box 4294967357 (.agg [adT r.2.2.1 0, .rsl 1 1 0 r.2.2.2.length]) false), some (.buf 5 1 (List.map byteT r.2.2.2) 0)]
 | n, a0, a1, r, h => by
  unfold F21 at h
  refine FnR.goX mixed [4, 5] Tryd.func21 (by kernel_rfl) rfl (by simp [rowsOk, refsC, refsCL, adT_refsC, tagM]) (by simp [sameO]) (by simp [refsC, refsCL]) ?_
  simp only [Tryd.ntmps21, List.length_cons, List.length_nil, List.replicate, List.cons_append, List.nil_append, Nat.reduceAdd, Nat.reduceSub]
  refine runX_seq ?_
  refine runX_regionC fun C hC => ?_
  try simp -implicitDefEqProofs (maxSteps := 4000000) (disch := first | omega | decide | (simp only [go_sem]; omega)) only [go_sem, ↓reduceIte]
  repeat (with_reducible refine And.intro (by first | assumption | omega | (simp; done) | (simp; omega)) ?_)
  refine toEnd hC ?_
  refine endX_seq ?_
  refine runX_seq ?_
  refine runX_regionC fun C hC => ?_
  obtain ⟨v1, h1, h⟩ := bnd_some h
  try simp -implicitDefEqProofs (maxSteps := 4000000) (disch := first | omega | decide | (simp only [go_sem]; omega)) only [go_sem, ↓reduceIte]
  repeat (with_reducible refine And.intro (by first | assumption | omega | (simp; done) | (simp; omega)) ?_)
  refine callR_X [0, 1] (F42_ok n (a0.1, a0.2) _ h1) (by decide) (by (try simp -implicitDefEqProofs (maxSteps := 4000000) (disch := first | omega | decide | (simp only [go_sem]; omega)) only [go_sem, ↓reduceIte]); repeat (first | exact trivial | refine And.intro ?_ ?_ | exact fun _ => trivial | exact fun _ _ => trivial | exact fun _ _ h => h | rfl | decide)) (by (try simp -implicitDefEqProofs (maxSteps := 4000000) (disch := first | omega | decide | (simp only [go_sem]; omega)) only [go_sem, ↓reduceIte]); repeat (first | exact leL_refl _ | refine leL_cons (by first | exact leT_refl _ | exact leT_virt | exact leT_junk _ | exact leT_sl | exact leT_sln | exact leT_nil | (refine leT_agg (by repeat (first | exact leL_refl _ | refine leL_cons (by first | exact leT_refl _ | exact leT_sl | exact leT_sln | exact leT_nil) ?_)))) ?_)) ?_
  try simp -implicitDefEqProofs (maxSteps := 4000000) (disch := first | omega | decide | (simp only [go_sem]; omega)) only [go_sem, ↓reduceIte]
  repeat (with_reducible refine And.intro (by first | assumption | omega | (simp; done) | (simp; omega)) ?_)
  refine toEnd hC ?_
  refine endX_seq ?_
  refine runX_seq ?_
  refine runX_regionC fun C hC => ?_
  obtain ⟨g2, h⟩ := grd_some h
  try simp -implicitDefEqProofs (maxSteps := 4000000) (disch := first | omega | decide | (simp only [go_sem]; omega)) only [go_sem, ↓reduceIte]
  repeat (with_reducible refine And.intro (by first | assumption | omega | (simp; done) | (simp; omega)) ?_)
  refine toEnd hC ?_
  refine endX_seq ?_
  refine runX_seq ?_
  refine runX_regionC fun C hC => ?_
  try simp -implicitDefEqProofs (maxSteps := 4000000) (disch := first | omega | decide | (simp only [go_sem]; omega)) only [go_sem, ↓reduceIte]
  repeat (with_reducible refine And.intro (by first | assumption | omega | (simp; done) | (simp; omega)) ?_)
  refine toEnd hC ?_
  refine endX_seq ?_
  refine runX_ret ?_
  refine endX_q ?_
  obtain rfl := Option.some.inj h
  show RetR _ _ _ _ _ _ _ _
  simp only [RetR]
  (try simp -implicitDefEqProofs (maxSteps := 4000000) (disch := first | omega | decide | (simp only [go_sem]; omega)) only [go_sem, ↓reduceIte])
  exact ⟨leOs_refl _, leT_refl _⟩
end Go.Proofs.YtdaojihnaajfeaaDoorX

set_option linter.unusedVariables false
set_option linter.unusedSimpArgs false
namespace Go.Proofs.YtdaojihnaajfeaaDoorX
open Go Go.RowKit Go.Proofs
set_option maxRecDepth 100000
/-! ### strings.Builder's String: by hand (the text shares the bytes: the row is given up) -/
-- OWN 0 1 uint8
-- DEAD 0
def F22 (n : Nat) (a0 : Bool × List Int) : Option (List UInt8 × (Bool × List Int)) := if a0.2.length ≤ 549755813888 ∧ (a0.2.all fun x => decide (0 ≤ x) && decide (x < 256)) = true then some (a0.2.map toB, a0) else none
-- F42
set_option maxHeartbeats 2000000 in
set_option maxRecDepth 100000 in
theorem bst_row (b g cap sz : Nat) (p : Value) (l : List UInt8) (h0 : l ≠ []) (hl : l.length ≤ 549755813888) (w : World) (fr fr' : Nat × Nat) (cur : Array Value) (hbk : w.heap[b]? = some (.cells #[p, .slice (some ⟨g, 0, none⟩) l.length cap] 61 fr)) (hg : w.heap[g]? = some (.cells cur 5 fr')) (hc : cap ≠ 0) (hsz : l.length ≤ cur.size)
  (hcell : ∀ j x, l[j]? = some x → w.cell? ((⟨g, 0, none⟩ : Addr).add j) = some (.int .u8 x.toNat)) :
  Calls Tryd.prog 22 #[.pointer (some ⟨b, 0, none⟩)] w fun e w' => e = .returned (.string ⟨l.toArray⟩) ∧ w' = w.drew.freeze ⟨g, 0, none⟩ l.length := by
 have c1 : w.drew.cell? ⟨b, 1, none⟩ = some (.slice (some ⟨g, 0, none⟩) l.length cap) := by
  have : w.drew.heap[b]? = some (.cells #[p, .slice (some ⟨g, 0, none⟩) l.length cap] 61 fr) := hbk
  simp [World.cell?, this]
 have hSD : (Builtin.unsafeSliceData_ #[36] 88 #[.slice (some ⟨g, 0, none⟩) l.length cap]).run Tryd.prog w.drew = .ok (.pointer (some ⟨g, 0, none⟩)) w.drew :=
  Lib.run_unsafeSliceData_row _ _ _ _ _ _ hc
 have hUS : (Builtin.unsafeString_ #[88, 3] 9 #[.pointer (some ⟨g, 0, none⟩), .int .i64 l.length]).run Tryd.prog w.drew = .ok (.string ⟨l.toArray⟩) (w.drew.freeze ⟨g, 0, none⟩ l.length) := by
  refine Lib.run_unsafeString_row w.drew 88 3 9 5 (by kernel_rfl) (by kernel_rfl) g cur.size (by have hg' : w.drew.heap[g]? = some (.cells cur 5 fr') := hg; simp [World.shape?, hg']) l h0 hsz (by omega) ?_
  intro j x hx
  exact hcell j x hx
 go_enter Tryd.func22, Tryd.ntmps22
 go_wp2
 go_region
 all_goals (go_wp2; go_ret; exact ⟨rfl, rfl⟩)
set_option maxHeartbeats 2000000 in
set_option maxRecDepth 100000 in
theorem bst_nil (b : Nat) (p : Value) (w : World) (fr : Nat × Nat) (hbk : w.heap[b]? = some (.cells #[p, .slice none 0 0] 61 fr)) :
  Calls Tryd.prog 22 #[.pointer (some ⟨b, 0, none⟩)] w fun e w' => e = .returned (.string ⟨#[]⟩) ∧ Below w.heap.size w w' := by
 have hUS : ∀ (W : World) (q : Option Addr), (Builtin.unsafeString_ #[88, 3] 9 #[.pointer q, .int .i64 0]).run Tryd.prog W = .ok (.string .empty) W := fun W q => Lib.run_unsafeString_none W _ _ _ q
 have c1 : w.drew.cell? ⟨b, 1, none⟩ = some (.slice none 0 0) := by
  have : w.drew.heap[b]? = some (.cells #[p, .slice none 0 0] 61 fr) := hbk
  simp [World.cell?, this]
 have hSD : (Builtin.unsafeSliceData_ #[36] 88 #[.slice none 0 0]).run Tryd.prog w.drew = .ok (.pointer none) w.drew := rfl
 go_enter Tryd.func22, Tryd.ntmps22
 go_wp2
 go_region
 all_goals (go_wp2; go_ret; exact ⟨rfl, Below.drew (Below.refl _ w)⟩)
set_option maxHeartbeats 2000000 in
set_option maxRecDepth 100000 in
theorem bst_noroom (b : Nat) (a : Addr) (p : Value) (w : World) (fr fr' : Nat × Nat) (cur : Array Value) (t : TypeId) (hbk : w.heap[b]? = some (.cells #[p, .slice (some a) 0 0] 61 fr)) (hg : w.heap[a.block]? = some (.cells cur t fr')) :
  Calls Tryd.prog 22 #[.pointer (some ⟨b, 0, none⟩)] w fun e w' => e = .returned (.string ⟨#[]⟩) ∧ Below w.heap.size w w' := by
 have hUS : ∀ (W : World) (q : Option Addr), (Builtin.unsafeString_ #[88, 3] 9 #[.pointer q, .int .i64 0]).run Tryd.prog W = .ok (.string .empty) W := fun W q => Lib.run_unsafeString_none W _ _ _ q
 have hlt : b < w.heap.size := (Array.getElem?_eq_some_iff.1 hbk).1
 have c1 : w.drew.cell? ⟨b, 1, none⟩ = some (.slice (some a) 0 0) := by
  have : w.drew.heap[b]? = some (.cells #[p, .slice (some a) 0 0] 61 fr) := hbk
  simp [World.cell?, this]
 have hSD : (Builtin.unsafeSliceData_ #[36] 88 #[.slice (some a) 0 0]).run Tryd.prog w.drew = .ok (.pointer (some ⟨w.drew.heap.size, 0, none⟩)) (w.drew.alloc (.view a 5)) :=
  Lib.run_unsafeSliceData_zero w.drew _ _ 5 (by kernel_rfl) a 0 (t, cur.size) (by have hg' : w.drew.heap[a.block]? = some (.cells cur t fr') := hg; simp [World.shape?, hg'])
 have c2 : (w.drew.alloc (.view a 5)).cell? ⟨b, 1, none⟩ = some (.slice (some a) 0 0) := by
  have : (w.drew.alloc (.view a 5)).heap[b]? = _ := (Lib.alloc_old w.drew _ b hlt).trans hbk
  simp [World.cell?, this]
 have c3 : (w.alloc (.view a 5)).drew.cell? ⟨b, 1, none⟩ = some (.slice (some a) 0 0) := c2
 have c0 : w.cell? ⟨b, 1, none⟩ = some (.slice (some a) 0 0) := c1
 go_enter Tryd.func22, Tryd.ntmps22
 go_wp2
 go_region
 all_goals (go_wp2; go_ret; exact ⟨rfl, (Below.drew (Below.refl _ w)).alloc (Nat.le_refl _) _⟩)
set_option maxHeartbeats 2000000 in
set_option maxRecDepth 100000 in
theorem bst_room (b cap : Nat) (a : Addr) (p : Value) (w : World) (fr : Nat × Nat) (hc0 : cap ≠ 0) (hbk : w.heap[b]? = some (.cells #[p, .slice (some a) 0 cap] 61 fr)) :
  Calls Tryd.prog 22 #[.pointer (some ⟨b, 0, none⟩)] w fun e w' => e = .returned (.string ⟨#[]⟩) ∧ Below w.heap.size w w' := by
 have hUS : ∀ (W : World) (q : Option Addr), (Builtin.unsafeString_ #[88, 3] 9 #[.pointer q, .int .i64 0]).run Tryd.prog W = .ok (.string .empty) W := fun W q => Lib.run_unsafeString_none W _ _ _ q
 have c1 : w.drew.cell? ⟨b, 1, none⟩ = some (.slice (some a) 0 cap) := by
  have : w.drew.heap[b]? = some (.cells #[p, .slice (some a) 0 cap] 61 fr) := hbk
  simp [World.cell?, this]
 have hSD : (Builtin.unsafeSliceData_ #[36] 88 #[.slice (some a) 0 cap]).run Tryd.prog w.drew = .ok (.pointer (some a)) w.drew :=
  Lib.run_unsafeSliceData_row _ _ _ _ _ _ hc0
 clear hc0
 go_enter Tryd.func22, Tryd.ntmps22
 go_wp2
 go_region
 all_goals (go_wp2; go_ret; exact ⟨rfl, Below.drew (Below.refl _ w)⟩)
def bldD (b : Bool) : List (Option Own) := [some (.box (4294967296 + 61) (.agg [adT b 0, .junk]) false), some .dead]
theorem bst_objs {w w' : World} {μ : Nat → Option Nat} {ban : Ban} {b : Bool} {l : List Int} {g : Nat} {fr : Nat × Nat} {v1 : Value} (hO : Objs ⟨w, μ, bldO b l, ban⟩) (h1 : μ 0 = some g)
  (h2 : w'.heap[g]? = some (.cells #[if b = true then .pointer (some ⟨g, 0, none⟩) else .pointer none, v1] 61 fr)) (h3 : Unf fr 2) : Objs ⟨w', μ, bldD b, ban⟩ := by
 obtain ⟨g', _, _, k1, _, _, _, _, hp⟩ := hO.at_ 0 _ rfl
 have k1 : μ 0 = some g' := k1
 obtain rfl : g' = g := Option.some.inj (k1.symm.trans h1)
 refine ⟨fun o x hx => ?_, fun o o' x x' q hx hx' hd hd' _ _ => ?_⟩
 ·match o, hx with
  | 0, hx =>
   have hx : some (some (Own.box (4294967296 + 61) (.agg [adT b 0, .junk]) false)) = some (some x) := hx
   injection hx with hx; injection hx with hx; subst hx
   refine ⟨g', fr, .agg #[if b = true then .pointer (some ⟨g', 0, none⟩) else .pointer none, v1], h1, h2, h3, ?_, rfl, hp⟩
   simp only [Rep]
   refine ⟨_, rfl, ?_⟩
   simp only [RepL]
   refine ⟨_, _, rfl, ?_, _, _, rfl, by simp only [Rep], rfl⟩
   cases b with
   | true =>
    show Rep _ false (.ref 0 7777 0 0) _
    simp only [Rep]
    exact ⟨trivial, ⟨_, rfl⟩, g', h1, by simp⟩
   | false =>
    show Rep _ false (.imm (.pointer none)) _
    simp [Rep, flat]
  | 1, hx =>
   have hx : some (some Own.dead) = some (some x) := hx
   injection hx with hx; injection hx with hx; subst hx
   trivial
  | o + 2, hx => exact absurd (show (none : Option (Option Own)) = some (some x) from hx) (by simp)
 ·match o, o', hx, hx' with
  | 0, 0, _, _ => rfl
  | 1, _, hx, _ =>
   have hx : some (some Own.dead) = some (some x) := hx
   injection hx with hx; injection hx with hx; exact absurd hx.symm hd
  | _, 1, _, hx =>
   have hx : some (some Own.dead) = some (some x') := hx
   injection hx with hx; injection hx with hx; exact absurd hx.symm hd'
  | o + 2, _, hx, _ => exact absurd (show (none : Option (Option Own)) = some (some x) from hx) (by simp)
  | 0, o + 2, _, hx => exact absurd (show (none : Option (Option Own)) = some (some x') from hx) (by simp)
theorem bst_bytes (l : List Int) (h : (l.all fun x => decide (0 ≤ x) && decide (x < 256)) = true) (j : Nat) (x : UInt8) (hx : (l.map toB)[j]? = some x) : l[j]? = some (x.toNat : Int) := by
 rw [List.getElem?_map] at hx
 cases hl : l[j]? with
 | none => rw [hl] at hx; cases hx
 | some y =>
  rw [hl] at hx
  have hx : toB y = x := Option.some.inj hx
  obtain ⟨hj, e⟩ := List.getElem?_eq_some_iff.1 hl
  have hy := List.all_eq_true.1 h y (e ▸ List.getElem_mem hj)
  simp only [Bool.and_eq_true, decide_eq_true_eq] at hy
  subst hx
  simp only [toB, Option.some.injEq]
  rw [UInt8.toNat_ofNat', Nat.mod_eq_of_lt (by omega)]
  omega
theorem bst_inj : ∀ l ns : List Int, List.map byteT l = List.map byteT ns → l = ns
 | [], [], _ => rfl
 | [], _ :: _, h => by simp at h
 | _ :: _, [], h => by simp at h
 | x :: l, y :: ns, h => by
  simp only [List.map_cons, List.cons.injEq] at h
  obtain ⟨h1, h2⟩ := h
  have h1 : T.imm (.int .u8 x) = T.imm (.int .u8 y) := h1
  injection h1 with h1; injection h1 with _ h1
  rw [h1, bst_inj l ns h2]
theorem bst_kept {B : Base} {q n : Nat} (h : B.own q 0) (hz : ∀ k lk, B.own k lk → lk = 0) : Kept B (B.w.drew.freeze ⟨q, 0, none⟩ n) := by
 unfold World.freeze
 split
 ·exact Kept.below ⟨rfl, rfl, rfl, Nat.le_refl _, fun _ _ _ => rfl, fun _ _ _ _ _ => rfl, fun k lk _ c t fr h => ⟨c, fr, h, rfl⟩⟩ (Below.drew (Below.refl _ _))
 ·refine ⟨rfl, rfl, rfl, ?_, fun k hk h1 => ?_, fun k lk h1 j hj => ?_, fun k lk h1 c t fr hb => ?_⟩
  ·show _ ≤ (B.w.heap.modify _ _).size
   rw [Array.size_modify]; exact Nat.le_refl _
  ·show (B.w.heap.modify _ _)[k]? = _
   rw [Array.getElem?_modify, if_neg (show ¬ q = k from fun e => h1 0 (e ▸ h))]
  ·rw [hz k lk h1] at hj; omega
  ·show ∃ c' fr', (B.w.heap.modify _ _)[k]? = _ ∧ _
   rw [Array.getElem?_modify]
   split
   ·rw [hb]; exact ⟨c, _, rfl, rfl⟩
   ·exact ⟨c, fr, hb, rfl⟩
theorem F22_ok (n : Nat) (a0 : Bool × List Int) (r : List UInt8 × (Bool × List Int)) (h : F22 n a0 = some r) : FnR Tryd.prog 22 [some (.box (4294967296 + 61) (.agg [adT a0.1 0, .rsl 1 1 0 a0.2.length]) false), some (.buf 5 1 (List.map byteT a0.2) 0)] [.ref 0 0 0 0] (.imm (.string (bs r.1))) [some (.box (4294967296 + 61) (.agg [adT r.2.1 0, .junk]) false), some .dead] := by
 unfold F22 at h
 split at h
 case isFalse => cases h
 rename_i hl
 obtain ⟨hl, hb⟩ := hl
 obtain rfl := Option.some.inj h
 obtain ⟨b, l⟩ := a0
 dsimp only at hl hb ⊢
 refine ⟨⟨Tryd.f22, Tryd.func22, by kernel_rfl, rfl⟩, by simp [rowsOk, refsC, refsCL, adT_refsC, tagM], by simp [sameO], by simp [refsC, refsCL], fun B μ vs hO hOwn hv => ?_⟩
 obtain ⟨g, fr, v1, h1, h2, h3, h4⟩ := bldO_at (b := b) (l := l) hO
 have evs : vs = #[.pointer (some ⟨g, 0, none⟩)] := by
  simp only [RepL, Rep] at hv
  obtain ⟨v, vs', e1, ⟨_, _, g', k1, rfl⟩, rfl⟩ := hv
  have k1 : μ 0 = some g' := k1
  rw [h1] at k1; cases k1
  rw [← Array.toArray_toList (xs := vs), e1]
 have hk0 : Kept B B.w := ⟨rfl, rfl, rfl, Nat.le_refl _, fun _ _ _ => rfl, fun _ _ _ _ _ => rfl, fun k lk _ c t fr h => ⟨c, fr, h, rfl⟩⟩
 have hlt : g < B.w.heap.size := (Array.getElem?_eq_some_iff.1 h2).1
 have hown : ∀ (o : Nat) (x : Own) (q : Nat), (bldD b)[o]? = some (some x) → x ≠ .dead → μ o = some q → B.w.heap.size ≤ q ∨ B.own q 0 := fun o x q q1 q2 q3 =>
  .inr ((hOwn.1 q 0).2 ⟨rfl, o, (List.getElem?_eq_some_iff.1 q1).1, q3⟩)
 have hout : ∀ (e : Ending) (w' : World), l = [] → e = .returned (.string ⟨#[]⟩) ∧ Below B.w.heap.size B.w w' → ∃ u μ', e = .returned u ∧ Objs ⟨w', μ', bldD b, B.ban⟩ ∧ Rep ⟨w', μ', bldD b, B.ban⟩ false (.imm (.string (bs (l.map toB)))) u ∧ Kept B w' ∧
   (∀ (o : Nat) (x : Own) (q : Nat), (bldD b)[o]? = some (some x) → x ≠ .dead → μ' o = some q → B.w.heap.size ≤ q ∨ B.own q 0) := by
  rintro e w' rfl ⟨rfl, hw⟩
  exact ⟨_, μ, rfl, bst_objs hO h1 ((hw.block g hlt).trans h2) h3, by simp only [Rep]; exact ⟨rfl, rfl⟩, hk0.below hw, hown⟩
 rw [evs]
 simp only [Rep] at h4
 obtain ⟨_, _, h4⟩ := h4
 rcases h4 with ⟨_, hl0, _, ⟨a, ha⟩, rfl⟩ | ⟨q, p, cap, c, t, fr', m1, rfl, m2, m3, m4, m5⟩
 ·have e : l = [] := List.eq_nil_of_length_eq_zero hl0
  cases a with
  | none => exact (bst_nil g _ B.w fr h2).mono fun e' w' h' => hout e' w' e h'
  | some a =>
   obtain ⟨c, t, fr', hc⟩ := ha a rfl
   exact (bst_noroom g a _ B.w fr fr' c t h2 hc).mono fun e' w' h' => hout e' w' e h'
 ·by_cases e : l = []
  ·subst e
   by_cases hc : cap = 0
   ·subst hc
    exact (bst_noroom g ⟨q, p, none⟩ _ B.w fr fr' c t h2 m4).mono fun e' w' h' => hout e' w' rfl h'
   ·exact (bst_room g cap ⟨q, p, none⟩ _ B.w fr hc h2).mono fun e' w' h' => hout e' w' rfl h'
  ·have hll : l.length ≠ 0 := fun h => e (List.eq_nil_of_length_eq_zero h)
   have hc : cap ≠ 0 := by omega
   have hp : p = 0 := by rcases m3 with h | h; exact absurd h hc; omega
   subst hp
   obtain ⟨_, hbuf⟩ := hO.at_ 1 _ rfl
   rcases hbuf with ⟨_, h0⟩ | ⟨q', c', fr2, c1, c2, n1, n2, n3, n4, n5⟩
   ·exact absurd (List.map_eq_nil_iff.1 h0) e
   have n1 : μ 1 = some q' := n1
   obtain rfl : q' = q := Option.some.inj (n1.symm.trans m1)
   have n2 : B.w.heap[q']? = some (.cells c' 5 fr2) := n2
   obtain ⟨ns, e1, e2⟩ := bytes_rep n5 (fun x hx => by obtain ⟨y, _, rfl⟩ := List.mem_map.1 hx; rfl)
   obtain rfl := bst_inj _ _ e2
   have hsz : (l.map toB).length ≤ c'.size := by
    rw [← Array.length_toList, n4, e1]; simp
   have hcell : ∀ j x, (l.map toB)[j]? = some x → B.w.cell? ((⟨q', 0, none⟩ : Addr).add j) = some (.int .u8 x.toNat) := by
    intro j x hx
    have hj := bst_bytes l hb j x hx
    have hjl : j < c1.length := by rw [e1, List.length_map]; exact (List.getElem?_eq_some_iff.1 hj).1
    have : c'[j]? = some (.int .u8 x.toNat) := by
     rw [← Array.getElem?_toList, n4, List.getElem?_append_left hjl, e1, List.getElem?_map, hj]; rfl
    have ea : ((⟨q', 0, none⟩ : Addr).add j) = ⟨q', j, none⟩ := by
     unfold Addr.add
     split
     ·subst_vars; rfl
     ·simp
    rw [ea]
    simp only [World.cell?, n2]
    exact this
   have hne : g ≠ q' := fun e' => by
    have := hO.inj 0 1 _ _ g rfl rfl (by simp) (by simp) h1 (e' ▸ n1)
    omega
   have h2' : B.w.heap[g]? = some (.cells #[if b = true then .pointer (some ⟨g, 0, none⟩) else .pointer none, .slice (some ⟨q', 0, none⟩) (l.map toB).length cap] 61 fr) := by rw [List.length_map]; exact h2
   refine (bst_row g q' cap c'.size _ (l.map toB) (by simpa using e) (by rw [List.length_map]; exact hl) B.w fr fr2 c' h2' n2 hc hsz hcell).mono ?_
   rintro e' w' ⟨rfl, rfl⟩
   have hw : (B.w.drew.freeze ⟨q', 0, none⟩ (l.map toB).length).heap[g]? = B.w.heap[g]? := by
    unfold World.freeze
    split
    ·rfl
    ·show (B.w.heap.modify _ _)[g]? = _
     rw [Array.getElem?_modify, if_neg (fun h => hne h.symm)]
   exact ⟨_, μ, rfl, bst_objs hO h1 (hw.trans h2) h3, by simp only [Rep]; exact ⟨rfl, rfl⟩, bst_kept ((hOwn.1 q' 0).2 ⟨rfl, 1, by simp, n1⟩) (fun k lk h => ((hOwn.1 k lk).1 h).1), hown⟩
end Go.Proofs.YtdaojihnaajfeaaDoorX
