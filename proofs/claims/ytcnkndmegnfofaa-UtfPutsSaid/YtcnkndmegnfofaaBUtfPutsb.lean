/- Part of the proof of UtfPuts: walks and plain words, merged. -/
import Derived.Test.YtcnkndmegnfofaaBUtfPutsa
import Derived.ChangeShapes
import Derived.Carry
import Derived.RowKit
import Derived.SizedLaws
import Derived.ChangeAt
import Derived.OpenShut
import Derived.ProofKit
import Derived.IntWalk
import Derived.Test.YtcnkndmegnfofaaProg
import Derived.KernelRfl
import Derived.Test.YtcnkndmegnfofaaRows
import Derived.Test.YtcnkndmegnfofaaChecked
import Derived.WalkKit
set_option linter.unusedVariables false
set_option linter.unusedSimpArgs false

/- What a row's arguments are, as trees. Of no program. -/
set_option linter.unusedVariables false
set_option linter.unusedSimpArgs false
namespace Go.Proofs.YtcnkndmegnfofaaX
open Go Go.RowKit

def aggTy (P : Program) (t : TypeId) : Bool := match P.underlying t with | some (.struct _) => true | some (.array _ _) => true | _ => false

/-- What trees a type has. -/
def ShapeW (P : Program) : Nat → TypeId → T → Prop
  | 0, _, _ => False
  | n + 1, t, x => match P.underlying t with
    | some .bool => ∃ b, x = .imm (.bool b)
    | some (.int k) => ∃ i, x = .imm (.int k i) ∧ (Lit.int k i).wf = true
    | some .string => ∃ s : ByteArray, x = .imm (.string s) ∧ s.size ≤ maxLen
    | some (.slice e) => ∃ full l, x = .sl (P.cellsOf e) full l ∧ l.length ≤ maxLen ∧ ∀ y ∈ l, ShapeW P n e y
    | some (.struct fs) => ∃ ys : List T, x = .agg (ys.flatMap T.cells) ∧ ys.length = fs.size ∧ ∀ (i : Nat) (f : Field) (y : T), fs[i]? = some f → ys[i]? = some y → ShapeW P n f.type y
    | some (.array k e) => ∃ ys : List T, x = .agg (ys.flatMap T.cells) ∧ ys.length = k ∧ ∀ y ∈ ys, ShapeW P n e y
    | _ => x = .junk
/-- The fields of a struct, the elements of an array lie one behind the other. -/
def tileF (P : Program) : Nat → List Field → Option Nat
  | o, [] => some o
  | o, f :: fs => if f.offset = o then tileF P (o + P.cellsOf f.type) fs else none
def tile (P : Program) (t : TypeId) : Bool := match P.underlying t with
  | some (.struct fs) => tileF P 0 fs.toList == some (P.cellsOf t)
  | some (.array n e) => n * P.cellsOf e == P.cellsOf t
  | _ => true
/-- Types, with all that they are made of. -/
def typesOk (P : Program) (L : List TypeId) : Bool := L.all fun t => tile P t && (match P.underlying t with
  | some (.slice e) => L.contains e
  | some (.struct fs) => fs.toList.all fun f => L.contains f.type
  | some (.array _ e) => L.contains e
  | _ => true)
theorem typesOk_at {P : Program} {L : List TypeId} (h : typesOk P L = true) {t : TypeId} (ht : t ∈ L) : tile P t = true ∧ (∀ e, P.underlying t = some (.slice e) → e ∈ L) ∧ (∀ fs, P.underlying t = some (.struct fs) → ∀ (i : Nat) (f : Field), fs[i]? = some f → f.type ∈ L) ∧ (∀ n e, P.underlying t = some (.array n e) → e ∈ L) := by
  have := List.all_eq_true.1 h t ht
  rw [Bool.and_eq_true] at this
  obtain ⟨h1, h2⟩ := this
  refine ⟨h1, fun e he => ?_, fun fs he i f hf => ?_, fun n e he => ?_⟩
  · rw [he] at h2; simpa using h2
  · rw [he] at h2
    have := List.all_eq_true.1 h2 f (by rw [Array.mem_toList_iff]; exact Array.mem_of_getElem? hf)
    simpa using this
  · rw [he] at h2; simpa using h2

def noBan : Nat → Nat → Prop := fun _ _ => False
theorem E0_pc {w : World} {b j : Nat} {v : Value} (h : w.cell? ⟨b, j, none⟩ = some v) : (E0 w noBan).pc b j v := ⟨h, fun lk ⟨o, x, k1, _⟩ => by simp [E0] at k1, fun h => h⟩
theorem cell_spot {w : World} {b j : Nat} {s : Option Nat} {v : Value} (h : w.cell? ⟨b, j, s⟩ = some v) : s = none ∧ w.cell? ⟨b, j, none⟩ = some v := by
  unfold World.cell? at h ⊢
  cases s with
  | none => exact ⟨rfl, h⟩
  | some k => split at h <;> simp at h

theorem repL_flat {E : Env} {cl : Bool} : ∀ {ys : List T} {cs : List (List Value)}, ys.length = cs.length → (∀ (i : Nat) (y : T) (c : List Value), ys[i]? = some y → cs[i]? = some c → RepL E cl y.cells c) → RepL E cl (ys.flatMap T.cells) cs.flatten
  | [], [], _, _ => by simp [RepL]
  | [], _ :: _, h, _ => by simp at h
  | _ :: _, [], h, _ => by simp at h
  | y :: ys, c :: cs, h, k => by
    rw [List.flatMap_cons, List.flatten_cons]
    exact RepL.append (k 0 y c rfl rfl) (repL_flat (by simpa using h) fun i y c h1 h2 => k (i + 1) y c (by simpa using h1) (by simpa using h2))

theorem tileF_flat {P : Program} {α : Type} (cs : List α) : ∀ (fs : List Field) (o : Nat), tileF P o fs = some cs.length → cs.drop o = (fs.map fun f => (cs.drop f.offset).take (P.cellsOf f.type)).flatten
  | [], o, h => by
    simp only [tileF, Option.some.injEq] at h
    subst h; simp
  | f :: fs, o, h => by
    simp only [tileF] at h
    split at h
    · rename_i e
      rw [List.map_cons, List.flatten_cons, ← tileF_flat cs fs _ h, e]
      rw [← List.drop_drop, List.take_append_drop]
    · cases h
theorem array_flat {α : Type} (sz : Nat) : ∀ (n : Nat) (cs : List α), cs.length = n * sz → cs = ((List.range n).map fun i => (cs.drop (i * sz)).take sz).flatten
  | 0, cs, h => by simp at h; simp [h]
  | n + 1, cs, h => by
    rw [Nat.add_mul, Nat.one_mul] at h
    rw [List.range_succ_eq_map, List.map_cons, List.flatten_cons, List.map_map]
    have := array_flat sz n (cs.drop sz) (by rw [List.length_drop]; omega)
    have e : ((fun i => (cs.drop (i * sz)).take sz) ∘ Nat.succ) = fun i => ((cs.drop sz).drop (i * sz)).take sz := by
      funext i
      simp only [Function.comp, List.drop_drop, Nat.succ_mul, Nat.add_comm]
    rw [e, ← this]
    simp

/-- Two lists, told index by index. -/
theorem choose_list {α β : Type} {R : Nat → α → β → Prop} : ∀ (l : List α), (∀ (i : Nat) (x : α), l[i]? = some x → ∃ y, R i x y) → ∃ r : List β, r.length = l.length ∧ ∀ (i : Nat) (x : α) (y : β), l[i]? = some x → r[i]? = some y → R i x y := by
  intro l
  induction l generalizing R with
  | nil => intro _; exact ⟨[], rfl, fun i x y h => by simp at h⟩
  | cons a l ih =>
    intro h
    obtain ⟨y, hy⟩ := h 0 a rfl
    obtain ⟨r, h1, h2⟩ := ih (R := fun i => R (i + 1)) fun i x hx => h (i + 1) x (by simpa using hx)
    refine ⟨y :: r, by simp [h1], fun i x z hx hz => ?_⟩
    cases i with
    | zero =>
      simp only [List.getElem?_cons_zero, Option.some.injEq] at hx hz
      subst hx; subst hz; exact hy
    | succ i => exact h2 i x z (by simpa using hx) (by simpa using hz)

def Opened (P : Program) (w : World) (n : Nat) (t : TypeId) (cs : List Value) (y : T) : Prop :=
  ShapeW P n t y ∧ RepL (E0 w noBan) true y.cells cs ∧ (∀ v ∈ cs, leaf v = true) ∧ ((aggTy P t = true ∧ ∃ l, y = .agg l) ∨ (aggTy P t = false ∧ y.cells = [y] ∧ ∃ v, cs = [v]))

section
variable {H : Type} {enc : TypeId × Value → H} {P : Program} {w : World} {base : Nat} {spare : Nat → Bool} {held : Bool}

theorem opened_val {n : Nat} {t : TypeId} {cs : List Value} {y : T} (h : Opened P w n t cs y) : ∃ u : Value, u.cells.toList = cs ∧ leafU u ∧ Rep (E0 w noBan) true y u := by
  obtain ⟨h1, h2, h3, ⟨h4, l, rfl⟩ | ⟨h4, h5, v, rfl⟩⟩ := h
  · exact ⟨.agg cs.toArray, by simp [Value.cells], fun v hv => h3 v (by simpa [Value.cells] using hv), by simp only [Rep]; exact ⟨_, rfl, by simpa [T.cells] using h2⟩⟩
  · have hl := h3 v (by simp)
    have hc : v.cells.toList = [v] := by cases v <;> first | rfl | (exact absurd hl (by simp [leaf]))
    rw [h5] at h2
    simp only [RepL] at h2
    obtain ⟨v', vs', e, h2, h6⟩ := h2
    cases e
    exact ⟨v, hc, fun u hu => h3 u (by rw [hc] at hu; exact hu), h2⟩

theorem open_elems {n : Nat} {e : TypeId} {a : Addr} {len : Nat} {elems : List (DataW H × List MemPlace)} (ih : ∀ (cs : List Value) (x : DataW H × List MemPlace), DataW.trod enc P w base spare held n e cs = some x → ∃ y, Opened P w n e cs y)
    (hlen : elems.length = len) (hel : ∀ i, i < len → (w.cells? base (a.add (i * P.cellsOf e)) (P.cellsOf e)).bind (DataW.trod enc P w base spare held n e) = elems[i]?) :
    ∀ k, k ≤ len → ∃ (ys : List T) (c : List Value), ys.length = k ∧ (∀ y ∈ ys, ShapeW P n e y) ∧ RepR (E0 w noBan) (P.cellsOf e) ys c ∧ ∀ j v, c[j]? = some v → a.spot = none ∧ w.cell? ⟨a.block, a.off + j, none⟩ = some v
  | 0, _ => ⟨[], [], rfl, by simp, by simp [RepR], fun j v h => by simp at h⟩
  | k + 1, hk => by
    obtain ⟨ys, c, h1, h2, h3, h4⟩ := open_elems ih hlen hel k (by omega)
    have := hel k (by omega)
    rw [List.getElem?_eq_getElem (by omega)] at this
    obtain ⟨cs, h5, h6⟩ := Option.bind_eq_some_iff.1 this
    obtain ⟨y, hy⟩ := ih _ _ h6
    obtain ⟨u, h7, h8, h9⟩ := opened_val hy
    have hcells : cs.length = P.cellsOf e ∧ ∀ j v, cs[j]? = some v → w.cell? ((a.add (k * P.cellsOf e)).add j) = some v := by
      unfold World.cells? at h5
      split at h5
      · have hl := mapM_some_length h5
        rw [List.length_range] at hl
        refine ⟨hl, fun j v hj => ?_⟩
        have hjl := (List.getElem?_eq_some_iff.1 hj).1
        rw [mapM_some_get h5 j j (by rw [List.getElem?_range (by omega)]), hj]
      · cases h5
    have hcl : c.length = k * P.cellsOf e := by rw [RepR.length h3, h1]
    refine ⟨ys ++ [y], c ++ cs, by simp [h1], ?_, ?_, ?_⟩
    · intro z hz
      rcases List.mem_append.1 hz with h | h
      · exact h2 z h
      · obtain rfl : z = y := by simpa using h
        exact hy.1
    · refine RepR.append h3 ?_
      simp only [RepR]
      refine ⟨u, [], by rw [h7]; simp, ⟨by rw [← Array.length_toList, h7]; exact hcells.1, h8⟩, h9, rfl⟩
    · intro j v hj
      rw [List.getElem?_append] at hj
      split at hj
      · exact h4 j v hj
      · rename_i hge
        have hc := hcells.2 _ v hj
        have e1 : ((a.add (k * P.cellsOf e)).add (j - c.length)).block = a.block ∧ ((a.add (k * P.cellsOf e)).add (j - c.length)).off = a.off + j := by
          unfold Addr.add
          constructor
          · split <;> split <;> rfl
          · by_cases e0 : k * P.cellsOf e = 0 <;> by_cases e2 : j - c.length = 0 <;> simp [e0, e2] <;> omega
        have hc0 : w.cell? ⟨a.block, a.off + j, none⟩ = some v := by
          have := cell_spot (w := w) (b := ((a.add (k * P.cellsOf e)).add (j - c.length)).block) (j := ((a.add (k * P.cellsOf e)).add (j - c.length)).off) (s := ((a.add (k * P.cellsOf e)).add (j - c.length)).spot) hc
          rw [e1.1, e1.2] at this
          exact this.2
        refine ⟨?_, hc0⟩
        by_cases hz : c = []
        · have hz0 : k * P.cellsOf e = 0 := by rw [← hcl, hz]; rfl
          cases hcs : cs with
          | nil => rw [hcs] at hj; simp at hj
          | cons v0 cs' =>
            have := hcells.2 0 v0 (by rw [hcs]; rfl)
            rw [hz0] at this
            have := cell_spot (w := w) (b := a.block) (j := a.off) (s := a.spot) (v := v0) (by simpa [Addr.add] using this)
            exact this.1
        · cases hcs : c with
          | nil => exact absurd hcs hz
          | cons v0 c' => exact (h4 0 v0 (by rw [hcs]; rfl)).1

theorem open_cells {L : List TypeId} (hT : typesOk P L = true) : ∀ (n : Nat) (t : TypeId) (cs : List Value) (x : DataW H × List MemPlace), t ∈ L → DataW.trod enc P w base spare held n t cs = some x → ∃ y, Opened P w n t cs y
  | 0, t, cs, x, _, h => by simp [DataW.trod] at h
  | n + 1, t, cs, x, hL, h => by
    obtain ⟨htile, hLs, hLf, hLa⟩ := typesOk_at hT hL
    have ih := open_cells hT n
    cases ht : P.underlying t with
    | none => unfold DataW.trod at h; rw [ht] at h; simp at h
    | some d =>
      have one : ∀ (y : T) (v : Value), aggTy P t = false → ShapeW P (n + 1) t y → y.cells = [y] → cs = [v] → leaf v = true → Rep (E0 w noBan) true y v → ∃ y, Opened P w (n + 1) t cs y := by
        intro y v ha hs hy hc hl hr
        refine ⟨y, hs, ?_, ?_, .inr ⟨ha, hy, v, hc⟩⟩
        · rw [hy, hc]; simp only [RepL]; exact ⟨v, [], rfl, hr, rfl⟩
        · rw [hc]; simpa using hl
      cases d with
      | bool =>
        obtain ⟨b, rfl, _⟩ := DataW.trod_bool ht h
        exact one (.imm (.bool b)) _ (by simp [aggTy, ht]) (by simp [ShapeW, ht]) rfl rfl rfl (by simp [Rep, flat])
      | int k =>
        obtain ⟨i, rfl, _, hw⟩ := DataW.trod_int ht h
        exact one (.imm (.int k i)) _ (by simp [aggTy, ht]) (by simp only [ShapeW, ht]; exact ⟨i, rfl, hw⟩) rfl rfl rfl (by simp [Rep, flat])
      | string =>
        obtain ⟨s, rfl, _, hw⟩ := DataW.trod_string ht h
        exact one (.imm (.string s)) _ (by simp [aggTy, ht]) (by simp only [ShapeW, ht]; exact ⟨s, rfl, hw⟩) rfl rfl rfl (by simp [Rep, flat])
      | slice e =>
        rcases DataW.trod_slice ht h with ⟨rfl, _⟩ | ⟨a, len, cap, elems, rest, m, hm, rfl, _, hb, hl, hc, hlen, hel, _⟩
        · refine one (.sl (P.cellsOf e) true []) _ (by simp [aggTy, ht]) (by simp only [ShapeW, ht]; exact ⟨true, [], rfl, by simp, by simp⟩) rfl rfl rfl ?_
          simp only [Rep]
          exact ⟨none, 0, [], rfl, Nat.le_refl _, fun _ => rfl, by simp [RepR], fun j v hj => by simp at hj⟩
        · obtain rfl : n = m := by omega
          obtain ⟨ys, c, h1, h2, h3, h4⟩ := open_elems (fun cs x => ih e cs x (hLs e ht)) hlen hel len (Nat.le_refl _)
          refine one (.sl (P.cellsOf e) false ys) _ (by simp [aggTy, ht]) (by simp only [ShapeW, ht]; exact ⟨false, ys, rfl, by omega, h2⟩) rfl rfl rfl ?_
          simp only [Rep]
          refine ⟨some a, cap, c, by rw [h1], by omega, (fun h => by cases h), h3, fun j v hj => ?_⟩
          obtain ⟨h5, h6⟩ := h4 j v hj
          exact ⟨a.block, a.off, by cases a; simp at h5 ⊢; exact h5, E0_pc h6⟩
      | struct fs =>
        obtain ⟨xs, m, hm, _, hl, hxl, hx⟩ := DataW.trod_struct ht h
        obtain rfl : n = m := by omega
        simp only [tile, ht, beq_iff_eq] at htile
        rw [← hl] at htile
        have hflat := tileF_flat cs fs.toList 0 htile
        rw [List.drop_zero] at hflat
        obtain ⟨ys, hy1, hy2⟩ := choose_list (R := fun i f y => Opened P w n f.type ((cs.drop f.offset).take (P.cellsOf f.type)) y) fs.toList fun i f hf => by
          have hf' : fs[i]? = some f := by simpa using hf
          have := hx i f hf'
          have hil := (Array.getElem?_eq_some_iff.1 hf').1
          rw [List.getElem?_eq_getElem (by omega)] at this
          exact ih _ _ _ (hLf fs ht i f hf') this
        replace hy1 : ys.length = fs.size := by rw [hy1]; simp
        have hya : ∀ (i : Nat) (y : T), ys[i]? = some y → ∃ f, fs[i]? = some f ∧ Opened P w n f.type ((cs.drop f.offset).take (P.cellsOf f.type)) y := by
          intro i y hy
          have hil := (List.getElem?_eq_some_iff.1 hy).1
          have : fs[i]? = some fs[i] := Array.getElem?_eq_getElem (by omega)
          exact ⟨_, this, hy2 i _ y (by rw [Array.getElem?_toList]; exact this) hy⟩
        refine ⟨.agg (ys.flatMap T.cells), ?_, ?_, ?_, .inl ⟨by simp [aggTy, ht], _, rfl⟩⟩
        · simp only [ShapeW, ht]
          exact ⟨ys, rfl, hy1, fun i f y hf hy => (hy2 i f y (by simpa using hf) hy).1⟩
        · show RepL _ _ (ys.flatMap T.cells) cs
          rw [hflat]
          refine repL_flat (by simp [hy1]) fun i y c hy hc => ?_
          rw [List.getElem?_map] at hc
          obtain ⟨f, hf, rfl⟩ := Option.map_eq_some_iff.1 hc
          exact (hy2 i f y hf hy).2.1
        · intro v hv
          rw [hflat] at hv
          obtain ⟨c, hc, hv⟩ := List.mem_flatten.1 hv
          obtain ⟨f, hf, rfl⟩ := List.mem_map.1 hc
          obtain ⟨i, hi⟩ := List.mem_iff_getElem?.1 hf
          obtain ⟨y, hy⟩ : ∃ y, ys[i]? = some y := ⟨ys[i]'(by have := (List.getElem?_eq_some_iff.1 hi).1; rw [Array.length_toList] at this; omega), List.getElem?_eq_getElem _⟩
          exact (hy2 i f y hi hy).2.2.1 v hv
      | array k e =>
        simp only [tile, ht, beq_iff_eq] at htile
        unfold DataW.trod at h
        rw [ht] at h
        obtain ⟨hl, hm⟩ : cs.length = P.cellsOf t ∧ ∃ xs, ((List.range k).mapM fun i => DataW.trod enc P w base spare held n e ((cs.drop (i * P.cellsOf e)).take (P.cellsOf e))) = some xs := by
          split at h <;> simp_all
          obtain ⟨_, xs, hp, _⟩ := h
          exact ⟨xs, hp⟩
        obtain ⟨xs, hm⟩ := hm
        have hxl := mapM_some_length hm
        rw [List.length_range] at hxl
        have hflat := array_flat (P.cellsOf e) k cs (by rw [hl, htile])
        obtain ⟨ys, hy1, hy2⟩ := choose_list (R := fun i (j : Nat) y => Opened P w n e ((cs.drop (i * P.cellsOf e)).take (P.cellsOf e)) y) (List.range k) fun i j hj => by
          have hil : i < k := by have := (List.getElem?_eq_some_iff.1 hj).1; simpa using this
          have := mapM_some_get hm i i (List.getElem?_range hil)
          rw [List.getElem?_eq_getElem (by omega)] at this
          exact ih _ _ _ (hLa k e ht) this
        rw [List.length_range] at hy1
        have hya : ∀ (i : Nat) (y : T), ys[i]? = some y → Opened P w n e ((cs.drop (i * P.cellsOf e)).take (P.cellsOf e)) y := fun i y hy => hy2 i i y (List.getElem?_range (by have := (List.getElem?_eq_some_iff.1 hy).1; omega)) hy
        refine ⟨.agg (ys.flatMap T.cells), ?_, ?_, ?_, .inl ⟨by simp [aggTy, ht], _, rfl⟩⟩
        · simp only [ShapeW, ht]
          refine ⟨ys, rfl, hy1, fun y hy => ?_⟩
          obtain ⟨i, hi⟩ := List.mem_iff_getElem?.1 hy
          exact (hya i y hi).1
        · show RepL _ _ (ys.flatMap T.cells) cs
          rw [hflat]
          refine repL_flat (by simp [hy1]) fun i y c hy hc => ?_
          rw [List.getElem?_map] at hc
          obtain ⟨j, hj, rfl⟩ := Option.map_eq_some_iff.1 hc
          obtain ⟨hjl, hj⟩ := List.getElem?_eq_some_iff.1 hj
          rw [List.getElem_range] at hj
          subst hj
          exact (hya i y hy).2.1
        · intro v hv
          rw [hflat] at hv
          obtain ⟨c, hc, hv⟩ := List.mem_flatten.1 hv
          obtain ⟨i, hi, rfl⟩ := List.mem_map.1 hc
          have hik : i < k := by simpa using hi
          exact (hya i _ (List.getElem?_eq_getElem (by omega))).2.2.1 v hv
      | _ =>
        obtain ⟨v, rfl, hv⟩ : ∃ v, cs = [v] ∧ leaf v = true := by
          unfold DataW.trod at h
          rw [ht] at h
          split at h <;> first | exact ⟨_, rfl, rfl⟩ | (rename_i h1; cases h1; done) | (cases h; done) | (rename_i h1 _; cases h1; done)
        exact one .junk v (by simp [aggTy, ht]) (by simp [ShapeW, ht]) rfl rfl hv (by simp only [Rep])
end
end Go.Proofs.YtcnkndmegnfofaaX

/- A law's row, of what its function answers of trees. Of no program. -/
set_option linter.unusedVariables false
set_option linter.unusedSimpArgs false
namespace Go.Proofs.YtcnkndmegnfofaaX
open Go Go.RowKit Go.ChangeShapes Go.WideShapes

def ShapesW (P : Program) : List TypeId → List T → Prop
  | [], xs => xs = []
  | t :: ts, xs => ∃ x xs', xs = x :: xs' ∧ (∃ n, ShapeW P n t x) ∧ ShapesW P ts xs'

theorem agg_no {P : Program} {w : World} {r : Reach} {base : Nat} {t : TypeId} {cs : Array Value} (h : Value.okWide P w r base t (.agg cs)) : aggTy P t = true := by
  unfold Value.okWide at h
  unfold aggTy
  cases ht : P.underlying t with
  | none => simp [ht, Cell.okWide, Cell.ok] at h
  | some d => cases d <;> simp [ht, Cell.okWide, Cell.ok] at h ⊢
theorem agg_yes {P : Program} {w : World} {r : Reach} {base : Nat} {t : TypeId} {v : Value} (h : Value.okWide P w r base t v) (ha : aggTy P t = true) : ∃ cs, v = .agg cs := by
  unfold Value.okWide at h
  unfold aggTy at ha
  cases ht : P.underlying t with
  | none => rw [ht] at ha; cases ha
  | some d =>
    rw [ht] at h ha
    cases d <;> simp at ha <;> exact ⟨_, h.choose_spec.1⟩

theorem open_args {H : Type} {enc : TypeId × Value → H} {P : Program} {w : World} {r : Reach} {b0 base : Nat} {spare : Nat → Bool} {held : Bool} {L : List TypeId} (hT : typesOk P L = true) : ∀ (ts : List TypeId) (vs : List Value) (ds : List (DataW H)) (ps : List MemPlace), (∀ t ∈ ts, t ∈ L) →
    DataW.TrodAll enc P w base spare held ts vs ds ps → (∀ (j : Nat) t v, ts[j]? = some t → vs[j]? = some v → Value.okWide P w r b0 t v) → ∃ xs, ShapesW P ts xs ∧ RepL (E0 w noBan) true xs vs
  | [], vs, ds, ps, _, h, _ => by
    obtain ⟨rfl, rfl, rfl⟩ := trodAll_nil h
    exact ⟨[], rfl, by simp [RepL]⟩
  | t :: ts, vs, ds, ps, hL, h, hval => by
    obtain ⟨v, vs', d, ds', p, q, rfl, rfl, rfl, ⟨n, h1⟩, h2⟩ := trodAll_cons h
    obtain ⟨xs, h3, h4⟩ := open_args hT ts vs' ds' q (fun t ht => hL t (by simp [ht])) h2 fun j t v h1 h2 => hval (j + 1) t v (by simpa using h1) (by simpa using h2)
    obtain ⟨y, hy1, hy2, hy3, hy4⟩ := open_cells hT n t _ _ (hL t (by simp)) h1
    have hv := hval 0 t v rfl rfl
    refine ⟨y :: xs, ⟨y, xs, rfl, ⟨n, hy1⟩, h3⟩, ?_⟩
    simp only [RepL]
    refine ⟨v, vs', rfl, ?_, h4⟩
    rcases hy4 with ⟨ha, l, rfl⟩ | ⟨ha, hc, u, hu⟩
    · obtain ⟨cs, rfl⟩ := agg_yes hv ha
      simp only [Rep]
      exact ⟨cs, rfl, by simpa [T.cells, Value.cells] using hy2⟩
    · have hna : v.cells.toList = [v] := by
        cases v <;> first | rfl | (have := agg_no hv; rw [ha] at this; cases this)
      rw [hc, hna] at hy2
      simp only [RepL] at hy2
      obtain ⟨v', vs'', e, h5, _⟩ := hy2
      cases e
      exact h5

theorem carry_args {H : Type} {enc : TypeId × Value → H} {P : Program} {W W' : World} (hl : laidOutB P = true) (bel : Below W.heap.size W W') : ∀ (ts : List TypeId) (vs : List Value) (ds : List (DataW H)) (ps : List MemPlace), (∀ t ∈ ts, P.readableRec t = true ∧ t < P.types.size) →
    DataW.TrodAll enc P W 0 (fun _ => true) true ts vs ds ps → DataW.TrodAll enc P W' 0 (fun b => decide (b < W.heap.size)) true ts vs ds ps
  | [], vs, ds, ps, _, h => by
    obtain ⟨rfl, rfl, rfl⟩ := trodAll_nil h
    exact trodAll_mk0
  | t :: ts, vs, ds, ps, hr, h => by
    obtain ⟨v, vs', d, ds', p, q, rfl, rfl, rfl, h1, h2⟩ := trodAll_cons h
    refine trodAll_cons_mk (Below.trod hl (hr t (by simp)).1 (hr t (by simp)).2 h1 bel fun x hx => ?_) (carry_args hl bel ts vs' ds' q (fun t ht => hr t (by simp [ht])) h2)
    obtain ⟨n, hn⟩ := h1
    exact DataW.trod_lt n _ _ _ hn x hx

theorem trodAll_len {H : Type} {enc : TypeId × Value → H} {P : Program} {w : World} {base : Nat} {spare : Nat → Bool} {held : Bool} : ∀ {ts : List TypeId} {vs : List Value} {ds : List (DataW H)} {ps : List MemPlace}, DataW.TrodAll enc P w base spare held ts vs ds ps → ds.length = ts.length
  | [], _, _, _, h => by
    obtain ⟨rfl, rfl, _⟩ := trodAll_nil h
    rfl
  | _ :: _, _, _, _, h => by
    obtain ⟨v, vs1, d, ds1, a, b, rfl, rfl, rfl, _, h2⟩ := trodAll_cons h
    simp [trodAll_len h2]
/-- What a row's form asks of its function, by what that answers of trees. -/
theorem row_contract {P : Program} {f : FuncId} {fn : Func} {s : ChangeSpec} {ts : List TypeId} {tb : TypeId} {L : List TypeId}
    (hl : laidOutB P = true) (hT : typesOk P L = true) (hp : fn.params.toList = ts) (hr : (ts.all fun t => L.contains t && P.readableRec t && decide (t < P.types.size)) = true)
    (hres : fn.resultTypes = #[tb]) (htb : P.underlying tb = some .bool) (hvars : s.vars = [])
    (hs : ∀ (H : Type) (ds : List (DataW H)), ds.length = ts.length → s.fn H ds = { results := [.lit (.bool true)], args := ds })
    (hlaw : ∀ xs, ShapesW P ts xs → FnC P f xs (.imm (.bool true)))
    {H : Type} {enc : TypeId × Value → H} (W : World) (base : Nat) (args : Array Value) (ds gs : List (DataW H)) (before : List MemPlace)
    (hval : ∀ (j : Nat) t v, fn.params[j]? = some t → args[j]? = some v → Value.okWide P W .any base t v) (hW : DataW.Whole enc P fn.params.toList s.vars false W args.toList ds gs before) :
    Calls P f args W fun e W' => ∃ v, e = .returned v ∧ s.post enc P fn false true false false W args v W' := by
  have hW' := hW
  obtain ⟨p, q, hA, hV, rfl, hfz, hnd⟩ := hW
  rw [hvars] at hV
  obtain ⟨rfl, rfl⟩ := trodVars_none hV
  rw [hp] at hA
  have hr' : ∀ t ∈ ts, t ∈ L ∧ P.readableRec t = true ∧ t < P.types.size := fun t ht => by
    have := List.all_eq_true.1 hr t ht
    simp only [Bool.and_eq_true, List.contains_iff_mem, decide_eq_true_eq] at this
    exact ⟨this.1.1, this.1.2, this.2⟩
  obtain ⟨xs, h1, h2⟩ := open_args (r := .any) (b0 := base) hT ts args.toList ds p (fun t ht => (hr' t ht).1) hA fun j t v h1 h2 => hval j t v (by rw [← hp] at h1; simpa using h1) (by simpa using h2)
  have hlen : ds.length = ts.length := trodAll_len hA
  refine ((hlaw xs h1).2 W noBan args (fun _ _ h => h.elim) h2).mono fun e W' ⟨u, he, bel, hu⟩ => ?_
  simp only [Rep, flat, and_true] at hu
  subst hu; subst he
  refine ⟨_, rfl, ds, [], p ++ [], [], p, [], hW', ?_, ?_, ?_, bel.frame _, fun h => by cases h⟩
  · rw [List.append_nil, hs H ds hlen, hres]
    have : (Value.bool true).resultList (#[tb] : Array TypeId).size = [.bool true] := by simp [Value.resultList]
    rw [this]
    exact trodAll_mk1 (shut_bool htb _)
  · rw [List.append_nil, hs H ds hlen, hp]
    exact carry_args hl bel ts _ _ _ (fun t ht => (hr' t ht).2) hA
  · rw [List.append_nil, hs H ds hlen, hvars]
    rfl
end Go.Proofs.YtcnkndmegnfofaaX

/- What an operation answers is one thing. Of no program. -/
set_option linter.unusedVariables false
set_option linter.unusedSimpArgs false
namespace Go.Proofs.YtcnkndmegnfofaaX
open Go Go.RowKit

theorem partW_split (P : Program) (t : TypeId) (l : List T) (off : Nat) {K : T → Prop} (h : partW P t l off K) : ∃ v, K v ∧ ∀ K' : T → Prop, K' v → partW P t l off K' := by
  unfold partW at h ⊢
  repeat' (first | (obtain ⟨_, h⟩ := h) | split at h)
  all_goals first | exact h.elim | exact ⟨_, h, fun K' hk => by simp_all⟩
theorem extractW_split (x : T) (i : Nat) {K : T → Prop} (h : extractW x i K) : ∃ v, K v ∧ ∀ K' : T → Prop, K' v → extractW x i K' := by
  unfold extractW at h ⊢
  repeat' (first | (obtain ⟨_, h⟩ := h) | split at h)
  all_goals first | exact h.elim | exact ⟨_, h, fun K' hk => by simp_all⟩
theorem unW_split (op : UnOp) (x : T) {K : T → Prop} (h : unW op x K) : ∃ v, K v ∧ ∀ K' : T → Prop, K' v → unW op x K' := by
  unfold unW at h ⊢
  repeat' (first | (obtain ⟨_, h⟩ := h) | split at h)
  all_goals first | exact h.elim | exact ⟨_, h, fun K' hk => by simp_all⟩
theorem loadP_split (P : Program) (t : TypeId) (x : T) (c : Nat) {K : T → Prop} (h : loadP P t x c K) : ∃ v, K v ∧ ∀ K' : T → Prop, K' v → loadP P t x c K' := by
  unfold loadP at h ⊢
  repeat' (first | (obtain ⟨_, h⟩ := h) | split at h)
  all_goals first | exact h.elim | exact ⟨_, h, fun K' hk => by simp_all⟩
theorem indexAddrW_split (P : Program) (t : TypeId) (x i : T) {K : T → Prop} (h : indexAddrW P t x i K) : ∃ v, K v ∧ ∀ K' : T → Prop, K' v → indexAddrW P t x i K' := by
  unfold indexAddrW at h ⊢
  repeat' (first | (obtain ⟨_, h⟩ := h) | split at h)
  all_goals first | exact h.elim | exact ⟨_, h, fun K' hk => by simp_all⟩
theorem endsW_split (lo hi : Option T) (len : Nat) {K : Nat → Nat → Prop} (h : endsW lo hi len K) : ∃ l r, K l r ∧ ∀ K' : Nat → Nat → Prop, K' l r → endsW lo hi len K' := by
  unfold endsW at h ⊢
  repeat' (first | (obtain ⟨_, h⟩ := h) | split at h)
  all_goals first | exact h.elim | exact ⟨_, _, h, fun K' hk => by simp_all⟩
theorem elemsW_split (x : T) (look : Nat → Option Own) {K : Nat → List T → Prop} (h : elemsW x look K) : ∃ n l, K n l ∧ ∀ K' : Nat → List T → Prop, K' n l → elemsW x look K' := by
  unfold elemsW at h ⊢
  repeat' (first | (obtain ⟨_, h⟩ := h) | split at h)
  all_goals first | exact h.elim | exact ⟨_, _, h, fun K' hk => by simp_all⟩
theorem buildW_split (P : Program) (t : TypeId) (parts : List (Nat × T)) {K : T → Prop} (h : buildW P t parts K) : ∃ v, K v ∧ ∀ K' : T → Prop, K' v → buildW P t parts K' := by
  unfold buildW at h ⊢
  repeat' (first | (obtain ⟨_, h⟩ := h) | split at h)
  all_goals first | exact h.elim | exact ⟨_, h, fun K' hk => by simp_all⟩
theorem buildSliceW_split (P : Program) (t : TypeId) (n : Nat) (parts : List (Nat × T)) {K : T → Prop} (h : buildSliceW P t n parts K) : ∃ v, K v ∧ ∀ K' : T → Prop, K' v → buildSliceW P t n parts K' := by
  unfold buildSliceW at h ⊢
  repeat' (first | (obtain ⟨_, h⟩ := h) | split at h)
  all_goals first | exact h.elim | exact ⟨_, h, fun K' hk => by simp_all⟩
theorem makeW_split (P : Program) (k : Nat) (t : TypeId) (x y : T) {K : T → Eff → Prop} (h : makeW P k t x y K) : ∃ v e, K v e ∧ ∀ K' : T → Eff → Prop, K' v e → makeW P k t x y K' := by
  unfold makeW at h ⊢
  repeat' (first | (obtain ⟨_, h⟩ := h) | split at h)
  all_goals first | exact h.elim | exact ⟨_, _, h, fun K' hk => by simp_all⟩
theorem storeW_split (P : Program) (t : TypeId) (a y : T) (look : Nat → Option Own) {K : T → Eff → Prop} (h : storeW P t a y look K) : ∃ v e, K v e ∧ ∀ K' : T → Eff → Prop, K' v e → storeW P t a y look K' := by
  unfold storeW at h ⊢
  repeat' (first | (obtain ⟨_, h⟩ := h) | split at h)
  all_goals first | exact h.elim | exact ⟨_, _, h, fun K' hk => by simp_all⟩
theorem fieldAddrW_split (P : Program) (t : TypeId) (x : T) (f : Nat) {K : T → Prop} (h : fieldAddrW P t x f K) : ∃ v, K v ∧ ∀ K' : T → Prop, K' v → fieldAddrW P t x f K' := by
  unfold fieldAddrW at h ⊢
  repeat' (first | (obtain ⟨_, h⟩ := h) | split at h)
  all_goals first | exact h.elim | exact ⟨_, h, fun K' hk => by simp_all⟩
theorem nilW_split (x : T) {K : T → Eff → Prop} (h : nilW x K) : ∃ v e, K v e ∧ ∀ K' : T → Eff → Prop, K' v e → nilW x K' := by
  unfold nilW at h ⊢
  repeat' (first | (obtain ⟨_, h⟩ := h) | split at h)
  all_goals first | exact h.elim | exact ⟨_, _, h, fun K' hk => by simp_all⟩
theorem lenW_split (P : Program) (t : TypeId) (x : T) {K : T → Prop} (h : lenW P t x K) : ∃ v, K v ∧ ∀ K' : T → Prop, K' v → lenW P t x K' := by
  unfold lenW at h ⊢
  repeat' (first | (obtain ⟨_, h⟩ := h) | split at h)
  all_goals first | exact h.elim | exact ⟨_, h, fun K' hk => by simp_all⟩
theorem min2W_split (x y : T) {K : T → Prop} (h : min2W x y K) : ∃ v, K v ∧ ∀ K' : T → Prop, K' v → min2W x y K' := by
  unfold min2W at h ⊢
  split at h
  · exact ⟨_, h, fun K' hk => hk⟩
  · exact h.elim
theorem max2W_split (x y : T) {K : T → Prop} (h : max2W x y K) : ∃ v, K v ∧ ∀ K' : T → Prop, K' v → max2W x y K' := by
  unfold max2W at h ⊢
  split at h
  · exact ⟨_, h, fun K' hk => hk⟩
  · exact h.elim
theorem ifaceW_split (P : Program) (t : TypeId) (x : T) {K : T → Eff → Prop} (h : ifaceW P t x K) : ∃ v e, K v e ∧ ∀ K' : T → Eff → Prop, K' v e → ifaceW P t x K' := by
  unfold ifaceW at h ⊢
  repeat' (first | (obtain ⟨_, h⟩ := h) | split at h)
  all_goals first | exact h.elim | exact ⟨_, _, h, fun K' hk => by simp_all⟩
theorem pickW_split (c x y : T) {K : T → Eff → Prop} (h : pickW c x y K) : ∃ v e, K v e ∧ ∀ K' : T → Eff → Prop, K' v e → pickW c x y K' := by
  unfold pickW at h ⊢
  split at h
  · rename_i b
    cases b with
    | true => exact ⟨_, _, h.1 rfl, fun K' hk => ⟨fun _ => hk, fun e => by cases e⟩⟩
    | false => exact ⟨_, _, h.2 rfl, fun K' hk => ⟨fun e => absurd e (by simp), fun _ => hk⟩⟩
  · exact h.elim
theorem intW_split (op : BinOp) (k : IntKind) (x y : Int) {K : T → Prop} (h : intW op k x y K) : ∃ v, K v ∧ ∀ K' : T → Prop, K' v → intW op k x y K' := by
  unfold intW at h ⊢
  cases op <;> simp only at h ⊢ <;> first | exact h.elim | exact ⟨_, h, fun K' hk => hk⟩ | exact ⟨_, h.2, fun K' hk => ⟨h.1, hk⟩⟩
theorem strW_split (op : BinOp) (x y : ByteArray) {K : T → Prop} (h : strW op x y K) : ∃ v, K v ∧ ∀ K' : T → Prop, K' v → strW op x y K' := by
  unfold strW at h ⊢
  cases op <;> simp only at h ⊢ <;> first | exact h.elim | exact ⟨_, h, fun K' hk => hk⟩ | exact ⟨_, h.2, fun K' hk => ⟨h.1, hk⟩⟩
theorem fieldW_split (P : Program) (t : TypeId) (x : T) (f : Nat) {K : T → Prop} (h : fieldW P t x f K) : ∃ v, K v ∧ ∀ K' : T → Prop, K' v → fieldW P t x f K' := by
  unfold fieldW at h ⊢
  split at h
  · split at h
    · obtain ⟨v, h1, h2⟩ := partW_split _ _ _ _ h
      exact ⟨v, h1, fun K' hk => by have := h2 K' hk; simp_all⟩
    · exact h.elim
  · exact h.elim
theorem indexW_split (P : Program) (t : TypeId) (x i : T) {K : T → Prop} (h : indexW P t x i K) : ∃ v, K v ∧ ∀ K' : T → Prop, K' v → indexW P t x i K' := by
  unfold indexW at h ⊢
  split at h
  · obtain ⟨h1, h2, h3, h4⟩ := h
    exact ⟨_, h4, fun K' hk => ⟨h1, h2, h3, hk⟩⟩
  · split at h
    · rename_i n e ht
      obtain ⟨h1, h2, h3, h4⟩ := h
      obtain ⟨v, h5, h6⟩ := partW_split _ _ _ _ h4
      exact ⟨v, h5, fun K' hk => ⟨h1, h2, h3, h6 K' hk⟩⟩
    · exact h.elim
  · exact h.elim
theorem loadW_split (P : Program) (t : TypeId) (a : T) (look : Nat → Option Own) {K : T → Prop} (h : loadW P t a look K) : ∃ v, K v ∧ ∀ K' : T → Prop, K' v → loadW P t a look K' := by
  unfold loadW at h ⊢
  split at h
  · split at h
    · rename_i hl
      obtain ⟨h1, h2⟩ := h
      obtain ⟨v, h5, h6⟩ := loadP_split _ _ _ _ h2
      exact ⟨v, h5, fun K' hk => ⟨h1, h6 K' hk⟩⟩
    · rename_i hl
      obtain ⟨h1, h2, h3, h4⟩ := h
      obtain ⟨v, h5, h6⟩ := loadP_split _ _ _ _ h4
      exact ⟨v, h5, fun K' hk => ⟨h1, h2, h3, h6 K' hk⟩⟩
    · exact h.elim
  · obtain ⟨h1, h2⟩ := h
    obtain ⟨v, h5, h6⟩ := loadP_split _ _ _ _ h2
    exact ⟨v, h5, fun K' hk => ⟨h1, h6 K' hk⟩⟩
  · exact h.elim
theorem sliceW_split (P : Program) (t : TypeId) (x : T) (lo hi : Option T) (look : Nat → Option Own) {K : T → Prop} (h : sliceW P t x lo hi look K) : ∃ v, K v ∧ ∀ K' : T → Prop, K' v → sliceW P t x lo hi look K' := by
  unfold sliceW at h ⊢
  split at h
  · rename_i ht
    obtain ⟨l, r, h1, h2⟩ := endsW_split _ _ _ h
    exact ⟨_, h1, fun K' hk => h2 (fun l r => K' _) hk⟩
  · rename_i ht
    obtain ⟨h3, h4, h⟩ := h
    obtain ⟨l, r, h1, h2⟩ := endsW_split _ _ _ h
    exact ⟨_, h1, fun K' hk => ⟨h3, h4, h2 (fun l r => K' _) hk⟩⟩
  · rename_i ht
    obtain ⟨h3, h4, h⟩ := h
    obtain ⟨l, r, h1, h2⟩ := endsW_split _ _ _ h
    exact ⟨_, h1, fun K' hk => ⟨h3, h4, h2 (fun l r => K' _) hk⟩⟩
  · exact h.elim
theorem convertW_split (P : Program) (k : Nat) (src dst : TypeId) (x : T) (look : Nat → Option Own) {K : T → Eff → Prop} (h : convertW P k src dst x look K) : ∃ v e, K v e ∧ ∀ K' : T → Eff → Prop, K' v e → convertW P k src dst x look K' := by
  unfold convertW at h ⊢
  split at h
  · rename_i h1 h2; exact ⟨_, _, h, fun K' hk => hk⟩
  · rename_i h1 h2; exact ⟨_, _, h, fun K' hk => hk⟩
  · rename_i h1 h2; exact ⟨_, _, h.2, fun K' hk => ⟨h.1, hk⟩⟩
  · rename_i h1 h2
    obtain ⟨h3, h⟩ := h
    obtain ⟨n, l, ⟨h4, h5, h6⟩, h7⟩ := elemsW_split _ _ h
    exact ⟨_, _, h6, fun K' hk => ⟨h3, h7 (fun sz l => sz = 1 ∧ (∀ y ∈ l, isByte y = true) ∧ K' (.imm (.string (strT l))) .none) ⟨h4, h5, hk⟩⟩⟩
  · exact h.elim
theorem newsW_split (P : Program) (xT : TypeId) (x : T) (look : Nat → Option Own) {K : Nat → List T → Prop} (h : newsW P xT x look K) : ∃ n l, K n l ∧ ∀ K' : Nat → List T → Prop, K' n l → newsW P xT x look K' := by
  unfold newsW at h ⊢
  split at h
  · rename_i h1; exact ⟨_, _, h, fun K' hk => hk⟩
  · rename_i h1
    obtain ⟨n, l, h2, h3⟩ := elemsW_split _ _ h
    exact ⟨n, l, h2, fun K' hk => h3 K' hk⟩
  · exact h.elim
theorem appendW_split (P : Program) (k : Nat) (sT xT : TypeId) (s x : T) (look : Nat → Option Own) {K : T → Eff → Prop} (h : appendW P k sT xT s x look K) : ∃ v e, K v e ∧ ∀ K' : T → Eff → Prop, K' v e → appendW P k sT xT s x look K' := by
  unfold appendW at h ⊢
  split at h
  · rename_i e ht
    obtain ⟨h1, h2, h3, h4, h⟩ := h
    obtain ⟨n, l, ⟨h5, h⟩, h7⟩ := newsW_split _ _ _ _ h
    split at h
    · obtain ⟨h8, h9, h10, h⟩ := h
      exact ⟨_, _, h, fun K' hk => ⟨h1, h2, h3, h4, h7 _ ⟨h5, h8, h9, h10, hk⟩⟩⟩
    · split at h
      · rename_i hl
        obtain ⟨h8, h9, h10, h11, h12, h13, h14, h⟩ := h
        exact ⟨_, _, h, fun K' hk => ⟨h1, h2, h3, h4, h7 _ ⟨h5, ⟨h8, h9, h10, h11, h12, h13, h14, hk⟩⟩⟩⟩
      · exact h.elim
    · exact h.elim
  · exact h.elim
theorem binW_split (P : Program) (t : TypeId) (op : BinOp) (x y : T) {K : T → Prop} (h : binW P t op x y K) : ∃ v, K v ∧ ∀ K' : T → Prop, K' v → binW P t op x y K' := by
  unfold binW at h ⊢
  split at h
  · unfold binV at h ⊢
    split at h
    · split at h
      · exact ⟨_, h.2, fun K' hk => ⟨h.1, hk⟩⟩
      · exact ⟨_, h.2, fun K' hk => ⟨h.1, hk⟩⟩
      · rename_i n1 n2
        obtain ⟨v, h1, h2⟩ := intW_split _ _ _ _ h.2
        refine ⟨v, h1, fun K' hk => ?_⟩
        have := h2 K' hk
        cases op <;> first | exact ⟨h.1, this⟩ | exact absurd rfl (by assumption) | simp_all
    · obtain ⟨v, h1, h2⟩ := strW_split _ _ _ h
      exact ⟨v, h1, h2⟩
    · obtain ⟨h1, h⟩ := h
      cases op <;> simp only at h ⊢ <;> first | exact h.elim | exact ⟨_, h, fun K' hk => ⟨h1, hk⟩⟩
    · exact h.elim
  · exact h.elim
theorem callW_split (P : Program) (fn : T) (args : List T) (look : Nat → Option Own) {K : T → Eff → Prop} (h : callW P fn args look K) : ∃ v e, K v e ∧ ∀ K' : T → Eff → Prop, K' v e → callW P fn args look K' := by
  unfold callW at h ⊢
  split at h
  · obtain ⟨h1, r, h2, h3⟩ := h
    exact ⟨r, _, h3, fun K' hk => ⟨h1, r, h2, hk⟩⟩
  · exact h.elim
theorem builtinW_split (P : Program) (k : Nat) (b : Builtin) (ts : Array TypeId) (args : List T) (look : Nat → Option Own) {K : T → Eff → Prop} (h : builtinW P k b ts args look K) : ∃ v e, K v e ∧ ∀ K' : T → Eff → Prop, K' v e → builtinW P k b ts args look K' := by
  unfold builtinW at h ⊢
  split at h
  · rename_i ht
    obtain ⟨v, h1, h2⟩ := lenW_split _ _ _ h
    exact ⟨v, _, h1, fun K' hk => h2 _ hk⟩
  · rename_i ht
    obtain ⟨v, e, h1, h2⟩ := appendW_split _ _ _ _ _ _ _ h
    exact ⟨v, e, h1, fun K' hk => h2 _ hk⟩
  · obtain ⟨v, h1, h2⟩ := min2W_split _ _ h
    exact ⟨v, _, h1, fun K' hk => h2 _ hk⟩
  · obtain ⟨v, h1, h2⟩ := max2W_split _ _ h
    exact ⟨v, _, h1, fun K' hk => h2 _ hk⟩
  · exact h.elim
theorem opW_split (P : Program) (k : Nat) (op : Op) (ρ : Operand → T) (look : Nat → Option Own) {K : T → Eff → Prop} (h : opW P k op ρ look K) : ∃ v e, K v e ∧ ∀ K' : T → Eff → Prop, K' v e → opW P k op ρ look K' := by
  have lift : ∀ {A : (T → Prop) → Prop}, (∃ v, K v .none ∧ ∀ K' : T → Prop, K' v → A K') → ∃ v e, K v e ∧ ∀ K' : T → Eff → Prop, K' v e → A (K' · .none) := fun ⟨v, h1, h2⟩ => ⟨v, .none, h1, fun K' hk => h2 _ hk⟩
  unfold opW at h ⊢
  split at h
  · exact ⟨_, _, h, fun K' hk => hk⟩
  · exact ⟨_, _, h, fun K' hk => hk⟩
  · exact pickW_split _ _ _ h
  · exact ⟨_, _, h.2, fun K' hk => ⟨h.1, hk⟩⟩
  · exact ⟨_, _, h.2, fun K' hk => ⟨h.1, hk⟩⟩
  · exact lift (buildW_split _ _ _ h)
  · exact lift (buildSliceW_split _ _ _ _ h)
  · exact lift (loadW_split _ _ _ _ h)
  · exact storeW_split _ _ _ _ _ h
  · exact nilW_split _ h
  · exact lift (binW_split _ _ _ _ _ h)
  · exact lift (unW_split _ _ h)
  · exact convertW_split _ _ _ _ _ _ h
  · exact ifaceW_split _ _ _ h
  · exact ⟨_, _, h.2, fun K' hk => ⟨h.1, hk⟩⟩
  · exact makeW_split _ _ _ _ _ h
  · exact lift (sliceW_split _ _ _ _ _ _ h)
  · exact lift (fieldAddrW_split _ _ _ _ h)
  · exact lift (fieldW_split _ _ _ _ h)
  · exact lift (indexAddrW_split _ _ _ _ h)
  · exact lift (indexW_split _ _ _ _ h)
  · exact lift (extractW_split _ _ h)
  · exact callW_split _ _ _ _ h
  · exact builtinW_split _ _ _ _ _ _ h
  · exact h.elim
end Go.Proofs.YtcnkndmegnfofaaX

/- Code in one go, its operations without what a run does not ask. Of no program. -/
set_option linter.unusedVariables false
set_option linter.unusedSimpArgs false
namespace Go.Proofs.YtcnkndmegnfofaaX
open Go Go.RowKit

def gL (ds : List (Option Tmp)) : Option (Nat × Bool) → Option (Option Tmp × Bool)
  | none => none
  | some (j, w) => some (ds.getD j none, w)
def liteL (ds : List (Option Tmp)) : List Oper → List (Op × Option Tmp × Option (Option Tmp × Bool))
  | [] => []
  | o :: l => (o.op, o.dst, gL ds o.guard) :: liteL ds l
def dstsL : List Oper → List (Option Tmp)
  | [] => []
  | o :: l => o.dst :: dstsL l
def boolW (b : Bool) (A B : Prop) : Prop := (b = true → A) ∧ (b = false → B)
theorem boolW_true {A B : Prop} : boolW true A B = A := by simp [boolW]
theorem boolW_false {A B : Prop} : boolW false A B = B := by simp [boolW]
/-- A truth value that is known now. -/
def St.is (S : St) (d : Tmp) (b : Bool) : St := ⟨S.tmps.set d (.imm (.bool b)), S.objs⟩
def guardL (S : St) (g : Option (Option Tmp × Bool)) (Kt Kf : St → Prop) : Prop :=
  match g with
  | none => Kt S
  | some (none, _) => False
  | some (some d, true) => (match S.tmps.getD d .junk with
    | .imm (.bool b) => boolW b (Kt (S.is d true)) (Kf (S.is d false))
    | .tup l => l = [] ∧ Kf S
    | _ => False)
  | some (some d, false) => (match S.tmps.getD d .junk with
    | .imm (.bool b) => boolW b (Kf (S.is d true)) (Kt (S.is d false))
    | .tup l => l = [] ∧ Kf S
    | _ => False)
def stepsL (P : Program) : List (Op × Option Tmp × Option (Option Tmp × Bool)) → St → (St → Prop) → Prop
  | [], S, K => K S
  | (op, dst, g) :: rest, S, K => guardL S g (fun S => opW P S.objs.length op (evalT S) (lookS S) fun v eff => stepsL P rest ((S.after eff).put dst v) K) (fun S => stepsL P rest (S.put dst (.tup [])) K)
def drawL (P : Program) : List (Op × Option Tmp × Option (Option Tmp × Bool)) → Nat → Nat → St → (St → Prop) → Prop
  | [], _, _, S, K => K S
  | (op, dst, g) :: rest, b, k, S, K => guardL S g (fun S => ∃ v eff, (opW P k op (evalT S) (fun i => if eOp op = true ∨ i < b then lookS S i else none) fun v' e' => v' = v ∧ e' = eff) ∧ (quietE eff || (eOp op && effB k eff)) = true ∧ drawL P rest (if eOp op = true then k + 1 else b) (k + 1) ((S.eff k eff).put dst v) K) (fun S => drawL P rest (if eOp op = true then k + 1 else b) (k + 1) (S.put dst (.tup [])) K)
theorem St.is_self {S : St} {d : Tmp} {b : Bool} (h : S.tmps.getD d .junk = .imm (.bool b)) : S.is d b = S := by
  obtain ⟨l, o⟩ := S
  have h : l.getD d .junk = .imm (.bool b) := h
  have hl : d < l.length := by
    rw [List.getD_eq_getElem?_getD] at h
    cases hd : l[d]? with
    | none => rw [hd] at h; cases h
    | some x => exact (List.getElem?_eq_some_iff.1 hd).1
  show St.mk (l.set d (.imm (.bool b))) o = St.mk l o
  congr 1
  rw [List.getD_eq_getElem?_getD, List.getElem?_eq_getElem hl] at h
  have h : l[d] = .imm (.bool b) := h
  rw [← h]; exact List.set_getElem_self hl

theorem dstsL_get : ∀ (l : List Oper) (j : Nat), (dstsL l).getD j none = (l[j]?).bind (·.dst)
  | [], j => by simp [dstsL]
  | o :: l, j => by
    cases j with
    | zero => simp [dstsL]
    | succ j => simpa [dstsL] using dstsL_get l j
theorem guardL_eq (ops : Array Oper) (S : St) (o : Oper) (Kt Kf : St → Prop) : guardW ops S o (Kt S) (Kf S) = guardL S (gL (dstsL ops.toList) o.guard) Kt Kf := by
  unfold guardW
  cases hg : o.guard with
  | none => rfl
  | some p =>
    obtain ⟨j, w⟩ := p
    simp only [gL, dstsL_get, Array.getElem?_toList]
    cases h : (ops[j]?).bind (·.dst) with
    | none => rfl
    | some d =>
      have hg' := List.getD_eq_getElem?_getD (l := S.tmps) (i := d) (a := T.junk)
      cases hv : S.tmps.getD d .junk with
      | imm v =>
        rw [hv] at hg'
        cases v with
        | bool b =>
          cases b <;> cases w <;> simp [guardL, ← hg', boolW, St.is_self hv]
        | _ => cases w <;> simp [guardL, ← hg']
      | _ => rw [hv] at hg'; cases w <;> simp [guardL, ← hg']
theorem stepsL_eq (P : Program) (ops : Array Oper) : ∀ (l : List Oper) (S : St) (K : St → Prop), stepsW P ops l S K = stepsL P (liteL (dstsL ops.toList) l) S K
  | [], S, K => rfl
  | o :: l, S, K => by
    unfold stepsW
    simp only [liteL, stepsL, stepsL_eq P ops l]
    exact guardL_eq ops S o (fun S => opW P S.objs.length o.op (evalT S) (lookS S) fun v eff => stepsL P (liteL (dstsL ops.toList) l) ((S.after eff).put o.dst v) K) (fun S => stepsL P (liteL (dstsL ops.toList) l) (S.put o.dst (.tup [])) K)
theorem drawL_eq (P : Program) (ops : Array Oper) : ∀ (l : List Oper) (b k : Nat) (S : St) (K : St → Prop), drawW P ops l b k S K = drawL P (liteL (dstsL ops.toList) l) b k S K
  | [], b, k, S, K => rfl
  | o :: l, b, k, S, K => by
    unfold drawW
    simp only [liteL, drawL, drawL_eq P ops l]
    exact guardL_eq ops S o (fun S => ∃ v eff, (opW P k o.op (evalT S) (fun i => if eOp o.op = true ∨ i < b then lookS S i else none) fun v' e' => v' = v ∧ e' = eff) ∧ (quietE eff || (eOp o.op && effB k eff)) = true ∧ drawL P (liteL (dstsL ops.toList) l) (if eOp o.op = true then k + 1 else b) (k + 1) ((S.eff k eff).put o.dst v) K) (fun S => drawL P (liteL (dstsL ops.toList) l) (if eOp o.op = true then k + 1 else b) (k + 1) (S.put o.dst (.tup [])) K)


/-! ### The same, with what comes behind as data -/
inductive Kn where
  | q
  | seq (c : Code) (k : Kn)
  | blk (id : Nat) (k : Kn)
  | lp (c : Code) (n : Nat) (k : Kn)
/-- So many rounds of a loop at most. -/
def rounds (P : Program) (c : Code) (Q : Exit → St → Prop) : Nat → St → Prop
  | 0, _ => False
  | n + 1, S => wpC P c S (thenQ (rounds P c Q n) Q)
def contK (P : Program) (Q : Exit → St → Prop) : Kn → Exit → St → Prop
  | .q => Q
  | .seq c k => thenQ (fun S' => wpC P c S' (contK P Q k)) (contK P Q k)
  | .blk id k => blockQ id (contK P Q k)
  | .lp c n k => thenQ (rounds P c (contK P Q k) n) (contK P Q k)
def endK (P : Program) (Q : Exit → St → Prop) (e : Exit) (S : St) (k : Kn) : Prop := contK P Q k e S
def runK (P : Program) (Q : Exit → St → Prop) (c : Code) (S : St) (k : Kn) : Prop := wpC P c S (contK P Q k)
def stepsK (P : Program) (Q : Exit → St → Prop) (l : List (Op × Option Tmp × Option (Option Tmp × Bool))) (S : St) (k : Kn) : Prop := stepsL P l S (contK P Q k .normal)
def drawK (P : Program) (Q : Exit → St → Prop) (l : List (Op × Option Tmp × Option (Option Tmp × Bool))) (b n : Nat) (S : St) (k : Kn) : Prop := drawL P l b n S fun S => contK P Q k .normal ⟨S.tmps, trims S.objs⟩
def rootsK (S : St) (ts : List Tmp) : St := ts.foldl (fun S t => S.frzT (S.tmps.getD t .junk)) S
theorem rootsK_nil (S : St) : rootsK S [] = S := rfl
theorem rootsK_cons (S : St) (t : Tmp) (ts : List Tmp) : rootsK S (t :: ts) = rootsK (S.frzT (S.tmps.getD t .junk)) ts := rfl

section
variable (P : Program) (Q : Exit → St → Prop) (S : St) (k : Kn)
theorem endK_q (e : Exit) : endK P Q e S .q = Q e S := rfl
theorem endK_seq (c : Code) : endK P Q .normal S (.seq c k) = runK P Q c S k := rfl
theorem endK_seq_exit (c : Code) (id : Nat) : endK P Q (.exit id) S (.seq c k) = endK P Q (.exit id) S k := rfl
theorem endK_seq_ret (c : Code) : endK P Q .ret S (.seq c k) = endK P Q .ret S k := rfl
theorem endK_blk (id : Nat) : endK P Q .normal S (.blk id k) = endK P Q .normal S k := rfl
theorem endK_blk_ret (id : Nat) : endK P Q .ret S (.blk id k) = endK P Q .ret S k := rfl
theorem endK_blk_exit (id j : Nat) : endK P Q (.exit j) S (.blk id k) = if j = id then endK P Q .normal S k else endK P Q (.exit j) S k := rfl
def roundsK (P : Program) (Q : Exit → St → Prop) (c : Code) (n : Nat) (S : St) (k : Kn) : Prop := rounds P c (contK P Q k) n S
theorem roundsK_succ (c : Code) (n : Nat) : roundsK P Q c (n + 1) S k = runK P Q c S (.lp c n k) := rfl
theorem endK_lp (c : Code) (n : Nat) : endK P Q .normal S (.lp c n k) = roundsK P Q c n S k := rfl
theorem endK_lp_exit (c : Code) (n id : Nat) : endK P Q (.exit id) S (.lp c n k) = endK P Q (.exit id) S k := rfl
theorem endK_lp_ret (c : Code) (n : Nat) : endK P Q .ret S (.lp c n k) = endK P Q .ret S k := rfl
theorem runK_skip : runK P Q .skip S k = endK P Q .normal S k := rfl
theorem runK_exit (id : Nat) : runK P Q (.exit id) S k = endK P Q (.exit id) S k := rfl
theorem runK_ret : runK P Q .ret S k = endK P Q .ret S k := rfl
theorem runK_seq (x y : Code) : runK P Q (.seq x y) S k = runK P Q x S (.seq y k) := rfl
theorem runK_block (id : Nat) (c : Code) : runK P Q (.block id c) S k = runK P Q c S (.blk id k) := rfl
theorem runK_cond (c : Operand) (x y : Code) : runK P Q (.cond c x y) S k = (match evalT S c with
    | .imm (.bool b) => boolW b (runK P Q x S k) (runK P Q y S k)
    | _ => False) := by
  show (match evalT S c with | .imm (.bool b) => _ | _ => _) = _
  generalize evalT S c = z
  cases z with
  | imm v => cases v <;> rfl
  | _ => rfl
theorem runK_region (id : Nat) (l : List Oper) : runK P Q (.region id ⟨l⟩ false) S k = stepsK P Q (liteL (dstsL l) l) (rootsK S (rootsOf l)) k := by
  show stepsW P ⟨l⟩ l (S.roots l) _ = _
  rw [stepsL_eq]; rfl
theorem runK_draw (id : Nat) (l : List Oper) : runK P Q (.region id ⟨l⟩ true) S k = drawK P Q (liteL (dstsL l) l) (rootsK S (rootsOf l)).objs.length (rootsK S (rootsOf l)).objs.length ⟨(rootsK S (rootsOf l)).tmps, (rootsK S (rootsOf l)).objs ++ List.replicate l.length none⟩ k := by
  show drawW P ⟨l⟩ l _ _ _ _ = _
  rw [drawL_eq]; rfl
theorem stepsK_nil : stepsK P Q [] S k = endK P Q .normal S k := rfl
theorem stepsK_cons (op : Op) (dst : Option Tmp) (rest : List (Op × Option Tmp × Option (Option Tmp × Bool))) : stepsK P Q ((op, dst, none) :: rest) S k = opW P S.objs.length op (evalT S) (lookS S) fun v eff => stepsK P Q rest ((S.after eff).put dst v) k := rfl
theorem guardL_true (d : Tmp) (Kt Kf : St → Prop) : guardL S (some (some d, true)) Kt Kf = (match S.tmps.getD d .junk with
    | .imm (.bool b) => boolW b (Kt (S.is d true)) (Kf (S.is d false))
    | .tup l => l = [] ∧ Kf S
    | _ => False) := by
  simp only [guardL]
theorem guardL_false (d : Tmp) (Kt Kf : St → Prop) : guardL S (some (some d, false)) Kt Kf = (match S.tmps.getD d .junk with
    | .imm (.bool b) => boolW b (Kf (S.is d true)) (Kt (S.is d false))
    | .tup l => l = [] ∧ Kf S
    | _ => False) := by
  simp only [guardL]
theorem stepsK_ift (op : Op) (dst : Option Tmp) (d : Tmp) (rest : List (Op × Option Tmp × Option (Option Tmp × Bool))) : stepsK P Q ((op, dst, some (some d, true)) :: rest) S k = (match S.tmps.getD d .junk with
    | .imm (.bool b) => boolW b (stepsK P Q ((op, dst, none) :: rest) (S.is d true) k) (stepsK P Q rest ((S.is d false).put dst (.tup [])) k)
    | .tup l => l = [] ∧ stepsK P Q rest (S.put dst (.tup [])) k
    | _ => False) := by
  show stepsL P ((op, dst, some (some d, true)) :: rest) S _ = _
  rw [stepsL, guardL_true]
  generalize S.tmps.getD d .junk = z
  cases z with
  | imm v => cases v <;> rfl
  | _ => rfl
theorem stepsK_iff (op : Op) (dst : Option Tmp) (d : Tmp) (rest : List (Op × Option Tmp × Option (Option Tmp × Bool))) : stepsK P Q ((op, dst, some (some d, false)) :: rest) S k = (match S.tmps.getD d .junk with
    | .imm (.bool b) => boolW b (stepsK P Q rest ((S.is d true).put dst (.tup [])) k) (stepsK P Q ((op, dst, none) :: rest) (S.is d false) k)
    | .tup l => l = [] ∧ stepsK P Q rest (S.put dst (.tup [])) k
    | _ => False) := by
  show stepsL P ((op, dst, some (some d, false)) :: rest) S _ = _
  rw [stepsL, guardL_false]
  generalize S.tmps.getD d .junk = z
  cases z with
  | imm v => cases v <;> rfl
  | _ => rfl
theorem drawK_nil (b n : Nat) : drawK P Q [] b n S k = endK P Q .normal ⟨S.tmps, trims S.objs⟩ k := rfl
theorem drawK_cons {b n : Nat} {op : Op} {dst : Option Tmp} {rest : List (Op × Option Tmp × Option (Option Tmp × Bool))} : drawK P Q ((op, dst, none) :: rest) b n S k = opW P n op (evalT S) (fun i => if eOp op = true ∨ i < b then lookS S i else none) fun v eff => (quietE eff || (eOp op && effB n eff)) = true ∧ drawK P Q rest (if eOp op = true then n + 1 else b) (n + 1) ((S.eff n eff).put dst v) k := by
  refine propext ⟨fun h => ?_, fun h => ?_⟩
  · obtain ⟨v, eff, h1, h2, h3⟩ := h
    obtain ⟨v', e', ⟨rfl, rfl⟩, h4⟩ := opW_split _ _ _ _ _ h1
    exact h4 _ ⟨h2, h3⟩
  · obtain ⟨v, eff, ⟨h1, h2⟩, h3⟩ := opW_split _ _ _ _ _ h
    exact ⟨v, eff, h3 _ ⟨rfl, rfl⟩, h1, h2⟩
theorem drawK_ift (b n : Nat) (op : Op) (dst : Option Tmp) (d : Tmp) (rest : List (Op × Option Tmp × Option (Option Tmp × Bool))) : drawK P Q ((op, dst, some (some d, true)) :: rest) b n S k = (match S.tmps.getD d .junk with
    | .imm (.bool c) => boolW c (drawK P Q ((op, dst, none) :: rest) b n (S.is d true) k) (drawK P Q rest (if eOp op = true then n + 1 else b) (n + 1) ((S.is d false).put dst (.tup [])) k)
    | .tup l => l = [] ∧ drawK P Q rest (if eOp op = true then n + 1 else b) (n + 1) (S.put dst (.tup [])) k
    | _ => False) := by
  show drawL P ((op, dst, some (some d, true)) :: rest) b n S _ = _
  rw [drawL, guardL_true]
  generalize S.tmps.getD d .junk = z
  cases z with
  | imm v => cases v <;> rfl
  | _ => rfl
theorem drawK_iff (b n : Nat) (op : Op) (dst : Option Tmp) (d : Tmp) (rest : List (Op × Option Tmp × Option (Option Tmp × Bool))) : drawK P Q ((op, dst, some (some d, false)) :: rest) b n S k = (match S.tmps.getD d .junk with
    | .imm (.bool c) => boolW c (drawK P Q rest (if eOp op = true then n + 1 else b) (n + 1) ((S.is d true).put dst (.tup [])) k) (drawK P Q ((op, dst, none) :: rest) b n (S.is d false) k)
    | .tup l => l = [] ∧ drawK P Q rest (if eOp op = true then n + 1 else b) (n + 1) (S.put dst (.tup [])) k
    | _ => False) := by
  show drawL P ((op, dst, some (some d, false)) :: rest) b n S _ = _
  rw [drawL, guardL_false]
  generalize S.tmps.getD d .junk = z
  cases z with
  | imm v => cases v <;> rfl
  | _ => rfl
end

/-- What must hold behind a round of a loop. -/
def loopQ (P : Program) (Q : Exit → St → Prop) (k : Kn) (I : Nat → St → Prop) (n : Nat) : Exit → St → Prop := thenQ (fun S' => ∃ m, m < n ∧ I m S') (contK P Q k)
section
variable (P : Program) (Q : Exit → St → Prop) (S : St) (k : Kn) (I : Nat → St → Prop) (n : Nat)
theorem loopQ_normal : loopQ P Q k I n .normal S = ∃ m, m < n ∧ I m S := rfl
theorem loopQ_exit (id : Nat) : loopQ P Q k I n (.exit id) S = endK P Q (.exit id) S k := rfl
theorem loopQ_ret : loopQ P Q k I n .ret S = endK P Q .ret S k := rfl
end
theorem runK_loop {P : Program} (hm : P.follows .mixedOrders = true) {Q : Exit → St → Prop} {c : Code} {S : St} {k : Kn} (hok : codeOk c = true) (I : Nat → St → Prop) (n : Nat) (h0 : I n S) (round : ∀ n S, I n S → runK P (loopQ P Q k I n) c S .q) : runK P Q (.loop c) S k :=
  wpC_loop hm hok I n h0 round
theorem runK_rounds {P : Program} (hm : P.follows .mixedOrders = true) {Q : Exit → St → Prop} {c : Code} {S : St} {k : Kn} (hok : codeOk c = true) (n : Nat) (h : roundsK P Q c n S k) : runK P Q (.loop c) S k :=
  WP.loop (fun n S => rounds P c (contK P Q k) n S) n h fun n S h => by
    cases n with
    | zero => exact h.elim
    | succ n =>
      refine WP.mono (wpC_sound hm c S _ hok h) fun e S' h' => ?_
      cases e <;> first | exact ⟨n, Nat.lt_succ_self n, h'⟩ | exact h'
theorem FnC.go {P : Program} (hm : P.follows .mixedOrders = true) {f : FuncId} {fn : Func} {c : Code} {args : List T} {res : T} (hf : P.funcs[f]? = some fn) (hn : (fn.name == "runtime.NumGoroutine") = false) (hb : fn.body = some c) (hok : codeOk c = true)
    (h : runK P (RetQ P fn res) c ⟨args ++ List.replicate (fn.ntmps - args.length) .junk, []⟩ .q) : FnC P f args res := FnC.run hm hf hn hb hok h
/-- A call, its arguments told. -/
def callG (P : Program) (Q : Exit → St → Prop) (g : FuncId) (args : List T) (dst : Option Tmp) (rest : List (Op × Option Tmp × Option (Option Tmp × Bool))) (S : St) (k : Kn) : Prop := ∃ r, FnC P g args r ∧ stepsK P Q rest (S.put dst r) k
def callK (P : Program) (Q : Exit → St → Prop) (x : T) (args : List T) (dst : Option Tmp) (rest : List (Op × Option Tmp × Option (Option Tmp × Bool))) (S : St) (k : Kn) : Prop :=
  match x with
  | .fn g caps => closedL (args ++ caps) = true ∧ callG P Q g (args ++ caps) dst rest S k
  | _ => False
theorem stepsK_call (P : Program) (Q : Exit → St → Prop) (S : St) (k : Kn) (f : Operand) (args : List Operand) (ts : Array TypeId) (dst : Option Tmp) (rest : List (Op × Option Tmp × Option (Option Tmp × Bool))) :
    stepsK P Q ((.call ⟨.value f, ⟨args⟩, ts⟩, dst, none) :: rest) S k = callK P Q (evalT S f) (dsnapL (lookS S) (args.map (evalT S))) dst rest S k := by
  rw [stepsK_cons]
  simp only [opW]
  unfold callW callK
  generalize evalT S f = x
  cases x <;> rfl
theorem callG_mk {P : Program} {Q : Exit → St → Prop} {g : FuncId} {args : List T} {dst : Option Tmp} {rest : List (Op × Option Tmp × Option (Option Tmp × Bool))} {S : St} {k : Kn} {r : T} (h : FnC P g args r) (h2 : stepsK P Q rest (S.put dst r) k) : callG P Q g args dst rest S k := ⟨r, h, h2⟩
/-- .. in a region that draws its order. -/
def callD (P : Program) (Q : Exit → St → Prop) (g : FuncId) (args : List T) (dst : Option Tmp) (rest : List (Op × Option Tmp × Option (Option Tmp × Bool))) (b n : Nat) (S : St) (k : Kn) : Prop := ∃ r, FnC P g args r ∧ drawK P Q rest b n (S.put dst r) k
def callE (P : Program) (Q : Exit → St → Prop) (x : T) (args : List T) (dst : Option Tmp) (rest : List (Op × Option Tmp × Option (Option Tmp × Bool))) (b n : Nat) (S : St) (k : Kn) : Prop :=
  match x with
  | .fn g caps => closedL (args ++ caps) = true ∧ callD P Q g (args ++ caps) dst rest b n S k
  | _ => False
theorem drawK_call (P : Program) (Q : Exit → St → Prop) (S : St) (k : Kn) (b n : Nat) (f : Operand) (args : List Operand) (ts : Array TypeId) (dst : Option Tmp) (rest : List (Op × Option Tmp × Option (Option Tmp × Bool))) :
    drawK P Q ((.call ⟨.value f, ⟨args⟩, ts⟩, dst, none) :: rest) b n S k = callE P Q (evalT S f) (dsnapL (fun i => if i < b then lookS S i else none) (args.map (evalT S))) dst rest b (n + 1) S k := by
  rw [drawK_cons]
  have e : (fun i => if eOp (.call ⟨.value f, ⟨args⟩, ts⟩) = true ∨ i < b then lookS S i else none) = fun i => if i < b then lookS S i else none := by
    funext i; simp [eOp]
  rw [e]
  simp only [opW]
  unfold callW callE
  generalize evalT S f = x
  cases x with
  | fn g caps => simp [callD, quietE, eOp, St.eff]
  | _ => rfl
theorem callD_mk {P : Program} {Q : Exit → St → Prop} {g : FuncId} {args : List T} {dst : Option Tmp} {rest : List (Op × Option Tmp × Option (Option Tmp × Bool))} {b n : Nat} {S : St} {k : Kn} {r : T} (h : FnC P g args r) (h2 : drawK P Q rest b n (S.put dst r) k) : callD P Q g args dst rest b n S k := ⟨r, h, h2⟩
theorem lookS_at (S : St) (i : Nat) : lookS S i = match S.objs[i]? with | some x => x | none => none := rfl
end Go.Proofs.YtcnkndmegnfofaaX

/- What the program's types are. -/
set_option linter.unusedVariables false
namespace Go.Proofs.YtcnkndmegnfofaaX
open Go Go.RowKit Go.Proofs
theorem small_of {P : Program} {t : TypeId} (h : ((P.info? t).all fun i => decide (i.bytes ≤ 256)) = true) : ∀ i, P.info? t = some i → i.bytes ≤ 256 := fun i hi => by
  rw [hi] at h; simpa using h
theorem notInt_of {d : Option TypeDesc} (h : (match d with | some (.int _) => false | some _ => true | none => false) = true) : notInt d := by
  cases d with
  | none => cases h
  | some d => refine ⟨d, rfl, fun k e => ?_⟩; subst e; cases h
theorem mixed : Try.prog.follows .mixedOrders = true := by kernel_rfl
theorem sz2 : szOf Try.prog 2 = 1 := by kernel_rfl
theorem cz2 : Try.prog.cellsOf 2 = 1 := by kernel_rfl
theorem ok2 : okT Try.prog 2 = true := by kernel_rfl
theorem un2 : Try.prog.underlying 2 = some (.int .i64) := by kernel_rfl
theorem ze2 : zeroOf Try.prog 2 = .imm (.int .i64 0) := by kernel_rfl
theorem by2 : (∀ i, Try.prog.info? 2 = some i → i.bytes ≤ 256) = True := eq_true (small_of (by kernel_rfl))
theorem sz3 : szOf Try.prog 3 = 1 := by kernel_rfl
theorem cz3 : Try.prog.cellsOf 3 = 1 := by kernel_rfl
theorem ok3 : okT Try.prog 3 = true := by kernel_rfl
theorem un3 : Try.prog.underlying 3 = some (.int .i64) := by kernel_rfl
theorem ze3 : zeroOf Try.prog 3 = .imm (.int .i64 0) := by kernel_rfl
theorem by3 : (∀ i, Try.prog.info? 3 = some i → i.bytes ≤ 256) = True := eq_true (small_of (by kernel_rfl))
theorem sz4 : szOf Try.prog 4 = 1 := by kernel_rfl
theorem cz4 : Try.prog.cellsOf 4 = 1 := by kernel_rfl
theorem ok4 : okT Try.prog 4 = true := by kernel_rfl
theorem un4 : Try.prog.underlying 4 = some (.bool) := by kernel_rfl
theorem ze4 : zeroOf Try.prog 4 = .imm (.bool false) := by kernel_rfl
theorem by4 : (∀ i, Try.prog.info? 4 = some i → i.bytes ≤ 256) = True := eq_true (small_of (by kernel_rfl))
theorem ni4 : notInt (Try.prog.underlying 4) = True := eq_true (notInt_of (by kernel_rfl))
theorem sz5 : szOf Try.prog 5 = 1 := by kernel_rfl
theorem cz5 : Try.prog.cellsOf 5 = 1 := by kernel_rfl
theorem ok5 : okT Try.prog 5 = true := by kernel_rfl
theorem un5 : Try.prog.underlying 5 = some (.int .u8) := by kernel_rfl
theorem ze5 : zeroOf Try.prog 5 = .imm (.int .u8 0) := by kernel_rfl
theorem by5 : (∀ i, Try.prog.info? 5 = some i → i.bytes ≤ 256) = True := eq_true (small_of (by kernel_rfl))
theorem sz6 : szOf Try.prog 6 = 1 := by kernel_rfl
theorem cz6 : Try.prog.cellsOf 6 = 1 := by kernel_rfl
theorem ok6 : okT Try.prog 6 = true := by kernel_rfl
theorem un6 : Try.prog.underlying 6 = some (.int .u8) := by kernel_rfl
theorem ze6 : zeroOf Try.prog 6 = .imm (.int .u8 0) := by kernel_rfl
theorem by6 : (∀ i, Try.prog.info? 6 = some i → i.bytes ≤ 256) = True := eq_true (small_of (by kernel_rfl))
theorem sz7 : szOf Try.prog 7 = 4 := by kernel_rfl
theorem cz7 : Try.prog.cellsOf 7 = 4 := by kernel_rfl
theorem ok7 : okT Try.prog 7 = true := by kernel_rfl
theorem ze7 : zeroOf Try.prog 7 = .agg [.imm (.int .i64 0), .imm (.int .i64 0), .imm (.bool false), .imm (.int .u8 0)] := by kernel_rfl
theorem by7 : (∀ i, Try.prog.info? 7 = some i → i.bytes ≤ 256) = True := eq_true (small_of (by kernel_rfl))
theorem ni7 : notInt (Try.prog.underlying 7) = True := eq_true (notInt_of (by kernel_rfl))
theorem sz8 : szOf Try.prog 8 = 4 := by kernel_rfl
theorem cz8 : Try.prog.cellsOf 8 = 4 := by kernel_rfl
theorem ok8 : okT Try.prog 8 = true := by kernel_rfl
theorem ze8 : zeroOf Try.prog 8 = .agg [.imm (.int .i64 0), .imm (.int .i64 0), .imm (.bool false), .imm (.int .u8 0)] := by kernel_rfl
theorem by8 : (∀ i, Try.prog.info? 8 = some i → i.bytes ≤ 256) = True := eq_true (small_of (by kernel_rfl))
theorem ni8 : notInt (Try.prog.underlying 8) = True := eq_true (notInt_of (by kernel_rfl))
theorem sz9 : szOf Try.prog 9 = 1 := by kernel_rfl
theorem cz9 : Try.prog.cellsOf 9 = 1 := by kernel_rfl
theorem ok9 : okT Try.prog 9 = true := by kernel_rfl
theorem un9 : Try.prog.underlying 9 = some (.string) := by kernel_rfl
theorem ze9 : zeroOf Try.prog 9 = .imm (.string ByteArray.empty) := by kernel_rfl
theorem by9 : (∀ i, Try.prog.info? 9 = some i → i.bytes ≤ 256) = True := eq_true (small_of (by kernel_rfl))
theorem ni9 : notInt (Try.prog.underlying 9) = True := eq_true (notInt_of (by kernel_rfl))
theorem sz10 : szOf Try.prog 10 = 1 := by kernel_rfl
theorem cz10 : Try.prog.cellsOf 10 = 1 := by kernel_rfl
theorem ok10 : okT Try.prog 10 = true := by kernel_rfl
theorem un10 : Try.prog.underlying 10 = some (.string) := by kernel_rfl
theorem ze10 : zeroOf Try.prog 10 = .imm (.string ByteArray.empty) := by kernel_rfl
theorem by10 : (∀ i, Try.prog.info? 10 = some i → i.bytes ≤ 256) = True := eq_true (small_of (by kernel_rfl))
theorem ni10 : notInt (Try.prog.underlying 10) = True := eq_true (notInt_of (by kernel_rfl))
theorem sz11 : szOf Try.prog 11 = 1 := by kernel_rfl
theorem cz11 : Try.prog.cellsOf 11 = 1 := by kernel_rfl
theorem ok11 : okT Try.prog 11 = true := by kernel_rfl
theorem un11 : Try.prog.underlying 11 = some (.string) := by kernel_rfl
theorem ze11 : zeroOf Try.prog 11 = .imm (.string ByteArray.empty) := by kernel_rfl
theorem by11 : (∀ i, Try.prog.info? 11 = some i → i.bytes ≤ 256) = True := eq_true (small_of (by kernel_rfl))
theorem ni11 : notInt (Try.prog.underlying 11) = True := eq_true (notInt_of (by kernel_rfl))
theorem sz12 : szOf Try.prog 12 = 1 := by kernel_rfl
theorem cz12 : Try.prog.cellsOf 12 = 1 := by kernel_rfl
theorem ok12 : okT Try.prog 12 = true := by kernel_rfl
theorem un12 : Try.prog.underlying 12 = some (.int .u64) := by kernel_rfl
theorem ze12 : zeroOf Try.prog 12 = .imm (.int .u64 0) := by kernel_rfl
theorem by12 : (∀ i, Try.prog.info? 12 = some i → i.bytes ≤ 256) = True := eq_true (small_of (by kernel_rfl))
theorem sz13 : szOf Try.prog 13 = 2 := by kernel_rfl
theorem cz13 : Try.prog.cellsOf 13 = 2 := by kernel_rfl
theorem ok13 : okT Try.prog 13 = true := by kernel_rfl
theorem ze13 : zeroOf Try.prog 13 = .agg [.imm (.string ByteArray.empty), .imm (.int .u64 0)] := by kernel_rfl
theorem by13 : (∀ i, Try.prog.info? 13 = some i → i.bytes ≤ 256) = True := eq_true (small_of (by kernel_rfl))
theorem ni13 : notInt (Try.prog.underlying 13) = True := eq_true (notInt_of (by kernel_rfl))
theorem sz14 : szOf Try.prog 14 = 2 := by kernel_rfl
theorem cz14 : Try.prog.cellsOf 14 = 2 := by kernel_rfl
theorem ok14 : okT Try.prog 14 = true := by kernel_rfl
theorem ze14 : zeroOf Try.prog 14 = .agg [.imm (.string ByteArray.empty), .imm (.int .u64 0)] := by kernel_rfl
theorem by14 : (∀ i, Try.prog.info? 14 = some i → i.bytes ≤ 256) = True := eq_true (small_of (by kernel_rfl))
theorem ni14 : notInt (Try.prog.underlying 14) = True := eq_true (notInt_of (by kernel_rfl))
theorem sz15 : szOf Try.prog 15 = 1 := by kernel_rfl
theorem cz15 : Try.prog.cellsOf 15 = 1 := by kernel_rfl
theorem ok15 : okT Try.prog 15 = true := by kernel_rfl
theorem un15 : Try.prog.underlying 15 = some (.pointer 95) := by kernel_rfl
theorem ze15 : zeroOf Try.prog 15 = .imm (.pointer none) := by kernel_rfl
theorem by15 : (∀ i, Try.prog.info? 15 = some i → i.bytes ≤ 256) = True := eq_true (small_of (by kernel_rfl))
theorem ni15 : notInt (Try.prog.underlying 15) = True := eq_true (notInt_of (by kernel_rfl))
theorem sz16 : szOf Try.prog 16 = 1 := by kernel_rfl
theorem cz16 : Try.prog.cellsOf 16 = 1 := by kernel_rfl
theorem ok16 : okT Try.prog 16 = true := by kernel_rfl
theorem un16 : Try.prog.underlying 16 = some (.pointer 98) := by kernel_rfl
theorem ze16 : zeroOf Try.prog 16 = .imm (.pointer none) := by kernel_rfl
theorem by16 : (∀ i, Try.prog.info? 16 = some i → i.bytes ≤ 256) = True := eq_true (small_of (by kernel_rfl))
theorem ni16 : notInt (Try.prog.underlying 16) = True := eq_true (notInt_of (by kernel_rfl))
theorem sz17 : szOf Try.prog 17 = 1 := by kernel_rfl
theorem cz17 : Try.prog.cellsOf 17 = 1 := by kernel_rfl
theorem ok17 : okT Try.prog 17 = true := by kernel_rfl
theorem un17 : Try.prog.underlying 17 = some (.pointer 107) := by kernel_rfl
theorem ze17 : zeroOf Try.prog 17 = .imm (.pointer none) := by kernel_rfl
theorem by17 : (∀ i, Try.prog.info? 17 = some i → i.bytes ≤ 256) = True := eq_true (small_of (by kernel_rfl))
theorem ni17 : notInt (Try.prog.underlying 17) = True := eq_true (notInt_of (by kernel_rfl))
theorem sz18 : szOf Try.prog 18 = 1 := by kernel_rfl
theorem cz18 : Try.prog.cellsOf 18 = 1 := by kernel_rfl
theorem ok18 : okT Try.prog 18 = true := by kernel_rfl
theorem ze18 : zeroOf Try.prog 18 = .agg [.imm (.pointer none)] := by kernel_rfl
theorem by18 : (∀ i, Try.prog.info? 18 = some i → i.bytes ≤ 256) = True := eq_true (small_of (by kernel_rfl))
theorem ni18 : notInt (Try.prog.underlying 18) = True := eq_true (notInt_of (by kernel_rfl))
theorem sz19 : szOf Try.prog 19 = 1 := by kernel_rfl
theorem cz19 : Try.prog.cellsOf 19 = 1 := by kernel_rfl
theorem ok19 : okT Try.prog 19 = true := by kernel_rfl
theorem ze19 : zeroOf Try.prog 19 = .agg [.imm (.pointer none)] := by kernel_rfl
theorem by19 : (∀ i, Try.prog.info? 19 = some i → i.bytes ≤ 256) = True := eq_true (small_of (by kernel_rfl))
theorem ni19 : notInt (Try.prog.underlying 19) = True := eq_true (notInt_of (by kernel_rfl))
theorem sz20 : szOf Try.prog 20 = 1 := by kernel_rfl
theorem cz20 : Try.prog.cellsOf 20 = 1 := by kernel_rfl
theorem ok20 : okT Try.prog 20 = true := by kernel_rfl
theorem ze20 : zeroOf Try.prog 20 = .imm .nilIface := by kernel_rfl
theorem by20 : (∀ i, Try.prog.info? 20 = some i → i.bytes ≤ 256) = True := eq_true (small_of (by kernel_rfl))
theorem ni20 : notInt (Try.prog.underlying 20) = True := eq_true (notInt_of (by kernel_rfl))
theorem sz21 : szOf Try.prog 21 = 1 := by kernel_rfl
theorem cz21 : Try.prog.cellsOf 21 = 1 := by kernel_rfl
theorem ok21 : okT Try.prog 21 = true := by kernel_rfl
theorem un21 : Try.prog.underlying 21 = some (.int .i32) := by kernel_rfl
theorem ze21 : zeroOf Try.prog 21 = .imm (.int .i32 0) := by kernel_rfl
theorem by21 : (∀ i, Try.prog.info? 21 = some i → i.bytes ≤ 256) = True := eq_true (small_of (by kernel_rfl))
theorem sz25 : szOf Try.prog 25 = 1 := by kernel_rfl
theorem cz25 : Try.prog.cellsOf 25 = 1 := by kernel_rfl
theorem ok25 : okT Try.prog 25 = true := by kernel_rfl
theorem un25 : Try.prog.underlying 25 = some (.slice 27) := by kernel_rfl
theorem ze25 : zeroOf Try.prog 25 = .sl 0 true [] := by kernel_rfl
theorem by25 : (∀ i, Try.prog.info? 25 = some i → i.bytes ≤ 256) = True := eq_true (small_of (by kernel_rfl))
theorem ni25 : notInt (Try.prog.underlying 25) = True := eq_true (notInt_of (by kernel_rfl))
theorem sz26 : szOf Try.prog 26 = 3 := by kernel_rfl
theorem cz26 : Try.prog.cellsOf 26 = 3 := by kernel_rfl
theorem ok26 : okT Try.prog 26 = true := by kernel_rfl
theorem ze26 : zeroOf Try.prog 26 = .agg [.imm (.string ByteArray.empty), .imm (.string ByteArray.empty), .sl 0 true []] := by kernel_rfl
theorem by26 : (∀ i, Try.prog.info? 26 = some i → i.bytes ≤ 256) = True := eq_true (small_of (by kernel_rfl))
theorem ni26 : notInt (Try.prog.underlying 26) = True := eq_true (notInt_of (by kernel_rfl))
theorem sz27 : szOf Try.prog 27 = 3 := by kernel_rfl
theorem cz27 : Try.prog.cellsOf 27 = 3 := by kernel_rfl
theorem ok27 : okT Try.prog 27 = true := by kernel_rfl
theorem ze27 : zeroOf Try.prog 27 = .agg [.imm (.string ByteArray.empty), .imm (.string ByteArray.empty), .sl 0 true []] := by kernel_rfl
theorem by27 : (∀ i, Try.prog.info? 27 = some i → i.bytes ≤ 256) = True := eq_true (small_of (by kernel_rfl))
theorem ni27 : notInt (Try.prog.underlying 27) = True := eq_true (notInt_of (by kernel_rfl))
theorem sz28 : szOf Try.prog 28 = 1 := by kernel_rfl
theorem cz28 : Try.prog.cellsOf 28 = 1 := by kernel_rfl
theorem ok28 : okT Try.prog 28 = true := by kernel_rfl
theorem un28 : Try.prog.underlying 28 = some (.slice 30) := by kernel_rfl
theorem ze28 : zeroOf Try.prog 28 = .sl 0 true [] := by kernel_rfl
theorem by28 : (∀ i, Try.prog.info? 28 = some i → i.bytes ≤ 256) = True := eq_true (small_of (by kernel_rfl))
theorem ni28 : notInt (Try.prog.underlying 28) = True := eq_true (notInt_of (by kernel_rfl))
theorem sz29 : szOf Try.prog 29 = 3 := by kernel_rfl
theorem cz29 : Try.prog.cellsOf 29 = 3 := by kernel_rfl
theorem ok29 : okT Try.prog 29 = true := by kernel_rfl
theorem ze29 : zeroOf Try.prog 29 = .agg [.imm (.string ByteArray.empty), .imm (.string ByteArray.empty), .sl 0 true []] := by kernel_rfl
theorem by29 : (∀ i, Try.prog.info? 29 = some i → i.bytes ≤ 256) = True := eq_true (small_of (by kernel_rfl))
theorem ni29 : notInt (Try.prog.underlying 29) = True := eq_true (notInt_of (by kernel_rfl))
theorem sz30 : szOf Try.prog 30 = 3 := by kernel_rfl
theorem cz30 : Try.prog.cellsOf 30 = 3 := by kernel_rfl
theorem ok30 : okT Try.prog 30 = true := by kernel_rfl
theorem ze30 : zeroOf Try.prog 30 = .agg [.imm (.string ByteArray.empty), .imm (.string ByteArray.empty), .sl 0 true []] := by kernel_rfl
theorem by30 : (∀ i, Try.prog.info? 30 = some i → i.bytes ≤ 256) = True := eq_true (small_of (by kernel_rfl))
theorem ni30 : notInt (Try.prog.underlying 30) = True := eq_true (notInt_of (by kernel_rfl))
theorem sz39 : szOf Try.prog 39 = 1 := by kernel_rfl
theorem cz39 : Try.prog.cellsOf 39 = 1 := by kernel_rfl
theorem ok39 : okT Try.prog 39 = true := by kernel_rfl
theorem un39 : Try.prog.underlying 39 = some (.slice 5) := by kernel_rfl
theorem ze39 : zeroOf Try.prog 39 = .sl 0 true [] := by kernel_rfl
theorem by39 : (∀ i, Try.prog.info? 39 = some i → i.bytes ≤ 256) = True := eq_true (small_of (by kernel_rfl))
theorem ni39 : notInt (Try.prog.underlying 39) = True := eq_true (notInt_of (by kernel_rfl))
theorem sz53 : szOf Try.prog 53 = 1 := by kernel_rfl
theorem cz53 : Try.prog.cellsOf 53 = 1 := by kernel_rfl
theorem ok53 : okT Try.prog 53 = true := by kernel_rfl
theorem un53 : Try.prog.underlying 53 = some (.int .u32) := by kernel_rfl
theorem ze53 : zeroOf Try.prog 53 = .imm (.int .u32 0) := by kernel_rfl
theorem by53 : (∀ i, Try.prog.info? 53 = some i → i.bytes ≤ 256) = True := eq_true (small_of (by kernel_rfl))
theorem sz54 : szOf Try.prog 54 = 4 := by kernel_rfl
theorem cz54 : Try.prog.cellsOf 54 = 4 := by kernel_rfl
theorem ok54 : okT Try.prog 54 = true := by kernel_rfl
theorem un54 : Try.prog.underlying 54 = some (.array 4 53) := by kernel_rfl
theorem ze54 : zeroOf Try.prog 54 = .agg [.imm (.int .u32 0), .imm (.int .u32 0), .imm (.int .u32 0), .imm (.int .u32 0)] := by kernel_rfl
theorem by54 : (∀ i, Try.prog.info? 54 = some i → i.bytes ≤ 256) = True := eq_true (small_of (by kernel_rfl))
theorem ni54 : notInt (Try.prog.underlying 54) = True := eq_true (notInt_of (by kernel_rfl))
theorem sz55 : szOf Try.prog 55 = 1 := by kernel_rfl
theorem cz55 : Try.prog.cellsOf 55 = 1 := by kernel_rfl
theorem ok55 : okT Try.prog 55 = true := by kernel_rfl
theorem un55 : Try.prog.underlying 55 = some (.int .u64) := by kernel_rfl
theorem ze55 : zeroOf Try.prog 55 = .imm (.int .u64 0) := by kernel_rfl
theorem by55 : (∀ i, Try.prog.info? 55 = some i → i.bytes ≤ 256) = True := eq_true (small_of (by kernel_rfl))
theorem sz56 : szOf Try.prog 56 = 5 := by kernel_rfl
theorem cz56 : Try.prog.cellsOf 56 = 5 := by kernel_rfl
theorem ok56 : okT Try.prog 56 = true := by kernel_rfl
theorem ze56 : zeroOf Try.prog 56 = .agg [.imm (.int .u32 0), .imm (.int .u32 0), .imm (.int .u32 0), .imm (.int .u32 0), .imm (.int .u64 0)] := by kernel_rfl
theorem by56 : (∀ i, Try.prog.info? 56 = some i → i.bytes ≤ 256) = True := eq_true (small_of (by kernel_rfl))
theorem ni56 : notInt (Try.prog.underlying 56) = True := eq_true (notInt_of (by kernel_rfl))
theorem sz57 : szOf Try.prog 57 = 5 := by kernel_rfl
theorem cz57 : Try.prog.cellsOf 57 = 5 := by kernel_rfl
theorem ok57 : okT Try.prog 57 = true := by kernel_rfl
theorem ze57 : zeroOf Try.prog 57 = .agg [.imm (.int .u32 0), .imm (.int .u32 0), .imm (.int .u32 0), .imm (.int .u32 0), .imm (.int .u64 0)] := by kernel_rfl
theorem by57 : (∀ i, Try.prog.info? 57 = some i → i.bytes ≤ 256) = True := eq_true (small_of (by kernel_rfl))
theorem ni57 : notInt (Try.prog.underlying 57) = True := eq_true (notInt_of (by kernel_rfl))
theorem sz58 : szOf Try.prog 58 = 64 := by kernel_rfl
theorem cz58 : Try.prog.cellsOf 58 = 64 := by kernel_rfl
theorem ok58 : okT Try.prog 58 = true := by kernel_rfl
theorem un58 : Try.prog.underlying 58 = some (.array 64 5) := by kernel_rfl
theorem ze58 : zeroOf Try.prog 58 = .agg [.imm (.int .u8 0), .imm (.int .u8 0), .imm (.int .u8 0), .imm (.int .u8 0), .imm (.int .u8 0), .imm (.int .u8 0), .imm (.int .u8 0), .imm (.int .u8 0), .imm (.int .u8 0), .imm (.int .u8 0), .imm (.int .u8 0), .imm (.int .u8 0), .imm (.int .u8 0), .imm (.int .u8 0), .imm (.int .u8 0), .imm (.int .u8 0), .imm (.int .u8 0), .imm (.int .u8 0), .imm (.int .u8 0), .imm (.int .u8 0), .imm (.int .u8 0), .imm (.int .u8 0), .imm (.int .u8 0), .imm (.int .u8 0), .imm (.int .u8 0), .imm (.int .u8 0), .imm (.int .u8 0), .imm (.int .u8 0), .imm (.int .u8 0), .imm (.int .u8 0), .imm (.int .u8 0), .imm (.int .u8 0), .imm (.int .u8 0), .imm (.int .u8 0), .imm (.int .u8 0), .imm (.int .u8 0), .imm (.int .u8 0), .imm (.int .u8 0), .imm (.int .u8 0), .imm (.int .u8 0), .imm (.int .u8 0), .imm (.int .u8 0), .imm (.int .u8 0), .imm (.int .u8 0), .imm (.int .u8 0), .imm (.int .u8 0), .imm (.int .u8 0), .imm (.int .u8 0), .imm (.int .u8 0), .imm (.int .u8 0), .imm (.int .u8 0), .imm (.int .u8 0), .imm (.int .u8 0), .imm (.int .u8 0), .imm (.int .u8 0), .imm (.int .u8 0), .imm (.int .u8 0), .imm (.int .u8 0), .imm (.int .u8 0), .imm (.int .u8 0), .imm (.int .u8 0), .imm (.int .u8 0), .imm (.int .u8 0), .imm (.int .u8 0)] := by kernel_rfl
theorem by58 : (∀ i, Try.prog.info? 58 = some i → i.bytes ≤ 256) = True := eq_true (small_of (by kernel_rfl))
theorem ni58 : notInt (Try.prog.underlying 58) = True := eq_true (notInt_of (by kernel_rfl))
theorem sz59 : szOf Try.prog 59 = 5 := by kernel_rfl
theorem cz59 : Try.prog.cellsOf 59 = 5 := by kernel_rfl
theorem ok59 : okT Try.prog 59 = true := by kernel_rfl
theorem ze59 : zeroOf Try.prog 59 = .agg [.imm (.int .u32 0), .imm (.int .u32 0), .imm (.int .u32 0), .imm (.int .u32 0), .imm (.int .u64 0)] := by kernel_rfl
theorem by59 : (∀ i, Try.prog.info? 59 = some i → i.bytes ≤ 256) = True := eq_true (small_of (by kernel_rfl))
theorem ni59 : notInt (Try.prog.underlying 59) = True := eq_true (notInt_of (by kernel_rfl))
theorem sz62 : szOf Try.prog 62 = 16 := by kernel_rfl
theorem cz62 : Try.prog.cellsOf 62 = 16 := by kernel_rfl
theorem ok62 : okT Try.prog 62 = true := by kernel_rfl
theorem un62 : Try.prog.underlying 62 = some (.array 16 5) := by kernel_rfl
theorem ze62 : zeroOf Try.prog 62 = .agg [.imm (.int .u8 0), .imm (.int .u8 0), .imm (.int .u8 0), .imm (.int .u8 0), .imm (.int .u8 0), .imm (.int .u8 0), .imm (.int .u8 0), .imm (.int .u8 0), .imm (.int .u8 0), .imm (.int .u8 0), .imm (.int .u8 0), .imm (.int .u8 0), .imm (.int .u8 0), .imm (.int .u8 0), .imm (.int .u8 0), .imm (.int .u8 0)] := by kernel_rfl
theorem by62 : (∀ i, Try.prog.info? 62 = some i → i.bytes ≤ 256) = True := eq_true (small_of (by kernel_rfl))
theorem ni62 : notInt (Try.prog.underlying 62) = True := eq_true (notInt_of (by kernel_rfl))
theorem sz77 : szOf Try.prog 77 = 1 := by kernel_rfl
theorem cz77 : Try.prog.cellsOf 77 = 1 := by kernel_rfl
theorem ok77 : okT Try.prog 77 = true := by kernel_rfl
theorem un77 : Try.prog.underlying 77 = some (.int .u64) := by kernel_rfl
theorem ze77 : zeroOf Try.prog 77 = .imm (.int .u64 0) := by kernel_rfl
theorem by77 : (∀ i, Try.prog.info? 77 = some i → i.bytes ≤ 256) = True := eq_true (small_of (by kernel_rfl))
theorem sz79 : szOf Try.prog 79 = 16 := by kernel_rfl
theorem cz79 : Try.prog.cellsOf 79 = 16 := by kernel_rfl
theorem ok79 : okT Try.prog 79 = true := by kernel_rfl
theorem un79 : Try.prog.underlying 79 = some (.array 16 53) := by kernel_rfl
theorem ze79 : zeroOf Try.prog 79 = .agg [.imm (.int .u32 0), .imm (.int .u32 0), .imm (.int .u32 0), .imm (.int .u32 0), .imm (.int .u32 0), .imm (.int .u32 0), .imm (.int .u32 0), .imm (.int .u32 0), .imm (.int .u32 0), .imm (.int .u32 0), .imm (.int .u32 0), .imm (.int .u32 0), .imm (.int .u32 0), .imm (.int .u32 0), .imm (.int .u32 0), .imm (.int .u32 0)] := by kernel_rfl
theorem by79 : (∀ i, Try.prog.info? 79 = some i → i.bytes ≤ 256) = True := eq_true (small_of (by kernel_rfl))
theorem ni79 : notInt (Try.prog.underlying 79) = True := eq_true (notInt_of (by kernel_rfl))
theorem sz81 : szOf Try.prog 81 = 64 := by kernel_rfl
theorem cz81 : Try.prog.cellsOf 81 = 64 := by kernel_rfl
theorem ok81 : okT Try.prog 81 = true := by kernel_rfl
theorem un81 : Try.prog.underlying 81 = some (.array 64 53) := by kernel_rfl
theorem ze81 : zeroOf Try.prog 81 = .agg [.imm (.int .u32 0), .imm (.int .u32 0), .imm (.int .u32 0), .imm (.int .u32 0), .imm (.int .u32 0), .imm (.int .u32 0), .imm (.int .u32 0), .imm (.int .u32 0), .imm (.int .u32 0), .imm (.int .u32 0), .imm (.int .u32 0), .imm (.int .u32 0), .imm (.int .u32 0), .imm (.int .u32 0), .imm (.int .u32 0), .imm (.int .u32 0), .imm (.int .u32 0), .imm (.int .u32 0), .imm (.int .u32 0), .imm (.int .u32 0), .imm (.int .u32 0), .imm (.int .u32 0), .imm (.int .u32 0), .imm (.int .u32 0), .imm (.int .u32 0), .imm (.int .u32 0), .imm (.int .u32 0), .imm (.int .u32 0), .imm (.int .u32 0), .imm (.int .u32 0), .imm (.int .u32 0), .imm (.int .u32 0), .imm (.int .u32 0), .imm (.int .u32 0), .imm (.int .u32 0), .imm (.int .u32 0), .imm (.int .u32 0), .imm (.int .u32 0), .imm (.int .u32 0), .imm (.int .u32 0), .imm (.int .u32 0), .imm (.int .u32 0), .imm (.int .u32 0), .imm (.int .u32 0), .imm (.int .u32 0), .imm (.int .u32 0), .imm (.int .u32 0), .imm (.int .u32 0), .imm (.int .u32 0), .imm (.int .u32 0), .imm (.int .u32 0), .imm (.int .u32 0), .imm (.int .u32 0), .imm (.int .u32 0), .imm (.int .u32 0), .imm (.int .u32 0), .imm (.int .u32 0), .imm (.int .u32 0), .imm (.int .u32 0), .imm (.int .u32 0), .imm (.int .u32 0), .imm (.int .u32 0), .imm (.int .u32 0), .imm (.int .u32 0)] := by kernel_rfl
theorem by81 : (∀ i, Try.prog.info? 81 = some i → i.bytes ≤ 256) = True := eq_true (small_of (by kernel_rfl))
theorem ni81 : notInt (Try.prog.underlying 81) = True := eq_true (notInt_of (by kernel_rfl))
theorem sz83 : szOf Try.prog 83 = 4 := by kernel_rfl
theorem cz83 : Try.prog.cellsOf 83 = 4 := by kernel_rfl
theorem ok83 : okT Try.prog 83 = true := by kernel_rfl
theorem un83 : Try.prog.underlying 83 = some (.array 4 3) := by kernel_rfl
theorem ze83 : zeroOf Try.prog 83 = .agg [.imm (.int .i64 0), .imm (.int .i64 0), .imm (.int .i64 0), .imm (.int .i64 0)] := by kernel_rfl
theorem by83 : (∀ i, Try.prog.info? 83 = some i → i.bytes ≤ 256) = True := eq_true (small_of (by kernel_rfl))
theorem ni83 : notInt (Try.prog.underlying 83) = True := eq_true (notInt_of (by kernel_rfl))
theorem sz84 : szOf Try.prog 84 = 16 := by kernel_rfl
theorem cz84 : Try.prog.cellsOf 84 = 16 := by kernel_rfl
theorem ok84 : okT Try.prog 84 = true := by kernel_rfl
theorem un84 : Try.prog.underlying 84 = some (.array 4 83) := by kernel_rfl
theorem ze84 : zeroOf Try.prog 84 = .agg [.imm (.int .i64 0), .imm (.int .i64 0), .imm (.int .i64 0), .imm (.int .i64 0), .imm (.int .i64 0), .imm (.int .i64 0), .imm (.int .i64 0), .imm (.int .i64 0), .imm (.int .i64 0), .imm (.int .i64 0), .imm (.int .i64 0), .imm (.int .i64 0), .imm (.int .i64 0), .imm (.int .i64 0), .imm (.int .i64 0), .imm (.int .i64 0)] := by kernel_rfl
theorem by84 : (∀ i, Try.prog.info? 84 = some i → i.bytes ≤ 256) = True := eq_true (small_of (by kernel_rfl))
theorem ni84 : notInt (Try.prog.underlying 84) = True := eq_true (notInt_of (by kernel_rfl))
theorem sz89 : szOf Try.prog 89 = 1 := by kernel_rfl
theorem cz89 : Try.prog.cellsOf 89 = 1 := by kernel_rfl
theorem ok89 : okT Try.prog 89 = true := by kernel_rfl
theorem un89 : Try.prog.underlying 89 = some (.slice 77) := by kernel_rfl
theorem ze89 : zeroOf Try.prog 89 = .sl 0 true [] := by kernel_rfl
theorem by89 : (∀ i, Try.prog.info? 89 = some i → i.bytes ≤ 256) = True := eq_true (small_of (by kernel_rfl))
theorem ni89 : notInt (Try.prog.underlying 89) = True := eq_true (notInt_of (by kernel_rfl))
theorem sz92 : szOf Try.prog 92 = 3 := by kernel_rfl
theorem cz92 : Try.prog.cellsOf 92 = 3 := by kernel_rfl
theorem ok92 : okT Try.prog 92 = true := by kernel_rfl
theorem un92 : Try.prog.underlying 92 = some (.array 3 21) := by kernel_rfl
theorem ze92 : zeroOf Try.prog 92 = .agg [.imm (.int .i32 0), .imm (.int .i32 0), .imm (.int .i32 0)] := by kernel_rfl
theorem by92 : (∀ i, Try.prog.info? 92 = some i → i.bytes ≤ 256) = True := eq_true (small_of (by kernel_rfl))
theorem ni92 : notInt (Try.prog.underlying 92) = True := eq_true (notInt_of (by kernel_rfl))
theorem sz94 : szOf Try.prog 94 = 4 := by kernel_rfl
theorem cz94 : Try.prog.cellsOf 94 = 4 := by kernel_rfl
theorem ok94 : okT Try.prog 94 = true := by kernel_rfl
theorem ze94 : zeroOf Try.prog 94 = .agg [.imm (.pointer none), .imm (.pointer none), .imm (.pointer none), .imm (.string ByteArray.empty)] := by kernel_rfl
theorem by94 : (∀ i, Try.prog.info? 94 = some i → i.bytes ≤ 256) = True := eq_true (small_of (by kernel_rfl))
theorem ni94 : notInt (Try.prog.underlying 94) = True := eq_true (notInt_of (by kernel_rfl))
theorem sz95 : szOf Try.prog 95 = 4 := by kernel_rfl
theorem cz95 : Try.prog.cellsOf 95 = 4 := by kernel_rfl
theorem ok95 : okT Try.prog 95 = true := by kernel_rfl
theorem ze95 : zeroOf Try.prog 95 = .agg [.imm (.pointer none), .imm (.pointer none), .imm (.pointer none), .imm (.string ByteArray.empty)] := by kernel_rfl
theorem by95 : (∀ i, Try.prog.info? 95 = some i → i.bytes ≤ 256) = True := eq_true (small_of (by kernel_rfl))
theorem ni95 : notInt (Try.prog.underlying 95) = True := eq_true (notInt_of (by kernel_rfl))
theorem sz96 : szOf Try.prog 96 = 0 := by kernel_rfl
theorem cz96 : Try.prog.cellsOf 96 = 0 := by kernel_rfl
theorem ok96 : okT Try.prog 96 = true := by kernel_rfl
theorem un96 : Try.prog.underlying 96 = some (.array 0 16) := by kernel_rfl
theorem ze96 : zeroOf Try.prog 96 = .agg [] := by kernel_rfl
theorem by96 : (∀ i, Try.prog.info? 96 = some i → i.bytes ≤ 256) = True := eq_true (small_of (by kernel_rfl))
theorem ni96 : notInt (Try.prog.underlying 96) = True := eq_true (notInt_of (by kernel_rfl))
theorem sz97 : szOf Try.prog 97 = 0 := by kernel_rfl
theorem cz97 : Try.prog.cellsOf 97 = 0 := by kernel_rfl
theorem ok97 : okT Try.prog 97 = true := by kernel_rfl
theorem ze97 : zeroOf Try.prog 97 = .agg [] := by kernel_rfl
theorem by97 : (∀ i, Try.prog.info? 97 = some i → i.bytes ≤ 256) = True := eq_true (small_of (by kernel_rfl))
theorem ni97 : notInt (Try.prog.underlying 97) = True := eq_true (notInt_of (by kernel_rfl))
theorem sz98 : szOf Try.prog 98 = 0 := by kernel_rfl
theorem cz98 : Try.prog.cellsOf 98 = 0 := by kernel_rfl
theorem ok98 : okT Try.prog 98 = true := by kernel_rfl
theorem ze98 : zeroOf Try.prog 98 = .agg [] := by kernel_rfl
theorem by98 : (∀ i, Try.prog.info? 98 = some i → i.bytes ≤ 256) = True := eq_true (small_of (by kernel_rfl))
theorem ni98 : notInt (Try.prog.underlying 98) = True := eq_true (notInt_of (by kernel_rfl))
theorem sz100 : szOf Try.prog 100 = 1 := by kernel_rfl
theorem cz100 : Try.prog.cellsOf 100 = 1 := by kernel_rfl
theorem ok100 : okT Try.prog 100 = true := by kernel_rfl
theorem un100 : Try.prog.underlying 100 = some (.int .u8) := by kernel_rfl
theorem ze100 : zeroOf Try.prog 100 = .imm (.int .u8 0) := by kernel_rfl
theorem by100 : (∀ i, Try.prog.info? 100 = some i → i.bytes ≤ 256) = True := eq_true (small_of (by kernel_rfl))
theorem sz101 : szOf Try.prog 101 = 1 := by kernel_rfl
theorem cz101 : Try.prog.cellsOf 101 = 1 := by kernel_rfl
theorem ok101 : okT Try.prog 101 = true := by kernel_rfl
theorem un101 : Try.prog.underlying 101 = some (.int .u8) := by kernel_rfl
theorem ze101 : zeroOf Try.prog 101 = .imm (.int .u8 0) := by kernel_rfl
theorem by101 : (∀ i, Try.prog.info? 101 = some i → i.bytes ≤ 256) = True := eq_true (small_of (by kernel_rfl))
theorem sz103 : szOf Try.prog 103 = 1 := by kernel_rfl
theorem cz103 : Try.prog.cellsOf 103 = 1 := by kernel_rfl
theorem ok103 : okT Try.prog 103 = true := by kernel_rfl
theorem un103 : Try.prog.underlying 103 = some (.pointer 5) := by kernel_rfl
theorem ze103 : zeroOf Try.prog 103 = .imm (.pointer none) := by kernel_rfl
theorem by103 : (∀ i, Try.prog.info? 103 = some i → i.bytes ≤ 256) = True := eq_true (small_of (by kernel_rfl))
theorem ni103 : notInt (Try.prog.underlying 103) = True := eq_true (notInt_of (by kernel_rfl))
theorem sz104 : szOf Try.prog 104 = 1 := by kernel_rfl
theorem cz104 : Try.prog.cellsOf 104 = 1 := by kernel_rfl
theorem ok104 : okT Try.prog 104 = true := by kernel_rfl
theorem un104 : Try.prog.underlying 104 = some (.int .i32) := by kernel_rfl
theorem ze104 : zeroOf Try.prog 104 = .imm (.int .i32 0) := by kernel_rfl
theorem by104 : (∀ i, Try.prog.info? 104 = some i → i.bytes ≤ 256) = True := eq_true (small_of (by kernel_rfl))
theorem sz105 : szOf Try.prog 105 = 1 := by kernel_rfl
theorem cz105 : Try.prog.cellsOf 105 = 1 := by kernel_rfl
theorem ok105 : okT Try.prog 105 = true := by kernel_rfl
theorem un105 : Try.prog.underlying 105 = some (.int .i32) := by kernel_rfl
theorem ze105 : zeroOf Try.prog 105 = .imm (.int .i32 0) := by kernel_rfl
theorem by105 : (∀ i, Try.prog.info? 105 = some i → i.bytes ≤ 256) = True := eq_true (small_of (by kernel_rfl))
theorem sz106 : szOf Try.prog 106 = 11 := by kernel_rfl
theorem cz106 : Try.prog.cellsOf 106 = 11 := by kernel_rfl
theorem ok106 : okT Try.prog 106 = true := by kernel_rfl
theorem ze106 : zeroOf Try.prog 106 = .agg [.imm (.int .u64 0), .imm (.int .u64 0), .imm (.int .u32 0), .imm (.int .u8 0), .imm (.int .u8 0), .imm (.int .u8 0), .imm (.int .u8 0), .imm .nilFunc, .imm (.pointer none), .imm (.int .i32 0), .imm (.int .i32 0)] := by kernel_rfl
theorem by106 : (∀ i, Try.prog.info? 106 = some i → i.bytes ≤ 256) = True := eq_true (small_of (by kernel_rfl))
theorem ni106 : notInt (Try.prog.underlying 106) = True := eq_true (notInt_of (by kernel_rfl))
theorem sz107 : szOf Try.prog 107 = 11 := by kernel_rfl
theorem cz107 : Try.prog.cellsOf 107 = 11 := by kernel_rfl
theorem ok107 : okT Try.prog 107 = true := by kernel_rfl
theorem ze107 : zeroOf Try.prog 107 = .agg [.imm (.int .u64 0), .imm (.int .u64 0), .imm (.int .u32 0), .imm (.int .u8 0), .imm (.int .u8 0), .imm (.int .u8 0), .imm (.int .u8 0), .imm .nilFunc, .imm (.pointer none), .imm (.int .i32 0), .imm (.int .i32 0)] := by kernel_rfl
theorem by107 : (∀ i, Try.prog.info? 107 = some i → i.bytes ≤ 256) = True := eq_true (small_of (by kernel_rfl))
theorem ni107 : notInt (Try.prog.underlying 107) = True := eq_true (notInt_of (by kernel_rfl))
theorem sz108 : szOf Try.prog 108 = 1 := by kernel_rfl
theorem cz108 : Try.prog.cellsOf 108 = 1 := by kernel_rfl
theorem ok108 : okT Try.prog 108 = true := by kernel_rfl
theorem ze108 : zeroOf Try.prog 108 = .imm (.pointer none) := by kernel_rfl
theorem by108 : (∀ i, Try.prog.info? 108 = some i → i.bytes ≤ 256) = True := eq_true (small_of (by kernel_rfl))
theorem ni108 : notInt (Try.prog.underlying 108) = True := eq_true (notInt_of (by kernel_rfl))
theorem rs0 : Try.f0.results.toList = [] := by kernel_rfl
theorem rs1 : Try.f1.results.toList = [] := by kernel_rfl
theorem rs2 : Try.f2.results.toList = [] := by kernel_rfl
theorem rs3 : Try.f3.results.toList = [.tmp 2] := by kernel_rfl
theorem rs4 : Try.f4.results.toList = [.tmp 4] := by kernel_rfl
theorem rs5 : Try.f5.results.toList = [.tmp 4] := by kernel_rfl
theorem rs6 : Try.f6.results.toList = [.tmp 6] := by kernel_rfl
theorem rs7 : Try.f7.results.toList = [.tmp 4] := by kernel_rfl
theorem rs8 : Try.f8.results.toList = [.tmp 4] := by kernel_rfl
theorem rs9 : Try.f9.results.toList = [.tmp 6] := by kernel_rfl
theorem rs10 : Try.f10.results.toList = [.tmp 4] := by kernel_rfl
theorem rs11 : Try.f11.results.toList = [.tmp 2] := by kernel_rfl
theorem rs12 : Try.f12.results.toList = [.tmp 2] := by kernel_rfl
theorem rs13 : Try.f13.results.toList = [.tmp 2] := by kernel_rfl
theorem rs14 : Try.f14.results.toList = [.tmp 2] := by kernel_rfl
theorem rs15 : Try.f15.results.toList = [.tmp 2] := by kernel_rfl
theorem rs16 : Try.f16.results.toList = [.tmp 2] := by kernel_rfl
theorem rs17 : Try.f17.results.toList = [.cell 4 30, .tmp 5] := by kernel_rfl
theorem rs18 : Try.f18.results.toList = [.cell 4 27, .tmp 5] := by kernel_rfl
theorem rs19 : Try.f19.results.toList = [.tmp 4, .tmp 5] := by kernel_rfl
theorem rs20 : Try.f20.results.toList = [.tmp 4] := by kernel_rfl
theorem rs21 : Try.f21.results.toList = [.tmp 4] := by kernel_rfl
theorem rs22 : Try.f22.results.toList = [.tmp 4] := by kernel_rfl
theorem rs23 : Try.f23.results.toList = [.tmp 2, .tmp 3] := by kernel_rfl
theorem rs24 : Try.f24.results.toList = [.tmp 2, .tmp 3] := by kernel_rfl
theorem rs25 : Try.f25.results.toList = [.tmp 2] := by kernel_rfl
theorem rs26 : Try.f26.results.toList = [.tmp 2] := by kernel_rfl
theorem rs27 : Try.f27.results.toList = [.tmp 2] := by kernel_rfl
theorem rs28 : Try.f28.results.toList = [.tmp 2, .tmp 3] := by kernel_rfl
theorem rs29 : Try.f29.results.toList = [.tmp 2, .tmp 3] := by kernel_rfl
theorem rs30 : Try.f30.results.toList = [.tmp 2] := by kernel_rfl
theorem rs31 : Try.f31.results.toList = [.tmp 2] := by kernel_rfl
theorem rs32 : Try.f32.results.toList = [.tmp 2] := by kernel_rfl
theorem rs33 : Try.f33.results.toList = [.tmp 2, .tmp 3] := by kernel_rfl
theorem rs34 : Try.f34.results.toList = [.cell 4 57] := by kernel_rfl
theorem rs35 : Try.f35.results.toList = [.cell 4 59] := by kernel_rfl
theorem rs36 : Try.f36.results.toList = [.cell 4 62] := by kernel_rfl
theorem rs37 : Try.f37.results.toList = [.cell 4 62] := by kernel_rfl
theorem rs38 : Try.f38.results.toList = [.cell 0 57] := by kernel_rfl
theorem rs39 : Try.f39.results.toList = [.cell 0 59] := by kernel_rfl
theorem rs40 : Try.f40.results.toList = [.cell 2 62] := by kernel_rfl
theorem rs41 : Try.f41.results.toList = [.cell 2 62] := by kernel_rfl
theorem rs42 : Try.f42.results.toList = [.tmp 2] := by kernel_rfl
theorem rs43 : Try.f43.results.toList = [.tmp 2] := by kernel_rfl
theorem rs44 : Try.f44.results.toList = [.tmp 2, .tmp 3] := by kernel_rfl
theorem rs45 : Try.f45.results.toList = [.tmp 2] := by kernel_rfl
theorem rs46 : Try.f46.results.toList = [.tmp 2] := by kernel_rfl
theorem rs47 : Try.f47.results.toList = [.tmp 2] := by kernel_rfl
theorem rs48 : Try.f48.results.toList = [.tmp 2] := by kernel_rfl
theorem rs49 : Try.f49.results.toList = [.tmp 2] := by kernel_rfl
theorem rs50 : Try.f50.results.toList = [.tmp 5] := by kernel_rfl
theorem rs51 : Try.f51.results.toList = [.tmp 2] := by kernel_rfl
theorem rs52 : Try.f52.results.toList = [.tmp 2] := by kernel_rfl
theorem rs53 : Try.f53.results.toList = [.tmp 2] := by kernel_rfl
theorem rs54 : Try.f54.results.toList = [.tmp 2] := by kernel_rfl
theorem rs55 : Try.f55.results.toList = [.tmp 2] := by kernel_rfl
theorem rs56 : Try.f56.results.toList = [.tmp 2, .tmp 3] := by kernel_rfl
theorem rs57 : Try.f57.results.toList = [.tmp 2] := by kernel_rfl
theorem rs58 : Try.f58.results.toList = [.tmp 2] := by kernel_rfl
theorem rs59 : Try.f59.results.toList = [.cell 2 79] := by kernel_rfl
theorem rs60 : Try.f60.results.toList = [.cell 0 81] := by kernel_rfl
theorem rs61 : Try.f61.results.toList = [.cell 0 84] := by kernel_rfl
theorem rs62 : Try.f62.results.toList = [.tmp 8, .tmp 9] := by kernel_rfl
theorem rs63 : Try.f63.results.toList = [.tmp 4] := by kernel_rfl
theorem rs64 : Try.f64.results.toList = [.cell 0 81] := by kernel_rfl
theorem rs65 : Try.f65.results.toList = [.tmp 2] := by kernel_rfl
theorem rs66 : Try.f66.results.toList = [.tmp 4] := by kernel_rfl
theorem rs67 : Try.f67.results.toList = [] := by kernel_rfl
theorem rs68 : Try.f68.results.toList = [] := by kernel_rfl
theorem rs69 : Try.f69.results.toList = [] := by kernel_rfl
theorem rs70 : Try.f70.results.toList = [] := by kernel_rfl
theorem rs71 : Try.f71.results.toList = [] := by kernel_rfl
theorem rs72 : Try.f72.results.toList = [] := by kernel_rfl
theorem rs73 : Try.f73.results.toList = [] := by kernel_rfl
theorem rs74 : Try.f74.results.toList = [] := by kernel_rfl
theorem rs75 : Try.f75.results.toList = [] := by kernel_rfl
theorem rs76 : Try.f76.results.toList = [] := by kernel_rfl
theorem rs77 : Try.f77.results.toList = [] := by kernel_rfl
theorem rs78 : Try.f78.results.toList = [] := by kernel_rfl
theorem rs79 : Try.f79.results.toList = [] := by kernel_rfl
theorem rs80 : Try.f80.results.toList = [] := by kernel_rfl
theorem rs81 : Try.f81.results.toList = [] := by kernel_rfl
theorem rs82 : Try.f82.results.toList = [] := by kernel_rfl
end Go.Proofs.YtcnkndmegnfofaaX

/- The laws that a run goes by. -/
namespace Go.Proofs.YtcnkndmegnfofaaX
open Go Go.RowKit Go.Proofs
attribute [go_sem ↓] stepsK_call drawK_call opW binW binV intW strW pickW fieldW indexW extractW unW loadW loadP fieldAddrW indexAddrW endsW sliceW buildW buildSliceW makeW convertW storeW newsW appendW elemsW nilW lenW min2W max2W builtinW ifaceW partW boolW_true boolW_false
attribute [go_sem] endK_q endK_seq endK_seq_exit endK_seq_ret endK_blk endK_blk_ret endK_blk_exit roundsK_succ endK_lp endK_lp_exit endK_lp_ret runK_skip runK_exit runK_ret runK_seq runK_block runK_cond runK_region runK_draw stepsK_nil callK callE stepsK_cons stepsK_ift stepsK_iff drawK_nil drawK_cons drawK_ift drawK_iff rootsK_nil rootsK_cons loopQ_normal loopQ_exit loopQ_ret lookS_at liteL dstsL gL St.is evalT ofVal ofVals St.after St.put St.upd St.eff quietE eOp effB trims trim setCells fillT fillE patchT isJunk leafT T.cells oneT RetQ
attribute [go_sem] resW retT St.lockAll Own.lockAll dsnap dsnapL snap closedT closedL rootsOf rootOf St.frzT St.frzL St.frz kill killL Own.kill aggD List.getD_cons_zero List.getD_cons_succ List.getD_nil List.set_cons_zero List.set_cons_succ List.set_nil List.flatMap_cons List.flatMap_nil List.append_nil List.nil_append List.cons_append List.map_cons List.map_nil List.filterMap_cons List.filterMap_nil List.find?_cons List.find?_nil List.getElem?_cons_zero List.getElem?_cons_succ List.getElem?_nil List.length_cons List.length_nil List.replicate List.contains_cons List.contains_nil List.take_zero List.drop_zero List.take_succ_cons List.drop_succ_cons List.all_cons List.all_nil List.size_toArray List.getElem?_toArray Array.toList_map List.map_toArray Option.some_beq_some Option.none_beq_some Option.some_beq_none Option.map_some Option.map_none Option.bind_some Option.bind_none
attribute [go_sem] Option.some.injEq ne_eq not_false_eq_true not_true_eq_false true_and and_true and_false false_and Bool.false_eq_true Bool.true_eq_false forall_const false_imp_iff true_imp_iff imp_self beq_self_eq_true or_true true_or or_false false_or if_true if_false ite_true ite_false Bool.or_true Bool.true_or Bool.and_true Bool.true_and Bool.false_or Bool.or_false Bool.false_and Bool.and_false Bool.not_true Bool.not_false decide_true decide_false Nat.lt_irrefl Nat.le_refl Nat.zero_add Nat.add_zero Nat.zero_mul Nat.mul_one Nat.mul_zero Nat.zero_le Go.IntWalk.i64_in Go.IntWalk.i32_in Go.IntWalk.u8_in Go.IntWalk.u32_in Go.IntWalk.u64_in gt_iff_lt ge_iff_le Int.cast_ofNat_Int Option.isNone_some Option.isNone_none Option.isSome_some Option.isSome_none Nat.zero_max Nat.max_zero Nat.max_self List.take_length List.take_of_length_le
attribute [go_sem] List.length_append List.length_map
attribute [go_sem] rs0 rs1 rs2 rs3 rs4 rs5 rs6 rs7 rs8 rs9 rs10 rs11 rs12 rs13 rs14 rs15 rs16 rs17 rs18 rs19 rs20 rs21 rs22 rs23 rs24 rs25 rs26 rs27 rs28 rs29 rs30 rs31 rs32 rs33 rs34 rs35 rs36 rs37 rs38 rs39 rs40 rs41 rs42 rs43 rs44 rs45 rs46 rs47 rs48 rs49 rs50 rs51 rs52 rs53 rs54 rs55 rs56 rs57 rs58 rs59
attribute [go_sem] rs60 rs61 rs62 rs63 rs64 rs65 rs66 rs67 rs68 rs69 rs70 rs71 rs72 rs73 rs74 rs75 rs76 rs77 rs78 rs79 rs80 rs81 rs82 un2 sz2 cz2 ok2 ze2 by2 un3 sz3 cz3 ok3 ze3 by3 un4 sz4 cz4 ok4 ze4 by4 ni4 un5 sz5 cz5 ok5 ze5 by5 un6 sz6 cz6 ok6 ze6 by6 sz7 cz7 ok7 ze7 by7 ni7
attribute [go_sem] sz8 cz8 ok8 ze8 by8 ni8 un9 sz9 cz9 ok9 ze9 by9 ni9 un10 sz10 cz10 ok10 ze10 by10 ni10 un11 sz11 cz11 ok11 ze11 by11 ni11 un12 sz12 cz12 ok12 ze12 by12 sz13 cz13 ok13 ze13 by13 ni13 sz14 cz14 ok14 ze14 by14 ni14 un15 sz15 cz15 ok15 ze15 by15 ni15 un16 sz16 cz16 ok16 ze16 by16 ni16 un17
attribute [go_sem] sz17 cz17 ok17 ze17 by17 ni17 sz18 cz18 ok18 ze18 by18 ni18 sz19 cz19 ok19 ze19 by19 ni19 sz20 cz20 ok20 ze20 by20 ni20 un21 sz21 cz21 ok21 ze21 by21 un25 sz25 cz25 ok25 ze25 by25 ni25 sz26 cz26 ok26 ze26 by26 ni26 sz27 cz27 ok27 ze27 by27 ni27 un28 sz28 cz28 ok28 ze28 by28 ni28 sz29 cz29 ok29 ze29
attribute [go_sem] by29 ni29 sz30 cz30 ok30 ze30 by30 ni30 un39 sz39 cz39 ok39 ze39 by39 ni39 un53 sz53 cz53 ok53 ze53 by53 un54 sz54 cz54 ok54 ze54 by54 ni54 un55 sz55 cz55 ok55 ze55 by55 sz56 cz56 ok56 ze56 by56 ni56 sz57 cz57 ok57 ze57 by57 ni57 un58 sz58 cz58 ok58 ze58 by58 ni58 sz59 cz59 ok59 ze59 by59 ni59 un62
attribute [go_sem] sz62 cz62 ok62 ze62 by62 ni62 un77 sz77 cz77 ok77 ze77 by77 un79 sz79 cz79 ok79 ze79 by79 ni79 un81 sz81 cz81 ok81 ze81 by81 ni81 un83 sz83 cz83 ok83 ze83 by83 ni83 un84 sz84 cz84 ok84 ze84 by84 ni84 un89 sz89 cz89 ok89 ze89 by89 ni89 un92 sz92 cz92 ok92 ze92 by92 ni92 sz94 cz94 ok94 ze94 by94 ni94
attribute [go_sem] sz95 cz95 ok95 ze95 by95 ni95 un96 sz96 cz96 ok96 ze96 by96 ni96 sz97 cz97 ok97 ze97 by97 ni97 sz98 cz98 ok98 ze98 by98 ni98 un100 sz100 cz100 ok100 ze100 by100 un101 sz101 cz101 ok101 ze101 by101 un103 sz103 cz103 ok103 ze103 by103 ni103 un104 sz104 cz104 ok104 ze104 by104 un105 sz105 cz105 ok105 ze105 by105 sz106 cz106 ok106 ze106
attribute [go_sem] by106 ni106 sz107 cz107 ok107 ze107 by107 ni107 sz108 cz108 ok108 ze108 by108 ni108
end Go.Proofs.YtcnkndmegnfofaaX

/- Words for what functions answer. -/
set_option linter.unusedVariables false
namespace Go.Proofs.YtcnkndmegnfofaaX
open Go Go.RowKit Go.Proofs
abbrev i32 (n : Int) : T := .imm (.int .i32 n)
abbrev i64 (n : Int) : T := .imm (.int .i64 n)
abbrev u8 (n : Int) : T := .imm (.int .u8 n)
abbrev u32 (n : Int) : T := .imm (.int .u32 n)
abbrev u64 (n : Int) : T := .imm (.int .u64 n)
abbrev tb (b : Bool) : T := .imm (.bool b)
abbrev ts (s : ByteArray) : T := .imm (.string s)
theorem tb_eq {a b : Bool} (h : a = b) : T.imm (.bool a) = .imm (.bool b) := by rw [h]
theorem tb_iff {p : Prop} [Decidable p] {b : Bool} (h : b = true ↔ p) : T.imm (.bool b) = .imm (.bool (decide p)) := by
  refine tb_eq ?_
  cases b with
  | true => exact (decide_eq_true (h.1 rfl)).symm
  | false => exact (decide_eq_false fun hp => Bool.noConfusion (h.2 hp)).symm
theorem imm_eq {k : IntKind} {a b : Int} (h : a = b) : T.imm (.int k a) = .imm (.int k b) := by rw [h]
theorem str_eq {a b : ByteArray} (h : a = b) : T.imm (.string a) = .imm (.string b) := by rw [h]
theorem sl_eq {sz : Nat} {f : Bool} {a b : List T} (h : a = b) : T.sl sz f a = .sl sz f b := by rw [h]
theorem boolW_mk {b : Bool} {A B : Prop} (h1 : b = true → A) (h2 : b = false → B) : boolW b A B := ⟨h1, h2⟩
theorem boolD_mk {p : Prop} [Decidable p] {A B : Prop} (h1 : p → A) (h2 : ¬ p → B) : boolW (decide p) A B := ⟨fun h => h1 (of_decide_eq_true h), fun h => h2 (of_decide_eq_false h)⟩
theorem wf_of {k : IntKind} {n : Int} (h : (Lit.int k n).wf = true) : k.min ≤ n ∧ n ≤ k.max := by
  simpa [Lit.wf] using h
theorem wf_i32 {n : Int} (h : (Lit.int .i32 n).wf = true) : -2147483648 ≤ n ∧ n ≤ 2147483647 := wf_of h
theorem wf_i64 {n : Int} (h : (Lit.int .i64 n).wf = true) : -9223372036854775808 ≤ n ∧ n ≤ 9223372036854775807 := wf_of h
theorem wf_u8 {n : Int} (h : (Lit.int .u8 n).wf = true) : 0 ≤ n ∧ n ≤ 255 := wf_of h
theorem wf_u32 {n : Int} (h : (Lit.int .u32 n).wf = true) : 0 ≤ n ∧ n ≤ 4294967295 := wf_of h
theorem wf_u64 {n : Int} (h : (Lit.int .u64 n).wf = true) : 0 ≤ n ∧ n ≤ 18446744073709551615 := wf_of h
end Go.Proofs.YtcnkndmegnfofaaX

/- Bits of numbers that are not below zero. -/
set_option linter.unusedVariables false
namespace Go.Proofs.YtcnkndmegnfofaaX
open Go Go.RowKit Go.Proofs
theorem ofInt_nat (w : Nat) (n : Nat) (h : n < 2 ^ w) : (BitVec.ofInt w (n : Int)).toNat = n := by
  rw [BitVec.ofInt_natCast, BitVec.toNat_ofNat, Nat.mod_eq_of_lt h]
theorem or_low (i a b : Nat) (ha : a % 2 ^ i = 0) (hb : b < 2 ^ i) : a ||| b = a + b := by
  obtain ⟨q, rfl⟩ : ∃ q, a = 2 ^ i * q := ⟨a / 2 ^ i, by have := Nat.div_add_mod a (2 ^ i); omega⟩
  exact (Nat.two_pow_add_eq_or_of_lt hb q).symm
/-- Bits beside others are a sum. -/
theorem or_add (w i : Nat) (x y : Int) (hx : 0 ≤ x) (hxw : x < 2 ^ w) (hd : x % 2 ^ i = 0) (hy : 0 ≤ y) (hyi : y < 2 ^ i) (hiw : i ≤ w) : ((BitVec.ofInt w x ||| BitVec.ofInt w y).toNat : Int) = x + y := by
  obtain ⟨a, rfl⟩ := Int.eq_ofNat_of_zero_le hx
  obtain ⟨b, rfl⟩ := Int.eq_ofNat_of_zero_le hy
  have e : ((2 : Int) ^ i) = ((2 ^ i : Nat) : Int) := by simp
  have e' : ((2 : Int) ^ w) = ((2 ^ w : Nat) : Int) := by simp
  rw [e] at hd hyi
  rw [e'] at hxw
  have hle : 2 ^ i ≤ 2 ^ w := Nat.pow_le_pow_right (by omega) hiw
  rw [BitVec.toNat_or, ofInt_nat w a (by omega), ofInt_nat w b (by omega), or_low i a b (by omega) (by omega)]
  omega
theorem and_low (w i : Nat) (x : Int) (hx : 0 ≤ x) (hxw : x < 2 ^ w) (hiw : i ≤ w) (m : Int) (hm : m = 2 ^ i - 1) : ((BitVec.ofInt w x &&& BitVec.ofInt w m).toNat : Int) = x % 2 ^ i := by
  obtain ⟨a, rfl⟩ := Int.eq_ofNat_of_zero_le hx
  have e : ((2 : Int) ^ i) = ((2 ^ i : Nat) : Int) := by simp
  have e' : ((2 : Int) ^ w) = ((2 ^ w : Nat) : Int) := by simp
  rw [e'] at hxw
  have hle : 2 ^ i ≤ 2 ^ w := Nat.pow_le_pow_right (by omega) hiw
  have hp : 0 < 2 ^ i := Nat.two_pow_pos i
  have hm' : m = ((2 ^ i - 1 : Nat) : Int) := by omega
  subst hm'
  rw [BitVec.toNat_and, ofInt_nat w a (by omega), ofInt_nat w _ (by omega), Nat.and_two_pow_sub_one_eq_mod, e]
  omega
theorem bOr_add (k : IntKind) (i : Nat) (x y : Int) (hx : 0 ≤ x) (hxw : x < 2 ^ k.bits) (hd : x % 2 ^ i = 0) (hy : 0 ≤ y) (hyi : y < 2 ^ i) (hiw : i ≤ k.bits) : bOr k x y = x + y := or_add k.bits i x y hx hxw hd hy hyi hiw
theorem bAnd_low (k : IntKind) (i : Nat) (x : Int) (hx : 0 ≤ x) (hxw : x < 2 ^ k.bits) (hiw : i ≤ k.bits) (m : Int) (hm : m = 2 ^ i - 1) : bAnd k x m = x % 2 ^ i := and_low k.bits i x hx hxw hiw m hm
theorem bShr_div (k : IntKind) (x : Int) (n : Nat) (m : Int) (h : (2 : Int) ^ min n k.bits = m) (hm : 0 ≤ m) : bShr k x n = x / m := by unfold bShr; rw [h, Int.fdiv_eq_ediv_of_nonneg _ hm]
end Go.Proofs.YtcnkndmegnfofaaX

/- utf: what its functions answer. -/
set_option linter.unusedVariables false
set_option linter.unusedSimpArgs false
namespace Go.Proofs.YtcnkndmegnfofaaX
open Go Go.RowKit Go.Proofs
set_option maxRecDepth 100000

def rightU (c : Int) : Prop := 0 ≤ c ∧ c ≤ 1114111 ∧ (c < 55296 ∨ 57343 < c)
instance (c : Int) : Decidable (rightU c) := by unfold rightU; exact inferInstance
def sizeU (c : Int) : Int := if c < 128 then 1 else if c < 2048 then 2 else if c < 65536 then 3 else 4
/-- A character's bytes. -/
def putU (c : Int) : List Int :=
  if ¬ rightU c then [] else if c < 128 then [c] else if c < 2048 then [192 + c / 64, 128 + c % 64]
  else if c < 65536 then [224 + c / 4096, 128 + c / 64 % 64, 128 + c % 64]
  else [240 + c / 262144, 128 + c / 4096 % 64, 128 + c / 64 % 64, 128 + c % 64]

theorem utf_right (c : Int) : FnC Try.prog 51 [i32 c] (tb (decide (rightU c))) := by
  refine FnC.go mixed Try.func51 (by kernel_rfl) rfl (by kernel_rfl) ?_
  simp only [Try.ntmps51, List.length_cons, List.length_nil, List.replicate, List.cons_append, List.nil_append, Nat.reduceAdd, Nat.reduceSub]
  simp -implicitDefEqProofs (maxSteps := 2000000) only [go_sem, reduceCtorEq, Int.reduceEq, Nat.reduceAdd, Nat.reduceSub, Nat.reduceMul, Nat.reduceLT, Nat.reduceLeDiff, Nat.reduceEqDiff, Nat.reduceBEq, Int.reduceToNat, Int.reduceLT, Int.reduceLE, Int.reduceGT, Int.reduceGE, Int.reduceAdd, Int.reduceSub, Int.reduceMul, Int.reduceNeg, Int.reduceBEq, Int.reduceBNe, Int.reducePow, Int.reduceDiv, Int.reduceMod, Int.reduceTDiv, Int.reduceTMod, Int.reduceNatCast]
  refine boolD_mk (fun h => boolD_mk (fun h1 => boolD_mk (fun h2 => ?_) fun h2 => ?_) fun h1 => ?_) fun h => ?_ <;> refine tb_iff ?_ <;> simp [rightU] <;> omega
theorem utf_lead (n : Int) (h : 1 ≤ n ∧ n ≤ 4) : FnC Try.prog 53 [i64 n] (i32 (if n = 1 then 0 else if n = 2 then 192 else if n = 3 then 224 else 240)) := by
  refine FnC.go mixed Try.func53 (by kernel_rfl) rfl (by kernel_rfl) ?_
  simp only [Try.ntmps53, List.length_cons, List.length_nil, List.replicate, List.cons_append, List.nil_append, Nat.reduceAdd, Nat.reduceSub]
  simp -implicitDefEqProofs (maxSteps := 2000000) only [go_sem, reduceCtorEq, Int.reduceEq, Nat.reduceAdd, Nat.reduceSub, Nat.reduceMul, Nat.reduceLT, Nat.reduceLeDiff, Nat.reduceEqDiff, Nat.reduceBEq, Int.reduceToNat, Int.reduceLT, Int.reduceLE, Int.reduceGT, Int.reduceGE, Int.reduceAdd, Int.reduceSub, Int.reduceMul, Int.reduceNeg, Int.reduceBEq, Int.reduceBNe, Int.reducePow, Int.reduceDiv, Int.reduceMod, Int.reduceTDiv, Int.reduceTMod, Int.reduceNatCast]
  rcases (show n = 1 ∨ n = 2 ∨ n = 3 ∨ n = 4 by omega) with rfl | rfl | rfl | rfl
  · exact ⟨fun _ => rfl, fun h => by simp at h⟩
  all_goals exact ⟨fun h => by simp at h, fun _ => ⟨by decide +kernel, imm_eq (by decide +kernel)⟩⟩
theorem utf_size (c : Int) : FnC Try.prog 52 [i32 c] (i64 (sizeU c)) := by
  refine FnC.go mixed Try.func52 (by kernel_rfl) rfl (by kernel_rfl) ?_
  simp only [Try.ntmps52, List.length_cons, List.length_nil, List.replicate, List.cons_append, List.nil_append, Nat.reduceAdd, Nat.reduceSub]
  simp -implicitDefEqProofs (maxSteps := 2000000) only [go_sem, reduceCtorEq, Int.reduceEq, Nat.reduceAdd, Nat.reduceSub, Nat.reduceMul, Nat.reduceLT, Nat.reduceLeDiff, Nat.reduceEqDiff, Nat.reduceBEq, Int.reduceToNat, Int.reduceLT, Int.reduceLE, Int.reduceGT, Int.reduceGE, Int.reduceAdd, Int.reduceSub, Int.reduceMul, Int.reduceNeg, Int.reduceBEq, Int.reduceBNe, Int.reducePow, Int.reduceDiv, Int.reduceMod, Int.reduceTDiv, Int.reduceTMod, Int.reduceNatCast]
  refine runK_rounds mixed (by kernel_rfl) 4 ?_
  simp -implicitDefEqProofs (maxSteps := 2000000) only [go_sem, reduceCtorEq, Int.reduceEq, Nat.reduceAdd, Nat.reduceSub, Nat.reduceMul, Nat.reduceLT, Nat.reduceLeDiff, Nat.reduceEqDiff, Nat.reduceBEq, Int.reduceToNat, Int.reduceLT, Int.reduceLE, Int.reduceGT, Int.reduceGE, Int.reduceAdd, Int.reduceSub, Int.reduceMul, Int.reduceNeg, Int.reduceBEq, Int.reduceBNe, Int.reducePow, Int.reduceDiv, Int.reduceMod, Int.reduceTDiv, Int.reduceTMod, Int.reduceNatCast]
  repeat' (first | apply boolD_mk | intro _)
  all_goals (refine imm_eq ?_; unfold sizeU; omega)
theorem leadB (L d : Int) (i : Nat) (hi : i ≤ 8) (h0 : 0 ≤ d) (h1 : d < 2 ^ i) (hL : L % 2 ^ i = 0) (hL0 : 0 ≤ L) (hs : L + d ≤ 255) : IntKind.u8.wrap (IntKind.i32.wrap (bOr .i32 L d)) = L + d := by
  have e : (2 : Int) ^ IntKind.i32.bits = 4294967296 := by decide
  rw [bOr_add .i32 i L d hL0 (by omega) hL h0 h1 (by show i ≤ 32; omega), Go.IntWalk.i32_in _ (by omega), Go.IntWalk.u8_in _ (by omega)]
theorem followB (d : Int) (h0 : 0 ≤ d) (h1 : d < 2147483648) : IntKind.u8.wrap (IntKind.i32.wrap (bOr .i32 128 (IntKind.i32.wrap (bAnd .i32 d 63)))) = 128 + d % 64 := by
  have e : (2 : Int) ^ IntKind.i32.bits = 4294967296 := by decide
  rw [bAnd_low .i32 6 d h0 (by omega) (by decide) 63 (by decide), Go.IntWalk.i32_in (d % 2 ^ 6) (by omega)]
  exact leadB 128 (d % 2 ^ 6) 6 (by omega) (by omega) (by omega) (by decide) (by decide) (by omega)
theorem utf_Put (sz : Nat) (full : Bool) (l : List T) (c : Int) (hsz : sz = 1 ∨ l = []) (hl : l.length ≤ 2000) (hc : -2147483648 ≤ c ∧ c ≤ 2147483647)   : FnC Try.prog 21 [.sl sz full l, i32 c] (.sl 1 false (l ++ (putU c).map byteT)) := by
  refine FnC.go mixed Try.func21 (by kernel_rfl) rfl (by kernel_rfl) ?_
  simp only [Try.ntmps21, List.length_cons, List.length_nil, List.replicate, List.cons_append, List.nil_append, Nat.reduceAdd, Nat.reduceSub]
  simp -implicitDefEqProofs (maxSteps := 2000000) only [go_sem, reduceCtorEq, Int.reduceEq, Nat.reduceAdd, Nat.reduceSub, Nat.reduceMul, Nat.reduceLT, Nat.reduceLeDiff, Nat.reduceEqDiff, Nat.reduceBEq, Int.reduceToNat, Int.reduceLT, Int.reduceLE, Int.reduceGT, Int.reduceGE, Int.reduceAdd, Int.reduceSub, Int.reduceMul, Int.reduceNeg, Int.reduceBEq, Int.reduceBNe, Int.reducePow, Int.reduceDiv, Int.reduceMod, Int.reduceTDiv, Int.reduceTMod, Int.reduceNatCast, hsz]
  refine ⟨by omega, callG_mk (utf_right c) ?_⟩
  by_cases hr : rightU c
  case neg =>
    rw [decide_eq_false hr]
    simp -implicitDefEqProofs (maxSteps := 2000000) only [go_sem, reduceCtorEq, Int.reduceEq, Nat.reduceAdd, Nat.reduceSub, Nat.reduceMul, Nat.reduceLT, Nat.reduceLeDiff, Nat.reduceEqDiff, Nat.reduceBEq, Int.reduceToNat, Int.reduceLT, Int.reduceLE, Int.reduceGT, Int.reduceGE, Int.reduceAdd, Int.reduceSub, Int.reduceMul, Int.reduceNeg, Int.reduceBEq, Int.reduceBNe, Int.reducePow, Int.reduceDiv, Int.reduceMod, Int.reduceTDiv, Int.reduceTMod, Int.reduceNatCast]
    simp [putU, hr]
  rw [decide_eq_true hr]
  simp -implicitDefEqProofs (maxSteps := 2000000) only [go_sem, reduceCtorEq, Int.reduceEq, Nat.reduceAdd, Nat.reduceSub, Nat.reduceMul, Nat.reduceLT, Nat.reduceLeDiff, Nat.reduceEqDiff, Nat.reduceBEq, Int.reduceToNat, Int.reduceLT, Int.reduceLE, Int.reduceGT, Int.reduceGE, Int.reduceAdd, Int.reduceSub, Int.reduceMul, Int.reduceNeg, Int.reduceBEq, Int.reduceBNe, Int.reducePow, Int.reduceDiv, Int.reduceMod, Int.reduceTDiv, Int.reduceTMod, Int.reduceNatCast]
  refine callG_mk (utf_size c) ?_
  obtain ⟨h0, h1, _⟩ := id hr
  rcases (show c < 128 ∨ (128 ≤ c ∧ c < 2048) ∨ (2048 ≤ c ∧ c < 65536) ∨ 65536 ≤ c by omega) with h | h | h | h
  · have e : sizeU c = 1 := by unfold sizeU; omega
    rw [e]
    simp -implicitDefEqProofs (maxSteps := 2000000) only [go_sem, reduceCtorEq, Int.reduceEq, Nat.reduceAdd, Nat.reduceSub, Nat.reduceMul, Nat.reduceLT, Nat.reduceLeDiff, Nat.reduceEqDiff, Nat.reduceBEq, Int.reduceToNat, Int.reduceLT, Int.reduceLE, Int.reduceGT, Int.reduceGE, Int.reduceAdd, Int.reduceSub, Int.reduceMul, Int.reduceNeg, Int.reduceBEq, Int.reduceBNe, Int.reducePow, Int.reduceDiv, Int.reduceMod, Int.reduceTDiv, Int.reduceTMod, Int.reduceNatCast]
    refine callD_mk (utf_lead _ (by omega)) ?_
    simp -implicitDefEqProofs (maxSteps := 2000000) only [go_sem, reduceCtorEq, Int.reduceEq, Nat.reduceAdd, Nat.reduceSub, Nat.reduceMul, Nat.reduceLT, Nat.reduceLeDiff, Nat.reduceEqDiff, Nat.reduceBEq, Int.reduceToNat, Int.reduceLT, Int.reduceLE, Int.reduceGT, Int.reduceGE, Int.reduceAdd, Int.reduceSub, Int.reduceMul, Int.reduceNeg, Int.reduceBEq, Int.reduceBNe, Int.reducePow, Int.reduceDiv, Int.reduceMod, Int.reduceTDiv, Int.reduceTMod, Int.reduceNatCast]
    refine ⟨by omega, ?_⟩
    refine runK_rounds mixed (by kernel_rfl) 1 ?_
    simp -implicitDefEqProofs (maxSteps := 2000000) only [go_sem, reduceCtorEq, Int.reduceEq, Nat.reduceAdd, Nat.reduceSub, Nat.reduceMul, Nat.reduceLT, Nat.reduceLeDiff, Nat.reduceEqDiff, Nat.reduceBEq, Int.reduceToNat, Int.reduceLT, Int.reduceLE, Int.reduceGT, Int.reduceGE, Int.reduceAdd, Int.reduceSub, Int.reduceMul, Int.reduceNeg, Int.reduceBEq, Int.reduceBNe, Int.reducePow, Int.reduceDiv, Int.reduceMod, Int.reduceTDiv, Int.reduceTMod, Int.reduceNatCast]
    rw [bShr_div .i32 c 0 1 (by decide) (by decide), leadB 0 (c / 1) 7 (by omega) (by omega) (by omega) (by decide) (by decide) (by omega)]
    refine sl_eq ?_
    simp [putU, hr, byteT, show c < 128 by omega]
  · have e : sizeU c = 2 := by unfold sizeU; omega
    rw [e]
    simp -implicitDefEqProofs (maxSteps := 2000000) only [go_sem, reduceCtorEq, Int.reduceEq, Nat.reduceAdd, Nat.reduceSub, Nat.reduceMul, Nat.reduceLT, Nat.reduceLeDiff, Nat.reduceEqDiff, Nat.reduceBEq, Int.reduceToNat, Int.reduceLT, Int.reduceLE, Int.reduceGT, Int.reduceGE, Int.reduceAdd, Int.reduceSub, Int.reduceMul, Int.reduceNeg, Int.reduceBEq, Int.reduceBNe, Int.reducePow, Int.reduceDiv, Int.reduceMod, Int.reduceTDiv, Int.reduceTMod, Int.reduceNatCast]
    refine callD_mk (utf_lead _ (by omega)) ?_
    simp -implicitDefEqProofs (maxSteps := 2000000) only [go_sem, reduceCtorEq, Int.reduceEq, Nat.reduceAdd, Nat.reduceSub, Nat.reduceMul, Nat.reduceLT, Nat.reduceLeDiff, Nat.reduceEqDiff, Nat.reduceBEq, Int.reduceToNat, Int.reduceLT, Int.reduceLE, Int.reduceGT, Int.reduceGE, Int.reduceAdd, Int.reduceSub, Int.reduceMul, Int.reduceNeg, Int.reduceBEq, Int.reduceBNe, Int.reducePow, Int.reduceDiv, Int.reduceMod, Int.reduceTDiv, Int.reduceTMod, Int.reduceNatCast]
    refine ⟨by omega, ?_⟩
    refine runK_rounds mixed (by kernel_rfl) 2 ?_
    simp -implicitDefEqProofs (maxSteps := 2000000) only [go_sem, reduceCtorEq, Int.reduceEq, Nat.reduceAdd, Nat.reduceSub, Nat.reduceMul, Nat.reduceLT, Nat.reduceLeDiff, Nat.reduceEqDiff, Nat.reduceBEq, Int.reduceToNat, Int.reduceLT, Int.reduceLE, Int.reduceGT, Int.reduceGE, Int.reduceAdd, Int.reduceSub, Int.reduceMul, Int.reduceNeg, Int.reduceBEq, Int.reduceBNe, Int.reducePow, Int.reduceDiv, Int.reduceMod, Int.reduceTDiv, Int.reduceTMod, Int.reduceNatCast]
    refine ⟨by omega, ?_⟩
    rw [bShr_div .i32 c 6 64 (by decide) (by decide), leadB 192 (c / 64) 5 (by omega) (by omega) (by omega) (by decide) (by decide) (by omega), bShr_div .i32 c 0 1 (by decide) (by decide), followB (c / 1) (by omega) (by omega)]
    refine sl_eq ?_
    simp [putU, hr, byteT, show ¬ c < 128 by omega, show c < 2048 by omega]
  · have e : sizeU c = 3 := by unfold sizeU; omega
    rw [e]
    simp -implicitDefEqProofs (maxSteps := 2000000) only [go_sem, reduceCtorEq, Int.reduceEq, Nat.reduceAdd, Nat.reduceSub, Nat.reduceMul, Nat.reduceLT, Nat.reduceLeDiff, Nat.reduceEqDiff, Nat.reduceBEq, Int.reduceToNat, Int.reduceLT, Int.reduceLE, Int.reduceGT, Int.reduceGE, Int.reduceAdd, Int.reduceSub, Int.reduceMul, Int.reduceNeg, Int.reduceBEq, Int.reduceBNe, Int.reducePow, Int.reduceDiv, Int.reduceMod, Int.reduceTDiv, Int.reduceTMod, Int.reduceNatCast]
    refine callD_mk (utf_lead _ (by omega)) ?_
    simp -implicitDefEqProofs (maxSteps := 2000000) only [go_sem, reduceCtorEq, Int.reduceEq, Nat.reduceAdd, Nat.reduceSub, Nat.reduceMul, Nat.reduceLT, Nat.reduceLeDiff, Nat.reduceEqDiff, Nat.reduceBEq, Int.reduceToNat, Int.reduceLT, Int.reduceLE, Int.reduceGT, Int.reduceGE, Int.reduceAdd, Int.reduceSub, Int.reduceMul, Int.reduceNeg, Int.reduceBEq, Int.reduceBNe, Int.reducePow, Int.reduceDiv, Int.reduceMod, Int.reduceTDiv, Int.reduceTMod, Int.reduceNatCast]
    refine ⟨by omega, ?_⟩
    refine runK_rounds mixed (by kernel_rfl) 3 ?_
    simp -implicitDefEqProofs (maxSteps := 2000000) only [go_sem, reduceCtorEq, Int.reduceEq, Nat.reduceAdd, Nat.reduceSub, Nat.reduceMul, Nat.reduceLT, Nat.reduceLeDiff, Nat.reduceEqDiff, Nat.reduceBEq, Int.reduceToNat, Int.reduceLT, Int.reduceLE, Int.reduceGT, Int.reduceGE, Int.reduceAdd, Int.reduceSub, Int.reduceMul, Int.reduceNeg, Int.reduceBEq, Int.reduceBNe, Int.reducePow, Int.reduceDiv, Int.reduceMod, Int.reduceTDiv, Int.reduceTMod, Int.reduceNatCast]
    refine ⟨by omega, by omega, ?_⟩
    rw [bShr_div .i32 c 12 4096 (by decide) (by decide), leadB 224 (c / 4096) 4 (by omega) (by omega) (by omega) (by decide) (by decide) (by omega), bShr_div .i32 c 6 64 (by decide) (by decide), followB (c / 64) (by omega) (by omega), bShr_div .i32 c 0 1 (by decide) (by decide), followB (c / 1) (by omega) (by omega)]
    refine sl_eq ?_
    simp [putU, hr, byteT, show ¬ c < 128 by omega, show ¬ c < 2048 by omega, show c < 65536 by omega]
  · have e : sizeU c = 4 := by unfold sizeU; omega
    rw [e]
    simp -implicitDefEqProofs (maxSteps := 2000000) only [go_sem, reduceCtorEq, Int.reduceEq, Nat.reduceAdd, Nat.reduceSub, Nat.reduceMul, Nat.reduceLT, Nat.reduceLeDiff, Nat.reduceEqDiff, Nat.reduceBEq, Int.reduceToNat, Int.reduceLT, Int.reduceLE, Int.reduceGT, Int.reduceGE, Int.reduceAdd, Int.reduceSub, Int.reduceMul, Int.reduceNeg, Int.reduceBEq, Int.reduceBNe, Int.reducePow, Int.reduceDiv, Int.reduceMod, Int.reduceTDiv, Int.reduceTMod, Int.reduceNatCast]
    refine callD_mk (utf_lead _ (by omega)) ?_
    simp -implicitDefEqProofs (maxSteps := 2000000) only [go_sem, reduceCtorEq, Int.reduceEq, Nat.reduceAdd, Nat.reduceSub, Nat.reduceMul, Nat.reduceLT, Nat.reduceLeDiff, Nat.reduceEqDiff, Nat.reduceBEq, Int.reduceToNat, Int.reduceLT, Int.reduceLE, Int.reduceGT, Int.reduceGE, Int.reduceAdd, Int.reduceSub, Int.reduceMul, Int.reduceNeg, Int.reduceBEq, Int.reduceBNe, Int.reducePow, Int.reduceDiv, Int.reduceMod, Int.reduceTDiv, Int.reduceTMod, Int.reduceNatCast]
    refine ⟨by omega, ?_⟩
    refine runK_rounds mixed (by kernel_rfl) 4 ?_
    simp -implicitDefEqProofs (maxSteps := 2000000) only [go_sem, reduceCtorEq, Int.reduceEq, Nat.reduceAdd, Nat.reduceSub, Nat.reduceMul, Nat.reduceLT, Nat.reduceLeDiff, Nat.reduceEqDiff, Nat.reduceBEq, Int.reduceToNat, Int.reduceLT, Int.reduceLE, Int.reduceGT, Int.reduceGE, Int.reduceAdd, Int.reduceSub, Int.reduceMul, Int.reduceNeg, Int.reduceBEq, Int.reduceBNe, Int.reducePow, Int.reduceDiv, Int.reduceMod, Int.reduceTDiv, Int.reduceTMod, Int.reduceNatCast]
    refine ⟨by omega, by omega, by omega, ?_⟩
    rw [bShr_div .i32 c 18 262144 (by decide) (by decide), leadB 240 (c / 262144) 3 (by omega) (by omega) (by omega) (by decide) (by decide) (by omega), bShr_div .i32 c 12 4096 (by decide) (by decide), followB (c / 4096) (by omega) (by omega), bShr_div .i32 c 6 64 (by decide) (by decide), followB (c / 64) (by omega) (by omega), bShr_div .i32 c 0 1 (by decide) (by decide), followB (c / 1) (by omega) (by omega)]
    refine sl_eq ?_
    simp [putU, hr, byteT, show ¬ c < 128 by omega, show ¬ c < 2048 by omega, show ¬ c < 65536 by omega]
end Go.Proofs.YtcnkndmegnfofaaX

/- UtfPuts. -/
set_option linter.unusedVariables false
set_option linter.unusedSimpArgs false
namespace Go.Proofs.YtcnkndmegnfofaaX
open Go Go.RowKit Go.Proofs
set_option maxRecDepth 100000
theorem ref14_Put (full : Bool) (l : List T) (c : Int) (hl : l.length ≤ 2000) (hc : -2147483648 ≤ c ∧ c ≤ 2147483647) : FnC Try.prog 22 [.sl 1 full l, i32 c] (.sl 1 false (l ++ (putU c).map byteT)) := by
  have e : IntKind.i64.wrap c = c := Go.IntWalk.i64_in c (by omega)
  refine FnC.go mixed Try.func22 (by kernel_rfl) rfl (by kernel_rfl) ?_
  simp only [Try.ntmps22, List.length_cons, List.length_nil, List.replicate, List.cons_append, List.nil_append, Nat.reduceAdd, Nat.reduceSub]
  simp -implicitDefEqProofs (maxSteps := 2000000) only [go_sem, reduceCtorEq, Int.reduceEq, Nat.reduceAdd, Nat.reduceSub, Nat.reduceMul, Nat.reduceLT, Nat.reduceLeDiff, Nat.reduceEqDiff, Nat.reduceBEq, Int.reduceToNat, Int.reduceLT, Int.reduceLE, Int.reduceGT, Int.reduceGE, Int.reduceAdd, Int.reduceSub, Int.reduceMul, Int.reduceNeg, Int.reduceBEq, Int.reduceBNe, Int.reducePow, Int.reduceDiv, Int.reduceMod, Int.reduceTDiv, Int.reduceTMod, Int.reduceNatCast, e]
  refine ⟨by omega, ?_⟩
  repeat' (first | apply boolD_mk | intro _ | apply And.intro)
  all_goals try omega
  all_goals refine sl_eq ?_
  all_goals by_cases hr : rightU c
  all_goals first
    | (have : rightU c := by unfold rightU; omega
       exact absurd this hr)
    | (have : ¬ rightU c := by unfold rightU; omega
       exact absurd hr this)
    | (simp [putU, hr]; done)
    | (have h0 : 0 ≤ c := hr.1
       have h1 : c ≤ 1114111 := hr.2.1
       simp (disch := omega) only [Int.tdiv_eq_ediv_of_nonneg, Int.tmod_eq_emod_of_nonneg, Go.IntWalk.i64_in, Go.IntWalk.u8_in]
       simp [putU, hr, byteT, *])
theorem bytes_put (l : List T) (c : Int) (hb : ∀ x ∈ l, isByte x = true) : ∀ y ∈ l ++ (putU c).map byteT, isByte y = true := by
  intro y hy
  rcases List.mem_append.1 hy with h | h
  · exact hb y h
  · obtain ⟨n, hn, rfl⟩ := List.mem_map.1 h
    rfl
theorem law (full : Bool) (l : List T) (c : Int) (hb : ∀ x ∈ l, isByte x = true) (hc : -2147483648 ≤ c ∧ c ≤ 2147483647) : FnC Try.prog 5 [.sl 1 full l, i32 c] (tb true) := by
  refine FnC.go mixed Try.func5 (by kernel_rfl) rfl (by kernel_rfl) ?_
  simp only [Try.ntmps5, List.length_cons, List.length_nil, List.replicate, List.cons_append, List.nil_append, Nat.reduceAdd, Nat.reduceSub]
  simp -implicitDefEqProofs (maxSteps := 2000000) only [go_sem, reduceCtorEq, Int.reduceEq, Nat.reduceAdd, Nat.reduceSub, Nat.reduceMul, Nat.reduceLT, Nat.reduceLeDiff, Nat.reduceEqDiff, Nat.reduceBEq, Int.reduceToNat, Int.reduceLT, Int.reduceLE, Int.reduceGT, Int.reduceGE, Int.reduceAdd, Int.reduceSub, Int.reduceMul, Int.reduceNeg, Int.reduceBEq, Int.reduceBNe, Int.reducePow, Int.reduceDiv, Int.reduceMod, Int.reduceTDiv, Int.reduceTMod, Int.reduceNatCast]
  refine boolD_mk (fun h => ⟨by omega, ?_⟩) fun h => ?_
  · have hL : (List.take 2000 l).length ≤ 2000 := by rw [List.length_take]; omega
    have hbL : ∀ x ∈ List.take 2000 l, isByte x = true := fun x hx => hb x (List.mem_of_mem_take hx)
    refine callD_mk (utf_Put _ _ _ c (.inl rfl) hL hc) ?_
    simp -implicitDefEqProofs (maxSteps := 2000000) only [go_sem, reduceCtorEq, Int.reduceEq, Nat.reduceAdd, Nat.reduceSub, Nat.reduceMul, Nat.reduceLT, Nat.reduceLeDiff, Nat.reduceEqDiff, Nat.reduceBEq, Int.reduceToNat, Int.reduceLT, Int.reduceLE, Int.reduceGT, Int.reduceGE, Int.reduceAdd, Int.reduceSub, Int.reduceMul, Int.reduceNeg, Int.reduceBEq, Int.reduceBNe, Int.reducePow, Int.reduceDiv, Int.reduceMod, Int.reduceTDiv, Int.reduceTMod, Int.reduceNatCast]
    refine ⟨bytes_put _ c hbL, ?_⟩
    refine callD_mk (ref14_Put _ _ c hL hc) ?_
    simp -implicitDefEqProofs (maxSteps := 2000000) only [go_sem, reduceCtorEq, Int.reduceEq, Nat.reduceAdd, Nat.reduceSub, Nat.reduceMul, Nat.reduceLT, Nat.reduceLeDiff, Nat.reduceEqDiff, Nat.reduceBEq, Int.reduceToNat, Int.reduceLT, Int.reduceLE, Int.reduceGT, Int.reduceGE, Int.reduceAdd, Int.reduceSub, Int.reduceMul, Int.reduceNeg, Int.reduceBEq, Int.reduceBNe, Int.reducePow, Int.reduceDiv, Int.reduceMod, Int.reduceTDiv, Int.reduceTMod, Int.reduceNatCast]
    refine ⟨bytes_put _ c hbL, ?_⟩
    refine callD_mk (utf_Put _ _ _ 233 (.inr rfl) (by simp) (by omega)) ?_
    simp -implicitDefEqProofs (maxSteps := 2000000) only [go_sem, reduceCtorEq, Int.reduceEq, Nat.reduceAdd, Nat.reduceSub, Nat.reduceMul, Nat.reduceLT, Nat.reduceLeDiff, Nat.reduceEqDiff, Nat.reduceBEq, Int.reduceToNat, Int.reduceLT, Int.reduceLE, Int.reduceGT, Int.reduceGE, Int.reduceAdd, Int.reduceSub, Int.reduceMul, Int.reduceNeg, Int.reduceBEq, Int.reduceBNe, Int.reducePow, Int.reduceDiv, Int.reduceMod, Int.reduceTDiv, Int.reduceTMod, Int.reduceNatCast]
    exact ⟨bytes_put [] 233 (by simp), tb_eq (by decide +kernel)⟩
  · have hL : l.length ≤ 2000 := by omega
    refine callD_mk (utf_Put _ _ _ c (.inl rfl) hL hc) ?_
    simp -implicitDefEqProofs (maxSteps := 2000000) only [go_sem, reduceCtorEq, Int.reduceEq, Nat.reduceAdd, Nat.reduceSub, Nat.reduceMul, Nat.reduceLT, Nat.reduceLeDiff, Nat.reduceEqDiff, Nat.reduceBEq, Int.reduceToNat, Int.reduceLT, Int.reduceLE, Int.reduceGT, Int.reduceGE, Int.reduceAdd, Int.reduceSub, Int.reduceMul, Int.reduceNeg, Int.reduceBEq, Int.reduceBNe, Int.reducePow, Int.reduceDiv, Int.reduceMod, Int.reduceTDiv, Int.reduceTMod, Int.reduceNatCast]
    refine ⟨bytes_put _ c hb, ?_⟩
    refine callD_mk (ref14_Put _ _ c hL hc) ?_
    simp -implicitDefEqProofs (maxSteps := 2000000) only [go_sem, reduceCtorEq, Int.reduceEq, Nat.reduceAdd, Nat.reduceSub, Nat.reduceMul, Nat.reduceLT, Nat.reduceLeDiff, Nat.reduceEqDiff, Nat.reduceBEq, Int.reduceToNat, Int.reduceLT, Int.reduceLE, Int.reduceGT, Int.reduceGE, Int.reduceAdd, Int.reduceSub, Int.reduceMul, Int.reduceNeg, Int.reduceBEq, Int.reduceBNe, Int.reducePow, Int.reduceDiv, Int.reduceMod, Int.reduceTDiv, Int.reduceTMod, Int.reduceNatCast]
    refine ⟨bytes_put _ c hb, ?_⟩
    refine callD_mk (utf_Put _ _ _ 233 (.inr rfl) (by simp) (by omega)) ?_
    simp -implicitDefEqProofs (maxSteps := 2000000) only [go_sem, reduceCtorEq, Int.reduceEq, Nat.reduceAdd, Nat.reduceSub, Nat.reduceMul, Nat.reduceLT, Nat.reduceLeDiff, Nat.reduceEqDiff, Nat.reduceBEq, Int.reduceToNat, Int.reduceLT, Int.reduceLE, Int.reduceGT, Int.reduceGE, Int.reduceAdd, Int.reduceSub, Int.reduceMul, Int.reduceNeg, Int.reduceBEq, Int.reduceBNe, Int.reducePow, Int.reduceDiv, Int.reduceMod, Int.reduceTDiv, Int.reduceTMod, Int.reduceNatCast]
    exact ⟨bytes_put [] 233 (by simp), tb_eq (by decide +kernel)⟩
theorem shaped (xs : List T) (h : ShapesW Try.prog [39, 21] xs) : FnC Try.prog 5 xs (tb true) := by
  obtain ⟨x, xs, rfl, ⟨n, hx⟩, y, ys, rfl, ⟨m, hy⟩, rfl⟩ := h
  cases n with
  | zero => exact hx.elim
  | succ n =>
    cases m with
    | zero => exact hy.elim
    | succ m =>
      simp only [ShapeW, Try.underlying39, un21] at hx hy
      obtain ⟨full, l, rfl, hl, he⟩ := hx
      obtain ⟨c, rfl, hc⟩ := hy
      rw [cz5]
      refine law full l c (fun x hx => ?_) ?_
      · have := he x hx
        cases n with
        | zero => exact this.elim
        | succ n =>
          simp only [ShapeW, un5] at this
          obtain ⟨i, rfl, _⟩ := this
          rfl
      · exact wf_i32 hc
end Go.Proofs.YtcnkndmegnfofaaX
namespace Go.Proofs.Ytcnkndmegnfofaa.utfPuts
open Go.ChangeShapes Go.WideShapes Go.ChangeAt Go.RowKit
set_option linter.unusedVariables false
theorem own : ownKnob Try.prog.godebug = none := by kernel_rfl
set_option maxRecDepth 100000 in
theorem lifted (os : Os) (started : os.Started) (H : Type) (enc : TypeId × Value → H) :
    ReturnsInHanded {} Try.checked os 5 .any (Rows.utfPutsSpec.pre6 enc Try.prog Try.f5 Rows.utfPutsRow.domain false) (Rows.utfPutsSpec.post enc Try.prog Try.f5 false true false false) := by
  refine returnsInHanded_of_change_sized (C := Try.checked) own started (by kernel_rfl) Try.func5
    (ChangeSpec.witness6 (enc := enc) (C := Try.checked) false ⟨#[], #[.slice none 0 0, .int .i32 0], []⟩ 8 (by kernel_rfl) (by kernel_rfl) (by kernel_rfl) (by kernel_rfl)) ?_
  intro W base args ds gs before hval0 hW hcnd hsz0 _
  exact YtcnkndmegnfofaaX.row_contract (P := Try.prog) (fn := Try.f5) (s := Rows.utfPutsSpec) (ts := [39, 21]) (tb := 4) (L := [39, 21, 5]) (by kernel_rfl) (by kernel_rfl) (by kernel_rfl) (by kernel_rfl) (by kernel_rfl) (by kernel_rfl) rfl
    (fun H ds h => by
      match ds, h with
      | [d0, d1], _ => rfl) YtcnkndmegnfofaaX.shaped W base args ds gs before hval0 hW
theorem over : Rows.utfPutsRow.holds Try.pinned (OpenSpec.ofChange Rows.utfPutsSpec) :=
  OpenClaim.holds_of_wide 5 Try.f5 rfl rfl rfl rfl rfl rfl rfl ⟨rfl, rfl, rfl, rfl, rfl⟩ rfl rfl rfl rfl rfl (by kernel_rfl) Try.func5 (by kernel_rfl)
    (of_decide_eq_true (by kernel_rfl)) (by unfold Func.isWrapper; first | (rw [if_pos (by decide +kernel)]; kernel_rfl) | (rw [if_neg (by decide +kernel)]; exact ⟨rfl, rfl⟩))
    (fun os started H enc _ => lifted os started H enc)
theorem proved : Rows.UtfPutsSaid := over
#print axioms proved
end Go.Proofs.Ytcnkndmegnfofaa.utfPuts
namespace Go.Proofs.Ytcnkndmegnfofaa
/-- The row, under a short name, for the claim. -/
theorem utfPuts_holds : Rows.UtfPutsSaid := utfPuts.proved
end Go.Proofs.Ytcnkndmegnfofaa
