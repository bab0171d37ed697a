/- Part of the proof of QueryTells: walks and plain words, merged. -/
import Derived.Test.YtdaojihnaajfeaaBQueryTellsa
import Derived.Orders
import Derived.ChangeShapes
import Derived.Carry
import Derived.RowKit
import Derived.SizedLaws
import Derived.ChangeAt
import Derived.OpenShut
import Derived.ProofKit
import Derived.IntWalk
import Derived.Scope
set_option linter.unusedVariables false
set_option linter.unusedSimpArgs false

/- Every operation. Of no program. -/
set_option linter.unusedVariables false
set_option linter.unusedSimpArgs false
namespace Go.Proofs.YtdaojihnaajfeaaX
open Go Go.RowKit
def nilW (x : T) (K : T → Eff → Prop) : Prop :=
  match x with
  | .ref .. => K x .none
  | .pp _ => K x .none
  | .fn .. => K x .none
  | _ => False
def lenW (P : Program) (t : TypeId) (x : T) (K : T → Prop) : Prop :=
  match P.underlying t, x with
  | some .string, .imm (.string s) => K (.imm (.int .i64 (s.size : Int)))
  | some (.slice _), .sl _ _ l => K (.imm (.int .i64 (l.length : Int)))
  | some (.slice _), .rsl _ _ _ len => K (.imm (.int .i64 (len : Int)))
  | some (.array n _), .agg _ => K (.imm (.int .i64 (n : Int)))
  | _, _ => False
def min2W (x y : T) (K : T → Prop) : Prop :=
  match x, y with
  | .imm (.int k x), .imm (.int _ y) => K (.imm (.int k (if y < x then y else x)))
  | _, _ => False
def max2W (x y : T) (K : T → Prop) : Prop :=
  match x, y with
  | .imm (.int k x), .imm (.int _ y) => K (.imm (.int k (if y > x then y else x)))
  | _, _ => False
def builtinW (P : Program) (k : Nat) (b : Builtin) (ts : Array TypeId) (args : List T) (look : Nat → Option Own) (K : T → Eff → Prop) : Prop :=
  match b, ts.toList, args with
  | .len, [t], [x] => lenW P t x (K · .none)
  | .append, [t, u], [s, x] => appendW P k t u s x look K
  | .copy, [t, u], [s, x] => copyW P t u s x look K
  | .min, _, [x, y] => min2W x y (K · .none)
  | .max, _, [x, y] => max2W x y (K · .none)
  | _, _, _ => False
def ifaceW (P : Program) (t : TypeId) (x : T) (K : T → Eff → Prop) : Prop :=
  match P.underlying t with
  | some (.interface _) => False
  | some _ => K (.ifc t x) .none
  | none => False
def pickW (c x y : T) (K : T → Eff → Prop) : Prop :=
  match c with
  | .imm (.bool b) => (b = true → K x .none) ∧ (b = false → K y .none)
  | _ => False
def lockRow (look : Nat → Option Own) (o : Nat) (x : Own) : Nat → Option Own := fun i => if i = o then some x else look i
def callRW (P : Program) (fn : T) (args : List T) (look : Nat → Option Own) (K : T → Eff → Prop) : Prop :=
  match fn with
  | .fn g caps => (∃ (σ : List Nat) (objs : List (Option Own)) (args' : List T) (res : T) (objs' : List (Option Own)), FnR P g objs args' res objs' ∧ σ.Nodup ∧ relsO σ look σ objs ∧
      (∀ (E : Env) (vs : List Value), RepL E false (dsnapL look args ++ caps) vs → RepL E false (renFL σ args') vs) ∧ K (renF σ res) (.many (movesO σ objs) (newsO σ look σ objs'))) ∨
      (∃ (o : Nat) (t : TypeId) (sz : Nat) (l : List T) (lk : Nat), look o = some (.buf t sz l lk) ∧ closedL (dsnapL (lockRow look o (.buf t sz l (max lk l.length))) (dsnapL look args ++ caps)) = true ∧ ∃ r, FnC P g (dsnapL (lockRow look o (.buf t sz l (max lk l.length))) (dsnapL look args ++ caps)) r ∧ K r (.put o (.buf t sz l (max lk l.length)))) ∨
      ∃ (o : Nat) (t : TypeId) (sz : Nat) (l l' more : List T), look o = some (.buf t sz l 0) ∧ FnI P g t sz l l' more ∧ (∀ (E : Env) (vs : List Value), RepL E false (dsnapL look args ++ caps) vs → RepL E false (.rsl o sz 0 l.length :: more) vs ∨ (l = [] ∧ RepL E false (.sl sz false l :: more) vs)) ∧ K (.tup []) (.put o (.buf t sz l' 0))
  | _ => False
def opW (P : Program) (k : Nat) (op : Op) (ρ : Operand → T) (look : Nat → Option Own) (K : T → Eff → Prop) : Prop :=
  match op with
  | .move x => K (ρ x) .none
  | .assign x => K (ρ x) .none
  | .pick c x y => pickW (ρ c) (ρ x) (ρ y) K
  | .alloc t => okT P t = true ∧ K (.ref k 0 0 0) (.new (.box t (zeroOf P t) false))
  | .box t x => isJunk (ρ x) = false ∧ okT P t = true ∧ K (.ref k 0 0 0) (.new (.box t (ρ x) false))
  | .build t parts => buildW P t (parts.toList.map fun p => (p.1, ρ p.2)) (K · .none)
  | .buildSlice t n parts => buildSliceX P k t n (parts.toList.map fun p => (p.1, ρ p.2)) K
  | .load t a => loadW P t (ρ a) look (K · .none)
  | .store t a x => storeW P t (ρ a) (ρ x) look K
  | .nilCheck x => nilW (ρ x) K
  | .binOp op t x y _ => binXW P t op (ρ x) (ρ y) (K · .none)
  | .unOp op _ x => unW op (ρ x) (K · .none)
  | .convert s d x => convertW P k s d (ρ x) look K
  | .makeInterface t x => ifaceW P t (ρ x) K
  | .makeFunc (.func f) first caps => first.size = 0 ∧ K (.fn f (caps.toList.map ρ)) .none
  | .makeSlice t l c => makeW P k t (ρ l) (ρ c) K
  | .slice t x lo hi none => sliceW P t (ρ x) (lo.map ρ) (hi.map ρ) look (K · .none)
  | .sliceToArrayPointer t x => arrPW P t (ρ x) (K · .none)
  | .fieldAddr t x f => fieldAddrW P t (ρ x) f (K · .none)
  | .field t x f => fieldW P t (ρ x) f (K · .none)
  | .indexAddr t x i => indexAddrW P t (ρ x) (ρ i) (K · .none)
  | .index t x i => indexW P t (ρ x) (ρ i) (K · .none)
  | .extract x i => extractW (ρ x) i (K · .none)
  | .call ⟨.value f, args, _⟩ => callW P (ρ f) (args.toList.map ρ) look K ∨ callRW P (ρ f) (args.toList.map ρ) look K
  | .call ⟨.builtin b, args, ts⟩ => builtinW P k b ts (args.toList.map ρ) look K
  | _ => False
section
variable {P : Program} {B : Base} {S : St} {a : Act} {w : World} {μ : Nat → Option Nat} {k : Nat} {o : Oper} {ρ : Operand → T} {look : Nat → Option Own} {K : T → Eff → Prop}
theorem repL_map (h : ∀ x, x ∈ o.op.operands.toList → Rep ⟨w, μ, S.objs, B.ban⟩ false (ρ x) (a.eval x)) : ∀ (l : List Operand), (∀ x ∈ l, x ∈ o.op.operands.toList) → RepL ⟨w, μ, S.objs, B.ban⟩ false (l.map ρ) (l.map a.eval)
  | [], _ => by simp [RepL]
  | x :: l, hl => by
    simp only [List.map_cons, RepL]
    exact ⟨_, _, rfl, h x (hl x (by simp)), repL_map h l fun y hy => hl y (by simp [hy])⟩
theorem run_len {t : TypeId} {x : T} {u : Value} {K : T → Prop} {ty : TypeId} {E : Env} {cl : Bool} (h : lenW P t x K) (hx : Rep E cl x u) : ∃ r q, K r ∧ (Builtin.len_ #[t] ty #[u]).run P w = .ok q w ∧ Rep E cl r q := by
  unfold lenW at h
  split at h
  · rename_i s ht
    simp only [Rep, flat, and_true] at hx; subst hx
    exact ⟨_, .int .i64 s.size, h, by simp [Builtin.len_, run_underlying ht, goInt], by simp only [Rep, flat, and_true]⟩
  · rename_i e sz full l ht
    simp only [Rep] at hx
    obtain ⟨A, cap, c, rfl, _⟩ := hx
    exact ⟨_, .int .i64 l.length, h, by simp [Builtin.len_, run_underlying ht, goInt], by simp only [Rep, flat, and_true]⟩
  · rename_i e o sz off len ht
    simp only [Rep] at hx
    obtain ⟨_, _, ⟨_, rfl, _, A, rfl⟩ | ⟨b, p, cap, c, t', fr, _, rfl, _⟩⟩ := hx
    · exact ⟨_, .int .i64 (0 : Nat), h, by simp [Builtin.len_, run_underlying ht, goInt], by simp only [Rep, flat, and_true]⟩
    · exact ⟨_, .int .i64 len, h, by simp [Builtin.len_, run_underlying ht, goInt], by simp only [Rep, flat, and_true]⟩
  · rename_i n e l ht
    simp only [Rep] at hx
    obtain ⟨cs, rfl, _⟩ := hx
    exact ⟨_, .int .i64 n, h, by simp [Builtin.len_, run_underlying ht, goInt], by simp only [Rep, flat, and_true]⟩
  · exact h.elim
theorem post_none (hS : Sat B S a w μ) {v : T} {u : Value} (hv : Rep ⟨w, μ, S.objs, B.ban⟩ false v u) : Post B S a k .none v u w := ⟨μ, hS, hv⟩
theorem op_sound (h : opW P k o.op ρ look K) (hS : Sat B S a w μ) (hρ : ∀ x, x ∈ o.op.operands.toList → evalT S x = ρ x) (hl : ∀ i x, look i = some x → S.objs[i]? = some (some x)) (hk : S.objs[k]? = some none) :
    ∃ v eff, K v eff ∧ Yields P o a w (Post B S a k eff v) := by
  have hv : ∀ x, x ∈ o.op.operands.toList → Rep ⟨w, μ, S.objs, B.ban⟩ false (ρ x) (a.eval x) := fun x hx => by rw [← hρ x hx]; exact hS.eval x
  -- what only computes
  have pure_ : ∀ {s : Sem Value} {r : T} {q : Value}, (execOp a.eval o = do pure (.value (← s))) → s.run P w = .ok q w → Rep ⟨w, μ, S.objs, B.ban⟩ false r q → Yields P o a w (Post B S a k .none r) := by
    intro s r q he hr hq
    exact yields_value (by rw [he, run_bind hr]; rfl) (post_none hS hq)
  have made : ∀ {s : Sem Value} {r : T} {eff : Eff} {q : Value} {w' : World}, (execOp a.eval o = do pure (.value (← s))) → s.run P w = .ok q w' → Post B S a k eff r q w' → Yields P o a w (Post B S a k eff r) := by
    intro s r eff q w' he hr hq
    exact yields_value (by rw [he, run_bind hr]; rfl) hq
  cases hop : o.op with
  | move x =>
    rw [hop] at h hv
    exact ⟨_, _, h, yields_value (by unfold execOp; simp only [hop]; rfl) (post_none hS (hv x (by simp [Op.operands])))⟩
  | assign x =>
    rw [hop] at h hv
    exact ⟨_, _, h, yields_value (by unfold execOp; simp only [hop]; rfl) (post_none hS (hv x (by simp [Op.operands])))⟩
  | pick c x y =>
    rw [hop] at h hv
    replace h : pickW (ρ c) (ρ x) (ρ y) K := h
    unfold pickW at h
    have hc := hv c (by simp [Op.operands])
    split at h
    · rename_i b hb
      rw [hb] at hc
      simp only [Rep, flat, and_true] at hc
      have hrun : (execOp a.eval o).run P w = .ok (.value (if b then a.eval x else a.eval y)) w := by
        unfold execOp; simp only [hop]
        rw [run_bind (show (asBool (a.eval c)).run P w = .ok b w by rw [hc]; rfl)]; rfl
      cases b with
      | true => exact ⟨_, _, h.1 rfl, yields_value hrun (post_none hS (hv x (by simp [Op.operands])))⟩
      | false => exact ⟨_, _, h.2 rfl, yields_value hrun (post_none hS (hv y (by simp [Op.operands])))⟩
    · exact h.elim
  | alloc t =>
    rw [hop] at h
    obtain ⟨ho, h⟩ := h
    obtain ⟨inf, z, hi, hz, hs, hzo⟩ := okT_out ho
    have hp := box_post (okT_lt ho) hS hk (x := zeroOf P t) (u := z) (by rw [hzo]; exact ofVal_len z) (by rw [hzo]; exact ofVal_rep z) t
    exact ⟨_, _, h, made (by unfold execOp; simp only [hop]) (run_alloc hi hz) hp⟩
  | box t x =>
    rw [hop] at h hv
    obtain ⟨hj, ho, h⟩ := h
    have hx := hv x (by simp [Op.operands])
    exact ⟨_, _, h, made (by unfold execOp; simp only [hop]) (run_box t _) (box_post (okT_lt ho) hS hk (cells_len hj hx) hx t)⟩
  | build t parts =>
    rw [hop] at h hv
    replace h : buildW P t (parts.toList.map fun p => (p.1, ρ p.2)) (K · .none) := h
    obtain ⟨r, q, h1, h2, h3⟩ := build_sound (P := P) (w := w) (E := ⟨w, μ, S.objs, B.ban⟩) (vs := parts.map fun p => (p.1, a.eval p.2)) h (by simp [Function.comp_def]) (by
      have := repL_map (o := o) (by rw [hop]; exact hv) (parts.toList.map (·.2)) (by rw [hop]; simp [Op.operands])
      simpa [Function.comp_def] using this)
    exact ⟨_, _, h1, pure_ (by unfold execOp; simp only [hop]) h2 h3⟩
  | buildSlice t n parts =>
    rw [hop] at h hv
    replace h : buildSliceX P k t n (parts.toList.map fun p => (p.1, ρ p.2)) K := h
    have hp : RepL ⟨w, μ, S.objs, B.ban⟩ false ((parts.toList.map fun p => (p.1, ρ p.2)).map (·.2)) ((parts.map fun p => (p.1, a.eval p.2)).toList.map (·.2)) := by
      have := repL_map (o := o) (by rw [hop]; exact hv) (parts.toList.map (·.2)) (by rw [hop]; simp [Op.operands])
      simpa [Function.comp_def] using this
    rcases h with h | ⟨e, sz, l, lk, hlk, hu, h, hK⟩
    · obtain ⟨r, q, w', h1, h2, h3⟩ := buildSlice_sound (P := P) (k := k) hS (vs := parts.map fun p => (p.1, a.eval p.2)) h (by simp [Function.comp_def]) hp
      exact ⟨_, _, h1, made (by unfold execOp; simp only [hop]) h2 h3⟩
    · obtain ⟨q, w', h2, h3⟩ := buildSlice_own (P := P) (k := k) hS hk (vs := parts.map fun p => (p.1, a.eval p.2)) hlk hu h (by simp [Function.comp_def]) hp
      exact ⟨_, _, hK, made (by unfold execOp; simp only [hop]) h2 h3⟩
  | load t x =>
    rw [hop] at h hv
    replace h : loadW P t (ρ x) look (K · .none) := h
    obtain ⟨r, q, h1, h2, h3⟩ := load_sound (P := P) h (hv x (by simp [Op.operands])) hl hS.objs
    exact ⟨_, _, h1, pure_ (by unfold execOp; simp only [hop]) h2 h3⟩
  | store t x y =>
    rw [hop] at h hv
    replace h : storeW P t (ρ x) (ρ y) look K := h
    obtain ⟨r, eff, w', h1, h2, h3⟩ := store_sound (P := P) (k := k) hS h (hv x (by simp [Op.operands])) (hv y (by simp [Op.operands])) hl
    exact ⟨_, _, h1, yields_skip (by unfold execOp; simp only [hop]; rw [run_bind h2]; rfl) h3⟩
  | nilCheck x =>
    rw [hop] at h hv
    replace h : nilW (ρ x) K := h
    have hx := hv x (by simp [Op.operands])
    unfold nilW at h
    split at h
    · rename_i hh
      rw [hh] at hx
      have hx0 := hx
      simp only [Rep] at hx
      obtain ⟨_, _, b, _, hu⟩ := hx
      rw [hh] at h
      exact ⟨_, _, h, yields_value (by unfold execOp; simp only [hop, hu]; rfl) (post_none hS (by rw [← hu]; exact hx0))⟩
    · rename_i hh
      rw [hh] at hx
      have hx0 := hx
      simp only [Rep] at hx
      obtain ⟨b, o', u, hu, _⟩ := hx
      rw [hh] at h
      exact ⟨_, _, h, yields_value (by unfold execOp; simp only [hop, hu]; rfl) (post_none hS (by rw [← hu]; exact hx0))⟩
    · rename_i hh
      rw [hh] at hx
      have hx0 := hx
      simp only [Rep] at hx
      obtain ⟨cs, hu, _⟩ := hx
      rw [hh] at h
      exact ⟨_, _, h, yields_value (by unfold execOp; simp only [hop, hu]; rfl) (post_none hS (by rw [← hu]; exact hx0))⟩
    · exact h.elim
  | binOp op t x y yt =>
    rw [hop] at h hv
    replace h : binXW P t op (ρ x) (ρ y) (K · .none) := h
    obtain ⟨r, q, h1, h2, h3⟩ := binX_sound (P := P) (w := w) (x := x) (y := y) h (hv x (by simp [Op.operands])) (hv y (by simp [Op.operands]))
    exact ⟨_, _, h1, pure_ (by unfold execOp; simp only [hop]) h2 h3⟩
  | unOp op t x =>
    rw [hop] at h hv
    replace h : unW op (ρ x) (K · .none) := h
    obtain ⟨r, q, h1, h2, h3⟩ := un_sound (P := P) (w := w) h (hv x (by simp [Op.operands]))
    exact ⟨_, _, h1, pure_ (by unfold execOp; simp only [hop]) h2 h3⟩
  | convert s d x =>
    rw [hop] at h hv
    replace h : convertW P k s d (ρ x) look K := h
    obtain ⟨r, eff, q, w', h1, h2, h3⟩ := convert_sound (P := P) hS hk h (hv x (by simp [Op.operands])) hl
    exact ⟨_, _, h1, made (by unfold execOp; simp only [hop]) h2 h3⟩
  | makeInterface t x =>
    rw [hop] at h hv
    replace h : ifaceW P t (ρ x) K := h
    unfold ifaceW at h
    split at h
    · exact h.elim
    · rename_i d hni hd
      refine ⟨_, _, h, pure_ (s := Instr.makeInterface t (a.eval x)) (q := .iface t (a.eval x)) (by unfold execOp; simp only [hop]) ?_ (by simp only [Rep]; exact ⟨_, rfl, hv x (by simp [Op.operands])⟩)⟩
      unfold Instr.makeInterface
      rw [run_bind (run_underlying hd)]
      cases d <;> first | exact absurd rfl (hni _) | rfl
    · exact h.elim
  | makeFunc f first caps =>
    rw [hop] at h hv
    cases f with
    | func f =>
      obtain ⟨hf, h⟩ := h
      have hf' : first = #[] := Array.eq_empty_of_size_eq_zero hf
      subst hf'
      refine ⟨_, _, h, pure_ (s := Instr.makeFunc (.func f) ((#[] : Array Operand).map a.eval) (caps.map a.eval)) (q := .func (.func f) #[] (caps.map a.eval)) (by unfold execOp; simp only [hop]) (by simp [Instr.makeFunc]) ?_⟩
      simp only [Rep]
      refine ⟨_, rfl, ?_⟩
      have := repL_map (o := o) (by rw [hop]; exact hv) caps.toList (by rw [hop]; simp [Op.operands])
      simpa using this
    | _ => exact h.elim
  | makeSlice t l c =>
    rw [hop] at h hv
    replace h : makeW P k t (ρ l) (ρ c) K := h
    obtain ⟨r, eff, q, w', h1, h2, h3⟩ := make_sound (P := P) hS hk h (hv l (by simp [Op.operands])) (hv c (by simp [Op.operands]))
    exact ⟨_, _, h1, made (by unfold execOp; simp only [hop]) h2 h3⟩
  | slice t x lo hi mx =>
    rw [hop] at h hv
    cases mx with
    | some m => exact h.elim
    | none =>
      replace h : sliceW P t (ρ x) (lo.map ρ) (hi.map ρ) look (K · .none) := h
      obtain ⟨r, q, h1, h2, h3⟩ := slice_sound (P := P) (w := w) (E := ⟨w, μ, S.objs, B.ban⟩) (a := lo.map a.eval) (b := hi.map a.eval) h (hv x (by simp [Op.operands]))
        (by cases lo with | none => exact .none | some y => exact .some (hv y (by simp [Op.operands])))
        (by cases hi with | none => exact .none | some y => exact .some (hv y (by simp [Op.operands]))) hl hS.objs
      exact ⟨_, _, h1, pure_ (by unfold execOp; simp only [hop]; rfl) h2 h3⟩
  | sliceToArrayPointer t x =>
    rw [hop] at h hv
    replace h : arrPW P t (ρ x) (K · .none) := h
    obtain ⟨r, q, h1, h2, h3⟩ := arrP_sound (P := P) (w := w) h (hv x (by simp [Op.operands]))
    exact ⟨_, _, h1, pure_ (by unfold execOp; simp only [hop]) h2 h3⟩
  | fieldAddr t x f =>
    rw [hop] at h hv
    replace h : fieldAddrW P t (ρ x) f (K · .none) := h
    obtain ⟨r, q, h1, h2, h3⟩ := fieldAddr_sound (P := P) (w := w) h (hv x (by simp [Op.operands]))
    exact ⟨_, _, h1, pure_ (by unfold execOp; simp only [hop]) h2 h3⟩
  | field t x f =>
    rw [hop] at h hv
    replace h : fieldW P t (ρ x) f (K · .none) := h
    obtain ⟨r, q, h1, h2, h3⟩ := field_sound (P := P) (w := w) h (hv x (by simp [Op.operands]))
    exact ⟨_, _, h1, pure_ (by unfold execOp; simp only [hop]) h2 h3⟩
  | indexAddr t x i =>
    rw [hop] at h hv
    replace h : indexAddrW P t (ρ x) (ρ i) (K · .none) := h
    obtain ⟨r, q, h1, h2, h3⟩ := indexAddr_sound (P := P) (w := w) h (hv x (by simp [Op.operands])) (hv i (by simp [Op.operands]))
    exact ⟨_, _, h1, pure_ (by unfold execOp; simp only [hop]) h2 h3⟩
  | index t x i =>
    rw [hop] at h hv
    replace h : indexW P t (ρ x) (ρ i) (K · .none) := h
    obtain ⟨r, q, h1, h2, h3⟩ := index_sound (P := P) (w := w) h (hv x (by simp [Op.operands])) (hv i (by simp [Op.operands]))
    exact ⟨_, _, h1, pure_ (by unfold execOp; simp only [hop]) h2 h3⟩
  | extract x i =>
    rw [hop] at h hv
    replace h : extractW (ρ x) i (K · .none) := h
    obtain ⟨r, q, h1, h2, h3⟩ := extract_sound (P := P) (w := w) h (hv x (by simp [Op.operands]))
    exact ⟨_, _, h1, pure_ (by unfold execOp; simp only [hop]) h2 h3⟩
  | call c =>
    rw [hop] at h hv
    obtain ⟨callee, args, ts⟩ := c
    cases callee with
    | invoke r nm => exact h.elim
    | value f =>
      replace h : callW P (ρ f) (args.toList.map ρ) look K ∨ callRW P (ρ f) (args.toList.map ρ) look K := h
      rcases h with h | h
      rotate_left
      · unfold callRW at h
        split at h
        · rename_i g caps hg
          rcases h with h | h | h
          rotate_left 2
          · obtain ⟨o', t', sz', l0, l', more, hlo, hF, hle, hK⟩ := h
            have hoo := hl _ _ hlo
            have hf := hv f (by simp [Op.operands, Call.operands])
            rw [hg] at hf
            simp only [Rep] at hf
            obtain ⟨cs, hfv, hcs⟩ := hf
            have hA := repL_map (o := o) (by rw [hop]; exact hv) args.toList (by rw [hop]; intro x hx; simp [Op.operands, Call.operands]; right; simpa using hx)
            have hA' := dsnapL_rep hS hl _ _ hA
            have hall := hle _ _ (hA'.append hcs)
            have hcall := callI_sound (P := P) (vs := (args.map a.eval) ++ cs) hS hoo hF (by simpa using hall)
            exact ⟨.tup [], _, hK, yields_enter (run_call hop hfv hF.1) (hcall.mono fun e w' ⟨he, hp⟩ => ⟨_, he, μ, hp, by simp only [Rep, RepL]; exact ⟨#[], rfl, rfl⟩⟩)⟩
          rotate_left
          · obtain ⟨o', t', sz', l', lk', hlo, hcl, r, ⟨hen, hF⟩, hK⟩ := h
            have hoo := hl _ _ hlo
            have hf := hv f (by simp [Op.operands, Call.operands])
            rw [hg] at hf
            simp only [Rep] at hf
            obtain ⟨cs, hfv, hcs⟩ := hf
            have hA := repL_map (o := o) (by rw [hop]; exact hv) args.toList (by rw [hop]; intro x hx; simp [Op.operands, Call.operands]; right; simpa using hx)
            have hA' := dsnapL_rep hS hl _ _ hA
            have hRL : ∀ i : Nat, RL S.objs[i]? (S.objs.set o' (some (.buf t' sz' l' (max lk' l'.length))))[i]? := by
              intro i
              rw [List.getElem?_set]
              by_cases e : o' = i
              · subst e
                rw [if_pos rfl, hoo, if_pos (List.getElem?_eq_some_iff.1 hoo).1]
                exact .buf (Nat.le_max_left _ _) (fun h => Nat.max_le.2 ⟨h, Nat.le_refl _⟩)
              · rw [if_neg e]; exact RL.refl _
            have hS2 : Sat B ⟨S.tmps, S.objs.set o' (some (.buf t' sz' l' (max lk' l'.length)))⟩ a w μ := hS.relock hRL
            have hst := RL.stepE (B := B) (w := w) (μ := μ) hRL
            have hall0 := RepL.step hst (hA'.append hcs)
            have hl2 : ∀ i x, lockRow look o' (.buf t' sz' l' (max lk' l'.length)) i = some x → (S.objs.set o' (some (.buf t' sz' l' (max lk' l'.length))))[i]? = some (some x) := by
              intro i x hx
              unfold lockRow at hx
              rw [List.getElem?_set]
              by_cases e : i = o'
              · subst e
                rw [if_pos rfl] at hx
                rw [if_pos rfl, if_pos (List.getElem?_eq_some_iff.1 hoo).1, ← hx]
              · rw [if_neg e] at hx
                rw [if_neg (fun h => e h.symm)]
                exact hl _ _ hx
            have hall := RepL.close _ _ _ hcl (dsnapL_rep hS2 hl2 _ _ hall0)
            let ban' : Ban := ⟨fun b j => B.ban b j ∨ ∃ lk, (⟨w, μ, S.objs.set o' (some (.buf t' sz' l' (max lk' l'.length))), B.ban⟩ : Env).own b lk ∧ ¬ j < lk, fun _ _ => True⟩
            have hban : ∀ b j, ban' b j → b < w.heap.size := by
              rintro b j (h | ⟨lk, ⟨o', x, h1, h2, h3⟩, _⟩)
              · exact Nat.lt_of_lt_of_le (B.banlt b j h) hS.kept.size
              · exact Own.lt hS2 h1 (fun e => by subst e; cases h3) h2
            have hin : StepC ⟨w, μ, S.objs.set o' (some (.buf t' sz' l' (max lk' l'.length))), B.ban⟩ (E0 w ban') := ⟨fun b j v ⟨h1, h2, h3⟩ => ⟨h1, fun lk ⟨o', x, h, _⟩ => by simp [E0] at h, fun h => by
              rcases h with h | ⟨lk, h, hn⟩
              · exact h3 h
              · exact hn (h2 lk h)⟩, fun b c t fr h => ⟨c, fr, h, rfl⟩⟩
            have hcall := hF w ban' ((args.map a.eval) ++ cs) hban hS.kept.gi (by
              have := RepL.stepC hin _ _ hall
              simpa using this)
            refine ⟨r, _, hK, yields_enter (run_call hop hfv hen) (hcall.mono fun e w' ⟨u, he, hbel, hr⟩ => ⟨u, he, μ, hS2.below hbel, ?_⟩)⟩
            exact Rep.open _ _ _ (Rep.stepC (E := E0 w' ban') (E' := ⟨w', μ, S.objs.set o' (some (.buf t' sz' l' (max lk' l'.length))), B.ban⟩) ⟨fun b j v ⟨h1, _, h3⟩ => ⟨h1, fun lk hown => Classical.byContradiction fun hn => h3 (.inr ⟨lk, hown, hn⟩), fun h => h3 (.inl h)⟩, fun b c t fr h => ⟨c, fr, h, rfl⟩⟩ _ _ hr)
          obtain ⟨σ, objs, args', res, objs', hF, hnd, hrel, hle, hK⟩ := h
          have hf := hv f (by simp [Op.operands, Call.operands])
          rw [hg] at hf
          simp only [Rep] at hf
          obtain ⟨cs, hfv, hcs⟩ := hf
          have hA := repL_map (o := o) (by rw [hop]; exact hv) args.toList (by rw [hop]; intro x hx; simp [Op.operands, Call.operands]; right; simpa using hx)
          have hA' := dsnapL_rep hS hl _ _ hA
          have hall := hle _ _ (hA'.append hcs)
          have hcall := callR_sound (P := P) (vs := (args.map a.eval) ++ cs) k hS hl hF hnd hrel (by simpa using hall)
          exact ⟨renF σ res, _, hK, yields_enter (run_call hop hfv hF.1) (hcall.mono fun e w' ⟨u, he, hp⟩ => ⟨u, he, hp⟩)⟩
        · exact h.elim
      unfold callW at h
      split at h
      · rename_i g caps hg
        obtain ⟨hcl, r, ⟨hen, hF⟩, hK⟩ := h
        have hf := hv f (by simp [Op.operands, Call.operands])
        rw [hg] at hf
        simp only [Rep] at hf
        obtain ⟨cs, hfv, hcs⟩ := hf
        have hA := repL_map (o := o) (by rw [hop]; exact hv) args.toList (by rw [hop]; intro x hx; simp [Op.operands, Call.operands]; right; simpa using hx)
        have hA' := dsnapL_rep hS hl _ _ hA
        have hall := RepL.close _ _ _ hcl (hA'.append hcs)
        let ban' : Ban := ⟨fun b j => B.ban b j ∨ ∃ lk, (⟨w, μ, S.objs, B.ban⟩ : Env).own b lk ∧ ¬ j < lk, fun _ _ => True⟩
        have hban : ∀ b j, ban' b j → b < w.heap.size := by
          rintro b j (h | ⟨lk, ⟨o', x, h1, h2, h3⟩, _⟩)
          · exact Nat.lt_of_lt_of_le (B.banlt b j h) hS.kept.size
          · exact Own.lt hS h1 (fun e => by subst e; cases h3) h2
        have hin : StepC ⟨w, μ, S.objs, B.ban⟩ (E0 w ban') := ⟨fun b j v ⟨h1, h2, h3⟩ => ⟨h1, fun lk ⟨o', x, h, _⟩ => by simp [E0] at h, fun h => by
          rcases h with h | ⟨lk, h, hn⟩
          · exact h3 h
          · exact hn (h2 lk h)⟩, fun b c t fr h => ⟨c, fr, h, rfl⟩⟩
        have hcall := hF w ban' ((args.map a.eval) ++ cs) hban hS.kept.gi (by
          have := RepL.stepC hin _ _ hall
          simpa using this)
        refine ⟨r, .none, hK, yields_enter (run_call hop hfv hen) (hcall.mono fun e w' ⟨u, he, hbel, hr⟩ => ⟨u, he, μ, hS.below hbel, ?_⟩)⟩
        refine Rep.open _ _ _ (Rep.stepC (E := E0 w' ban') (E' := ⟨w', μ, S.objs, B.ban⟩) ⟨fun b j v ⟨h1, _, h3⟩ => ⟨h1, fun lk hown => Classical.byContradiction fun hn => h3 (.inr ⟨lk, hown, hn⟩), fun h => h3 (.inl h)⟩, fun b c t fr h => ⟨c, fr, h, rfl⟩⟩ _ _ hr)
      · exact h.elim
    | builtin b =>
      have hA := repL_map (o := o) (by rw [hop]; exact hv) args.toList (by rw [hop]; intro x hx; simp [Op.operands, Call.operands]; simpa using hx)
      obtain ⟨cs0, hexec⟩ : ∃ cs0, execOp a.eval o = (do
          let d ← (pure { target := .builtin b ts o.type cs0, args := args.map a.eval } : Sem Deferred)
          invoke d.target d.args) := ⟨_, by unfold execOp; simp only [hop, resolve]; rfl⟩
      replace h : builtinW P k b ts (args.toList.map ρ) look K := h
      unfold builtinW at h
      split at h
      · rename_i t x hts hargs
        rw [hargs] at hA
        simp only [RepL] at hA
        obtain ⟨v, vs, e1, hx, e2⟩ := hA
        subst e2
        obtain ⟨r, q, h1, h2, h3⟩ := run_len (P := P) (w := w) (ty := o.type) h hx
        refine ⟨r, .none, h1, yields_value (v := q) ?_ (post_none hS h3)⟩
        have ets : ts = #[t] := by rw [← Array.toArray_toList (xs := ts), hts]
        have eargs : args.map a.eval = #[v] := by rw [← Array.toArray_toList (xs := args.map a.eval), Array.toList_map, e1]
        rw [hexec, run_bind (show (pure _ : Sem Deferred).run P w = .ok _ w from rfl)]
        simp only [invoke, builtin, ets, eargs]
        rw [run_bind h2]; rfl
      · rename_i t u s x hts hargs
        rw [hargs] at hA
        simp only [RepL] at hA
        obtain ⟨v1, vs1, e1, hx1, v2, vs2, e2, hx2, e3⟩ := hA
        subst e3 e2
        obtain ⟨r, eff, q, w', h1, h2, h3⟩ := append_sound (P := P) (ty := o.type) hS hk h hx1 hx2 hl
        refine ⟨r, eff, h1, yields_value (v := q) ?_ h3⟩
        have ets : ts = #[t, u] := by rw [← Array.toArray_toList (xs := ts), hts]
        have eargs : args.map a.eval = #[v1, v2] := by rw [← Array.toArray_toList (xs := args.map a.eval), Array.toList_map, e1]
        rw [hexec, run_bind (show (pure _ : Sem Deferred).run P w = .ok _ w from rfl)]
        simp only [invoke, builtin, ets, eargs]
        rw [run_bind h2]; rfl
      · rename_i t u s x hts hargs
        rw [hargs] at hA
        simp only [RepL] at hA
        obtain ⟨v1, vs1, e1, hx1, v2, vs2, e2, hx2, e3⟩ := hA
        subst e3 e2
        obtain ⟨r, eff, q, w', h1, h2, h3⟩ := copy_sound (P := P) (k := k) (ty := o.type) hS h hx1 hx2 hl
        refine ⟨r, eff, h1, yields_value (v := q) ?_ h3⟩
        have ets : ts = #[t, u] := by rw [← Array.toArray_toList (xs := ts), hts]
        have eargs : args.map a.eval = #[v1, v2] := by rw [← Array.toArray_toList (xs := args.map a.eval), Array.toList_map, e1]
        rw [hexec, run_bind (show (pure _ : Sem Deferred).run P w = .ok _ w from rfl)]
        simp only [invoke, builtin, ets, eargs]
        rw [run_bind h2]; rfl
      · rename_i x y hts hargs
        rw [hargs] at hA
        simp only [RepL] at hA
        obtain ⟨v1, vs1, e1, hx1, v2, vs2, e2, hx2, e3⟩ := hA
        subst e3 e2
        unfold min2W at h
        split at h
        · rename_i k1 n1 k2 n2
          simp only [Rep, flat, and_true] at hx1 hx2
          subst hx1 hx2
          refine ⟨_, .none, h, yields_value (v := .int k1 (if n2 < n1 then n2 else n1)) ?_ (post_none hS (by simp only [Rep, flat, and_true]))⟩
          have eargs : args.map a.eval = #[.int k1 n1, .int k2 n2] := by rw [← Array.toArray_toList (xs := args.map a.eval), Array.toList_map, e1]
          rw [hexec, run_bind (show (pure _ : Sem Deferred).run P w = .ok _ w from rfl)]
          simp only [invoke, builtin, eargs]
          rfl
        · exact h.elim
      · rename_i x y hts hargs
        rw [hargs] at hA
        simp only [RepL] at hA
        obtain ⟨v1, vs1, e1, hx1, v2, vs2, e2, hx2, e3⟩ := hA
        subst e3 e2
        unfold max2W at h
        split at h
        · rename_i k1 n1 k2 n2
          simp only [Rep, flat, and_true] at hx1 hx2
          subst hx1 hx2
          refine ⟨_, .none, h, yields_value (v := .int k1 (if n2 > n1 then n2 else n1)) ?_ (post_none hS (by simp only [Rep, flat, and_true]))⟩
          have eargs : args.map a.eval = #[.int k1 n1, .int k2 n2] := by rw [← Array.toArray_toList (xs := args.map a.eval), Array.toList_map, e1]
          rw [hexec, run_bind (show (pure _ : Sem Deferred).run P w = .ok _ w from rfl)]
          simp only [invoke, builtin, eargs]
          rfl
        · exact h.elim
      · exact h.elim
  | _ => rw [hop] at h; exact h.elim
end
end Go.Proofs.YtdaojihnaajfeaaX

/- Code, run on trees. Of no program. -/
set_option linter.unusedVariables false
set_option linter.unusedSimpArgs false
namespace Go.Proofs.YtdaojihnaajfeaaX
open Go Go.RowKit
def trim : List (Option Own) → List (Option Own)
  | [] => []
  | [none] => []
  | x :: l => x :: trim l
theorem trim_get : ∀ (l : List (Option Own)) (i : Nat) (x : Own), (trim l)[i]? = some (some x) ↔ l[i]? = some (some x)
  | [], i, x => by simp [trim]
  | [none], i, x => by cases i <;> simp [trim]
  | [some y], i, x => by cases i <;> simp [trim]
  | a :: b :: l, i, x => by
    have e : trim (a :: b :: l) = a :: trim (b :: l) := by rw [trim]; simp
    rw [e]
    cases i with
    | zero => simp
    | succ i => simpa using trim_get (b :: l) i x
theorem Step.same {w : World} {μ : Nat → Option Nat} {ban : Ban} {objs objs' : List (Option Own)} (h : ∀ (i : Nat) (x : Own), objs'[i]? = some (some x) ↔ objs[i]? = some (some x)) : Step [] ⟨w, μ, objs, ban⟩ ⟨w, μ, objs', ban⟩ :=
  ⟨⟨fun b j v ⟨h1, h2, h3⟩ => ⟨h1, fun lk ⟨o, x, k1, k2, k3⟩ => h2 lk ⟨o, x, (h o x).1 k1, k2, k3⟩, h3⟩, fun b c t fr hb => ⟨c, fr, hb, rfl⟩⟩, fun o ⟨x, hx⟩ _ => ⟨x, (h o x).2 hx⟩, fun _ _ _ => rfl⟩
theorem OwnAt.step {w : World} {μ : Nat → Option Nat} {ban : Ban} {objs objs' : List (Option Own)} (hs : Step [] ⟨w, μ, objs, ban⟩ ⟨w, μ, objs', ban⟩) {o : Nat} : ∀ {x : Own}, OwnAt ⟨w, μ, objs, ban⟩ o x → OwnAt ⟨w, μ, objs', ban⟩ o x
  | .box t x lk, ⟨b, fr, u, h1, h2, h3, h4, h5⟩ => ⟨b, fr, u, h1, h2, h3, Rep.step hs h4, h5⟩
  | .buf t sz l lk, ⟨h0, h1⟩ => ⟨h0, h1.imp id fun ⟨b, c, fr, c1, c2, h1, h2, h3, h4, h5⟩ => ⟨b, c, fr, c1, c2, h1, h2, h3, h4, RepR.stepC hs.toStepC _ _ _ h5⟩⟩
  | .dead, _ => trivial
theorem Sat.same {B : Base} {S : St} {a : Act} {w : World} {μ : Nat → Option Nat} (hS : Sat B S a w μ) {objs' : List (Option Own)} (h : ∀ (i : Nat) (x : Own), objs'[i]? = some (some x) ↔ S.objs[i]? = some (some x)) : Sat B ⟨S.tmps, objs'⟩ a w μ := by
  have hs : Step [] ⟨w, μ, S.objs, B.ban⟩ ⟨w, μ, objs', B.ban⟩ := Step.same h
  have := hS.go hs ⟨fun o x hx => OwnAt.step hs (hS.objs.at_ o x ((h o x).1 hx)), fun o o' x x' b h1 h2 => hS.objs.inj o o' x x' b ((h o x).1 h1) ((h o' x').1 h2)⟩ (fun o x b h1 => hS.fresh o x b ((h o x).1 h1)) hS.kept
  rwa [killL_nil] at this
def St.pad (S : St) : St := ⟨S.tmps, S.objs ++ [none]⟩
theorem pad_get (l : List (Option Own)) (i : Nat) (x : Own) : (l ++ [none])[i]? = some (some x) ↔ l[i]? = some (some x) := by
  by_cases h : i < l.length
  · rw [List.getElem?_append_left h]
  · rw [List.getElem?_append_right (by omega), List.getElem?_eq_none (l := l) (by omega)]
    cases e : i - l.length <;> simp
def St.after (S : St) : Eff → St
  | .none => S
  | .new x => ⟨S.tmps, S.objs ++ [some x]⟩
  | .put o x => ⟨S.tmps, trim ((S.objs ++ [none]).set o (some x))⟩
  | .move ks o x => ⟨killL ks S.tmps, trim (((S.objs ++ [none]).map (Option.map (Own.kill ks))).set o (some x))⟩
  | .shift o x => ⟨S.tmps, trim (((S.objs ++ [none]).set S.objs.length (some x)).set o (some .dead))⟩
  | .many ks l => ⟨killL ks S.tmps, trim (setsO l ((S.objs ++ [none]).map (Option.map (Own.kill ks))))⟩
def lookS (S : St) : Nat → Option Own := fun i => match S.objs[i]? with | some x => x | none => none
theorem lookS_some {S : St} {i : Nat} {x : Own} (h : lookS S i = some x) : S.objs[i]? = some (some x) := by
  unfold lookS at h
  split at h
  · rename_i y hy; rw [hy, h]
  · cases h
theorem op_after {P : Program} {B : Base} {S : St} {a : Act} {w : World} {μ : Nat → Option Nat} {o : Oper} {K : T → Eff → Prop} (h : opW P S.objs.length o.op (evalT S) (lookS S) K) (hS : Sat B S a w μ) :
    ∃ v eff, K v eff ∧ Yields P o a w fun u w' => ∃ μ', Sat B (S.after eff) a w' μ' ∧ Rep ⟨w', μ', (S.after eff).objs, B.ban⟩ false v u := by
  have hP : Sat B S.pad a w μ := hS.same (pad_get S.objs)
  obtain ⟨v, eff, hK, hY⟩ := op_sound (S := S.pad) (k := S.objs.length) (look := lookS S) (ρ := evalT S) h hP (fun x _ => by cases x <;> rfl) (fun i x hx => (pad_get S.objs i x).2 (lookS_some hx)) (by simp [St.pad])
  refine ⟨v, eff, hK, hY.mono fun u w' ⟨μ', h1, h2⟩ => ⟨μ', ?_⟩⟩
  cases eff with
  | none =>
    have h3 := h1.same (objs' := S.objs) (fun i x => (pad_get S.objs i x).symm)
    exact ⟨h3, Rep.step (Step.same fun i x => (pad_get S.objs i x).symm) h2⟩
  | new x =>
    have e : (S.pad.eff S.objs.length (.new x)).objs = S.objs ++ [some x] := by simp [St.eff, St.pad]
    have h1' : Sat B ⟨S.tmps, (S.pad.eff S.objs.length (.new x)).objs⟩ a w' μ' := h1
    rw [e] at h1' h2
    exact ⟨h1', h2⟩
  | put o x =>
    exact ⟨h1.same (fun i y => trim_get _ i y), Rep.step (Step.same fun i y => trim_get _ i y) h2⟩
  | move ks o x =>
    exact ⟨h1.same (fun i y => trim_get _ i y), Rep.step (Step.same fun i y => trim_get _ i y) h2⟩
  | shift o x =>
    exact ⟨h1.same (fun i y => trim_get _ i y), Rep.step (Step.same fun i y => trim_get _ i y) h2⟩
  | many ks l =>
    exact ⟨h1.same (fun i y => trim_get _ i y), Rep.step (Step.same fun i y => trim_get _ i y) h2⟩
def guardW (ops : Array Oper) (S : St) (o : Oper) (Kt Kf : Prop) : Prop :=
  match o.guard with
  | none => Kt
  | some (j, want) => match (ops[j]?).bind (·.dst) with
    | some d => (match S.tmps.getD d .junk with
      | .imm (.bool b) => (b = want → Kt) ∧ (b ≠ want → Kf)
      | .tup l => l = [] ∧ Kf
      | _ => False)
    | none => False
def stepsW (P : Program) (ops : Array Oper) : List Oper → St → (St → Prop) → Prop
  | [], S, K => K S
  | o :: rest, S, K => guardW ops S o (opW P S.objs.length o.op (evalT S) (lookS S) fun v eff => stepsW P ops rest ((S.after eff).put o.dst v) K) (stepsW P ops rest (S.put o.dst (.tup [])) K)
def SatQ (B : Base) (Q : Exit → St → Prop) : Exit → Act → World → Prop := fun e a w => ∃ S μ, Q e S ∧ Sat B S a w μ
theorem guard_wanted {B : Base} {S : St} {a : Act} {w : World} {μ : Nat → Option Nat} {ops : Array Oper} {o : Oper} {Kt Kf : Prop} (hS : Sat B S a w μ) (h : guardW ops S o Kt Kf) :
    (Region.wanted o (yielded ops a.tmps) = true ∧ Kt) ∨ (Region.wanted o (yielded ops a.tmps) = false ∧ Kf) := by
  unfold guardW at h
  split at h
  · rename_i hg; exact .inl ⟨by simp [Region.wanted, hg], h⟩
  · rename_i j want hg
    split at h
    · rename_i d hd
      split at h
      · rename_i b hb
        have hr := RepL.get hS.tmps d undef
        rw [hb] at hr
        simp only [Rep, flat, and_true] at hr
        have hy : yielded ops a.tmps j = some b := by
          unfold yielded
          rw [hd]
          have : a.tmps[d]? = some (.bool b) := by
            rw [List.getD_eq_getElem?_getD, Array.getElem?_toList] at hr
            cases hh : a.tmps[d]? with
            | none => rw [hh] at hr; cases hr
            | some v => rw [hh] at hr; simp at hr; rw [hr]
          simp [this]
        have hw : Region.wanted o (yielded ops a.tmps) = (b == want) := by
          unfold Region.wanted; rw [hg]; simp [hy]
        by_cases e : b = want
        · exact .inl ⟨by rw [hw]; simp [e], h.1 e⟩
        · exact .inr ⟨by rw [hw]; simp [e], h.2 e⟩
      · rename_i l hb
        obtain ⟨rfl, h⟩ := h
        have hr := RepL.get hS.tmps d undef
        rw [hb] at hr
        simp only [Rep, RepL] at hr
        obtain ⟨cs, hr, hc⟩ := hr
        have hy : yielded ops a.tmps j = none := by
          unfold yielded
          rw [hd]
          rw [List.getD_eq_getElem?_getD, Array.getElem?_toList] at hr
          cases hh : a.tmps[d]? with
          | none => simp [hh]
          | some v =>
            rw [hh] at hr
            have hr : v = _ := hr
            subst hr
            simp [hh]
        refine .inr ⟨?_, h⟩
        unfold Region.wanted; rw [hg]; simp [hy]
      · exact h.elim
    · exact h.elim
theorem steps_sound {P : Program} {B : Base} {ops : Array Oper} {Q : Exit → St → Prop} : ∀ (l : List Oper) (S : St) (a : Act) (w : World) (μ : Nat → Option Nat), stepsW P ops l S (Q .normal) → Sat B S a w μ → wpList P ops (SatQ B Q) l a w
  | [], S, a, w, μ, h, hS => ⟨S, μ, h, hS⟩
  | o :: rest, S, a, w, μ, h, hS => by
    unfold stepsW at h
    unfold wpList
    rcases guard_wanted hS h with ⟨hw, h⟩ | ⟨hw, h⟩
    · rw [if_pos hw]
      obtain ⟨v, eff, hK, hY⟩ := op_after h hS
      exact .inl (hY _ _ fun u w' ⟨μ', h1, h2⟩ => steps_sound rest _ _ _ μ' hK (h1.put h2 o.dst))
    · rw [if_neg (by simp [hw])]
      exact steps_sound rest _ _ _ μ h (hS.put (by simp only [Rep, RepL]; exact ⟨#[], rfl, rfl⟩) o.dst)
def WP (P : Program) (c : Code) (S : St) (Q : Exit → St → Prop) : Prop := ∀ (B : Base) (a : Act) (w : World) (μ : Nat → Option Nat), Sat B S a w μ → c.wp P (SatQ B Q) a w
def thenQ (K : St → Prop) (Q : Exit → St → Prop) : Exit → St → Prop
  | .normal, S => K S
  | e, S => Q e S
def blockQ (id : Nat) (Q : Exit → St → Prop) : Exit → St → Prop
  | .exit id', S => if id' = id then Q .normal S else Q (.exit id') S
  | e, S => Q e S
section
variable {P : Program} {S : St} {Q : Exit → St → Prop}
theorem WP.mono {c : Code} {Q' : Exit → St → Prop} (h : WP P c S Q) (hq : ∀ e S, Q e S → Q' e S) : WP P c S Q' := fun B a w μ hS => wp_mono (h B a w μ hS) fun e a w ⟨S, μ, h1, h2⟩ => ⟨S, μ, hq e S h1, h2⟩
theorem WP.region {id : Nat} {ops : Array Oper} (h : stepsW P ops ops.toList S (Q .normal)) : WP P (.region id ops false) S Q := fun B a w μ hS => wp_region_list (steps_sound _ _ _ _ _ h hS)
theorem WP.seq {x y : Code} (h : WP P x S (thenQ (fun S' => WP P y S' Q) Q)) : WP P (.seq x y) S Q := fun B a w μ hS => wp_seq (wp_mono (h B a w μ hS) fun e a w ⟨S, μ, h1, h2⟩ => by
  cases e with
  | normal => exact h1 B a w μ h2
  | _ => exact ⟨S, μ, h1, h2⟩)
theorem WP.cond {c : Operand} {x y : Code} {b : Bool} (hc : evalT S c = .imm (.bool b)) (ht : b = true → WP P x S Q) (hf : b = false → WP P y S Q) : WP P (.cond c x y) S Q := fun B a w μ hS => by
  have := hS.eval c
  rw [hc] at this
  simp only [Rep, flat, and_true] at this
  exact wp_cond_split this (fun h => ht h B a w μ hS) (fun h => hf h B a w μ hS)
theorem WP.block {id : Nat} {c : Code} (h : WP P c S (blockQ id Q)) : WP P (.block id c) S Q := fun B a w μ hS => wp_block (wp_mono (h B a w μ hS) fun e a w ⟨S, μ, h1, h2⟩ => by
  cases e with
  | exit id' =>
    simp only [Exit.inBlock]
    simp only [blockQ] at h1
    split at h1
    · rename_i e; rw [if_pos e]; exact ⟨S, μ, h1, h2⟩
    · rename_i e; rw [if_neg e]; exact ⟨S, μ, h1, h2⟩
  | _ => exact ⟨S, μ, h1, h2⟩)
theorem WP.skip (h : Q .normal S) : WP P .skip S Q := fun B a w μ hS => wp_skip ⟨S, μ, h, hS⟩
theorem WP.exit {id : Nat} (h : Q (.exit id) S) : WP P (.exit id) S Q := fun B a w μ hS => wp_exit ⟨S, μ, h, hS⟩
theorem WP.ret (h : Q .ret S) : WP P .ret S Q := fun B a w μ hS => wp_ret ⟨S, μ, h, hS⟩
theorem wp_loop_n {c : Code} {Q : Exit → Act → World → Prop} (I : Nat → Act → World → Prop) (round : ∀ n a w, I n a w → c.wp P (Exit.then (fun a' w' => ∃ m, m < n ∧ I m a' w') Q) a w) (n : Nat) (a : Act) (w : World) (h₀ : I n a w) : (Code.loop c).wp P Q a w := by
  intro b k cs
  have key : ∀ n a w, I n a w → ∃ e a' w', Q e a' w' ∧ Arrives P (lone (b.at a (.code c :: .inLoop c :: k)) cs w) b k cs e a' w' := by
    intro n
    induction n using Nat.strongRecOn with
    | _ n ih =>
      intro a w hI
      obtain ⟨e, a₁, w₁, hq, harr⟩ := round n a w hI b (.inLoop c :: k) cs
      cases e with
      | normal =>
        obtain ⟨m, hlt, hI₁⟩ := hq
        obtain ⟨e₂, a₂, w₂, hq₂, harr₂⟩ := ih m hlt a₁ w₁ hI₁
        exact ⟨e₂, a₂, w₂, hq₂, .of_steps (Steps.trans harr (.one step_inLoop)) harr₂⟩
      | exit id => exact ⟨_, a₁, w₁, hq, .pass (x := .inLoop c) rfl (fun _ _ => .inl (by simp)) harr⟩
      | goto l => exact ⟨_, a₁, w₁, hq, .pass (x := .inLoop c) rfl (fun _ _ => .inl (by simp)) harr⟩
      | ret => exact ⟨_, a₁, w₁, hq, .pass (x := .inLoop c) rfl (fun _ _ => .inl (by simp)) harr⟩
      | panic ch => exact ⟨_, a₁, w₁, hq, .pass (x := .inLoop c) rfl (fun _ _ => .inl (by simp)) harr⟩
      | outgrown => exact ⟨_, a₁, w₁, hq, .pass (x := .inLoop c) rfl (fun _ _ => .inl (by simp)) harr⟩
  obtain ⟨e, a', w', hq, harr⟩ := key _ a w h₀
  exact ⟨e, a', w', hq, .of_steps (.one step_loop) harr⟩
theorem WP.loop {c : Code} (I : Nat → St → Prop) (n : Nat) (h0 : I n S) (round : ∀ n S, I n S → WP P c S (thenQ (fun S' => ∃ m, m < n ∧ I m S') Q)) : WP P (.loop c) S Q := fun B a w μ hS =>
  wp_loop_n (fun n a w => ∃ S μ, I n S ∧ Sat B S a w μ) (fun n a w ⟨S, μ, h1, h2⟩ => wp_mono (round n S h1 B a w μ h2) fun e a w ⟨S', μ', h3, h4⟩ => by
    cases e with
    | normal => obtain ⟨m, h5, h6⟩ := h3; exact ⟨m, h5, S', μ', h6, h4⟩
    | _ => exact ⟨S', μ', h3, h4⟩) n a w ⟨S, μ, h0, hS⟩
end
end Go.Proofs.YtdaojihnaajfeaaX

/- Functions. Of no program. -/
set_option linter.unusedVariables false
set_option linter.unusedSimpArgs false
namespace Go.Proofs.YtdaojihnaajfeaaX
open Go Go.RowKit
def resW (P : Program) (S : St) : List ResultVar → (List T → Prop) → Prop
  | [], K => K []
  | .tmp t :: rs, K => resW P S rs fun l => K (S.tmps.getD t .junk :: l)
  | .cell a t :: rs, K => loadW P t (S.tmps.getD a .junk) (lookS S) fun x => resW P S rs fun l => K (x :: l)
def retT : List T → T
  | [x] => x
  | l => .tup l
def RetQ (P : Program) (fn : Func) (res : T) : Exit → St → Prop
  | .normal, S | .ret, S => resW P S fn.results.toList fun l => dsnap (lookS S.lockAll) (retT l) = res ∧ closedT res = true
  | _, _ => False
theorem loadAt_asAddr {P : Program} {w w' : World} {t : TypeId} {v q : Value} (h : (Instr.loadAt t v).run P w = .ok q w') : (do loadVar t (← asAddr v) : Sem Value).run P w = .ok q w' := by
  unfold Instr.loadAt at h
  cases v with
  | pointer a =>
    cases a with
    | none => rw [Sem.run_bind] at h; cases h
    | some a =>
      rw [run_bind (show (Instr.sureAddr (.pointer (some a))).run P w = .ok a w from rfl)] at h
      rw [run_bind (show (asAddr (.pointer (some a))).run P w = .ok a w from rfl)]
      exact h
  | _ => rw [Sem.run_bind] at h; cases h
def rdRes (tmps : Array Value) : ResultVar → Sem Value
  | .tmp t => pure (tmps.getD t undef)
  | .cell a t => do loadVar t (← asAddr (tmps.getD a undef))
theorem res_sound {P : Program} {B : Base} {S : St} {a : Act} {w : World} {μ : Nat → Option Nat} (hS : Sat B S a w μ) : ∀ (rs : List ResultVar) (K : List T → Prop), resW P S rs K → ∃ l vs, K l ∧ (rs.mapM (rdRes a.tmps)).run P w = .ok vs w ∧ RepL ⟨w, μ, S.objs, B.ban⟩ false l vs
  | [], K, h => ⟨[], [], h, rfl, by simp [RepL]⟩
  | .tmp t :: rs, K, h => by
    obtain ⟨l, vs, h1, h2, h3⟩ := res_sound hS rs _ h
    have hr := RepL.get hS.tmps t undef
    refine ⟨_, a.tmps.getD t undef :: vs, h1, ?_, ?_⟩
    · rw [List.mapM_cons, run_bind (show (rdRes a.tmps (.tmp t)).run P w = .ok (a.tmps.getD t undef) w from rfl), run_bind h2]; rfl
    · simp only [RepL]
      exact ⟨_, _, rfl, by simpa [List.getD_eq_getElem?_getD, Array.getD_eq_getD_getElem?] using hr, h3⟩
  | .cell c t :: rs, K, h => by
    have hr := RepL.get hS.tmps c undef
    obtain ⟨x, q, h0, hq, hx⟩ := load_sound (P := P) (E := ⟨w, μ, S.objs, B.ban⟩) (u := a.tmps.getD c undef) h (by simpa [List.getD_eq_getElem?_getD, Array.getD_eq_getD_getElem?] using hr) (fun i x hx => lookS_some hx) hS.objs
    obtain ⟨l, vs, h1, h2, h3⟩ := res_sound hS rs _ h0
    refine ⟨_, q :: vs, h1, ?_, ?_⟩
    · rw [List.mapM_cons, run_bind (show (rdRes a.tmps (.cell c t)).run P w = .ok q w from loadAt_asAddr hq), run_bind h2]; rfl
    · simp only [RepL]
      exact ⟨_, _, rfl, hx, h3⟩
theorem FnC.of {P : Program} {f : FuncId} {fn : Func} {c : Code} {args : List T} {res : T} (hf : P.funcs[f]? = some fn) (hn : (fn.name == "runtime.NumGoroutine") = false) (hb : fn.body = some c)
    (h : WP P c ⟨args ++ List.replicate (fn.ntmps - args.length) .junk, []⟩ (RetQ P fn res)) : FnC P f args res := by
  refine ⟨⟨fn, hf, hn, by rw [hb]; rfl⟩, fun w ban vs hban hgi hv => ?_⟩
  let B : Base := { w := w, own := fun _ _ => False, lt := fun _ _ h => h.elim, one := fun _ _ _ h => h.elim, zero := fun _ _ h => h.elim, ban := ban, banlt := hban, banown := fun _ _ h => h.elim, gi := hgi, giown := fun _ _ _ h => h.elim }
  have hlen := hv.length
  rw [Array.length_toList] at hlen
  have hS : Sat B ⟨args ++ List.replicate (fn.ntmps - args.length) .junk, []⟩ { tmps := vs ++ Array.replicate (fn.ntmps - vs.size) undef, defers := [] } w (fun _ => none) := by
    refine ⟨?_, rfl, ⟨fun o x h => by simp at h, fun o o' x x' b h => by simp at h⟩, fun o x b h => by simp at h, ⟨rfl, rfl, rfl, Nat.le_refl _, fun _ _ _ => rfl, fun _ _ h => h.elim, fun _ _ h => h.elim⟩⟩
    have e : (vs ++ Array.replicate (fn.ntmps - vs.size) undef).toList = vs.toList ++ List.replicate (fn.ntmps - args.length) undef := by simp [hlen]
    show RepL _ _ _ (vs ++ Array.replicate (fn.ntmps - vs.size) undef).toList
    rw [e]
    refine RepL.append (RepL.open _ _ _ hv) ?_
    generalize fn.ntmps - args.length = n
    induction n with
    | zero => simp [RepL]
    | succ n ih => simp only [List.replicate_succ, RepL]; exact ⟨_, _, rfl, by simp only [Rep], ih⟩
  refine calls_of_wp hf hb (wp_mono (h B _ w _ hS) fun e a w' ⟨S, μ, hQ, hS'⟩ => ?_)
  have main : (resW P S fn.results.toList fun l => dsnap (lookS S.lockAll) (retT l) = res ∧ closedT res = true) → a.defers = [] ∧ ∃ v, (results fn a.tmps).run P w' = .ok v w' ∧ (∃ u, Ending.returned v = .returned u ∧ Below w.heap.size w w' ∧ Rep (E0 w' ban) true res u) := by
    intro hR
    obtain ⟨l, us, ⟨h1, h2⟩, h3, h4⟩ := res_sound hS' _ _ hR
    have hL := hS'.lockAll
    have hst : Step [] ⟨w', μ, S.objs, B.ban⟩ ⟨w', μ, S.lockAll.objs, B.ban⟩ := by
      -- (the relation between the two states, once more)
      refine ⟨⟨fun b j v ⟨q1, q2, q3⟩ => ⟨q1, fun lk ⟨o, x, k1, k2, k3⟩ => ?_, q3⟩, fun b c t fr hb => ⟨c, fr, hb, rfl⟩⟩, fun o ⟨x, hx⟩ _ => ?_, fun _ _ _ => rfl⟩
      · have k1 : (S.objs.map (Option.map Own.lockAll))[o]? = some (some x) := k1
        rw [List.getElem?_map] at k1
        cases hz : S.objs[o]? with
        | none => rw [hz] at k1; cases k1
        | some z =>
          rw [hz] at k1
          cases z with
          | none => cases k1
          | some z =>
            have k1 : some (some z.lockAll) = some (some x) := k1
            cases k1
            cases z with
            | dead => cases k3
            | box t y lk0 =>
              have := q2 _ ⟨o, _, hz, k2, rfl⟩
              simp only [Own.lockAll, Own.lock, Option.some.injEq, if_true] at k3
              subst k3
              cases lk0 <;> simp at this ⊢
              exact this
            | buf t sz y lk0 =>
              have := q2 _ ⟨o, _, hz, k2, rfl⟩
              simp only [Own.lockAll, Own.lock, Option.some.injEq] at k3
              subst k3
              exact Nat.lt_of_lt_of_le this (Nat.mul_le_mul_right _ (Nat.le_max_left _ _))
      · have hx : S.objs[o]? = some (some x) := hx
        refine ⟨x.lockAll, ?_⟩
        show (S.objs.map (Option.map Own.lockAll))[o]? = _
        rw [List.getElem?_map, hx]; rfl
    have h4' := RepL.step hst h4
    refine ⟨hS'.defers, if hh : us.toArray.size = 1 then us.toArray[0] else .tuple us.toArray, ?_, _, rfl, ?_, ?_⟩
    · have hm : (fn.results.mapM (fun | .tmp t => pure (a.tmps.getD t undef) | .cell c t => do loadVar t (← asAddr (a.tmps.getD c undef)) : ResultVar → Sem Value)).run P w' = .ok us.toArray w' := by
        rw [Array.mapM_eq_mapM_toList, Sem.run_map]
        have : (fun | .tmp t => pure (a.tmps.getD t undef) | .cell c t => do loadVar t (← asAddr (a.tmps.getD c undef)) : ResultVar → Sem Value) = rdRes a.tmps := by
          funext r; cases r <;> rfl
        rw [this, h3]; rfl
      unfold results
      exact run_bind (f := fun vs : Array Value => (pure (if h : vs.size = 1 then vs[0] else Value.tuple vs) : Sem Value)) hm
    · have hk := hS'.kept
      exact ⟨hk.os, hk.tape, hk.output, hk.size, fun k hk1 => hk.block k hk1 fun _ h => h.elim⟩
    · have hret : Rep ⟨w', μ, S.lockAll.objs, B.ban⟩ false (retT l) (if hh : us.toArray.size = 1 then us.toArray[0] else .tuple us.toArray) := by
        have hul := h4'.length
        by_cases h1' : us.length = 1
        · obtain ⟨u, rfl⟩ := List.length_eq_one_iff.1 h1'
          obtain ⟨x, rfl⟩ := List.length_eq_one_iff.1 (hul.symm.trans h1')
          simp only [RepL] at h4'
          obtain ⟨v, vs', e1, e2, e3⟩ := h4'
          subst e3
          cases e1
          simpa [retT] using e2
        · rw [dif_neg (by simpa using h1')]
          have e : retT l = .tup l := by
            cases l with
            | nil => rfl
            | cons x l => cases l with
              | nil => exact absurd hul h1'
              | cons y l => rfl
          rw [e]
          simp only [Rep]
          exact ⟨_, rfl, by simpa using h4'⟩
      have hd := dsnap_rep hL (look := lookS S.lockAll) (fun i x hx => lookS_some hx) _ _ hret
      rw [h1] at hd
      have hc := Rep.close _ _ _ h2 hd
      exact Rep.stepC (E := ⟨w', μ, S.lockAll.objs, B.ban⟩) (E' := E0 w' ban) ⟨fun b j v ⟨q1, _, q3⟩ => ⟨q1, fun lk ⟨o, x, k1, _⟩ => by simp [E0] at k1, q3⟩, fun b c t fr h => ⟨c, fr, h, rfl⟩⟩ _ _ hc
  cases e with
  | normal => exact main hQ
  | ret => exact main hQ
  | _ => exact hQ.elim
end Go.Proofs.YtdaojihnaajfeaaX

/- A region that draws its order, run once in the order of the text. Of no program. -/
set_option linter.unusedVariables false
set_option linter.unusedSimpArgs false
namespace Go.Proofs.YtdaojihnaajfeaaX
open Go Go.RowKit
def quietE : Eff → Bool
  | .none => true
  | .new _ => true
  | _ => false
def eOp : Op → Bool
  | .store .. => true
  | .call ⟨.builtin .append, _, _⟩ => true
  | .call ⟨.builtin .copy, _, _⟩ => true
  | .convert s d _ => s == d
  | _ => false
def effB (k : Nat) : Eff → Bool
  | .put o _ => decide (o < k)
  | .move _ o _ => decide (o < k)
  | .shift .. => false
  | .many .. => false
  | _ => true
def drawW (P : Program) (ops : Array Oper) : List Oper → Nat → Nat → St → (St → Prop) → Prop
  | [], _, _, S, K => K S
  | o :: rest, b, k, S, K => guardW ops S o (∃ v eff, (opW P k o.op (evalT S) (fun i => if eOp o.op = true ∨ i < b then lookS S i else none) fun v' e' => v' = v ∧ e' = eff) ∧ (quietE eff || (eOp o.op && effB k eff)) = true ∧ drawW P ops rest (if eOp o.op = true then k + 1 else b) (k + 1) ((S.eff k eff).put o.dst v) K) (drawW P ops rest (if eOp o.op = true then k + 1 else b) (k + 1) (S.put o.dst (.tup [])) K)
def trims : List (Option Own) → List (Option Own)
  | [] => []
  | x :: l => match x, trims l with
    | none, [] => []
    | x, r => x :: r
theorem trims_get : ∀ (l : List (Option Own)) (i : Nat) (x : Own), (trims l)[i]? = some (some x) ↔ l[i]? = some (some x)
  | [], i, x => by simp [trims]
  | a :: l, i, x => by
    have ih := trims_get l
    unfold trims
    split
    · rename_i h
      cases i with
      | zero => simp
      | succ i => have := ih i x; rw [h] at this; simpa using this
    · cases i with
      | zero => simp
      | succ i => simpa using ih i x
def tmpsOf (o : Oper) : List Tmp := o.op.operands.toList.filterMap fun | .tmp t => some t | _ => none
def guardT (ops : Array Oper) (o : Oper) : List Tmp := match o.guard with
  | some (j, _) => ((ops[j]?).bind (·.dst)).toList
  | none => []
def afterOf (o : Oper) : List Nat := (o.after.toList.filter (Region.binds .any)).map (·.on)
def pairOk (ops : Array Oper) (i j : Nat) (oi oj : Oper) : Bool :=
  i == j || (match oj.dst with
    | none => true
    | some d => (oi.dst != some d) && (!((tmpsOf oi ++ guardT ops oi).contains d) || (if j < i then (afterOf oi).contains j else (afterOf oj).contains i)))
def masks : List Oper → List Nat → List Nat
  | [], acc => acc
  | o :: l, acc => masks l (acc ++ [(afterOf o).foldl (fun s a => s ||| 2 ^ a ||| acc.getD a 0) 0])
def totOk (ms : List Nat) (n e : Nat) : Bool := (List.range n).all fun j => j == e || (if j < e then (ms.getD e 0).testBit j else (ms.getD j 0).testBit e)
def drawOk (ops : Array Oper) : Bool :=
  (let ms := masks ops.toList []; ops.toList.zipIdx.all fun p => !eOp p.1.op || totOk ms ops.size p.2) &&
  (ops.toList.zipIdx.all fun p => (afterOf p.1).all (· < p.2)) && ops.toList.zipIdx.all fun p => ops.toList.zipIdx.all fun q => pairOk ops p.2 q.2 p.1 q.1
abbrev Res := Option (T × Eff)
def applyR (k : Nat) (dst : Option Tmp) : Res → St → St
  | some (v, e), S => (S.eff k e).put dst v
  | none, S => S.put dst (.tup [])
theorem effq_tmps {S : St} {k : Nat} {e : Eff} (h : quietE e = true) : (S.eff k e).tmps = S.tmps := by
  cases e <;> first | rfl | cases h
theorem applyR_tmps {k : Nat} {dst : Option Tmp} {r : Res} {S : St} (h : ∀ v e, r = some (v, e) → quietE e = true) : ∃ x, (applyR k dst r S).tmps = (match dst with | some d => S.tmps.set d x | none => S.tmps) ∧ (∀ S' : St, (applyR k dst r S').tmps = (match dst with | some d => S'.tmps.set d x | none => S'.tmps)) := by
  cases r with
  | none => exact ⟨.tup [], by cases dst <;> rfl, fun S' => by cases dst <;> rfl⟩
  | some p =>
    obtain ⟨v, e⟩ := p
    have hq := h v e rfl
    refine ⟨v, ?_, fun S' => ?_⟩ <;> cases dst <;> simp [applyR, St.put, effq_tmps hq]
def objsR (k : Nat) : Res → List (Option Own) → List (Option Own)
  | some (_, .new x), l => l.set k (some x)
  | _, l => l
def valR : Res → T
  | some (v, _) => v
  | none => .tup []
theorem applyR_eq {k : Nat} {dst : Option Tmp} {r : Res} {S : St} (h : ∀ v e, r = some (v, e) → quietE e = true) : applyR k dst r S = ⟨(match dst with | some d => S.tmps.set d (valR r) | none => S.tmps), objsR k r S.objs⟩ := by
  cases r with
  | none => cases dst <;> rfl
  | some p =>
    obtain ⟨v, e⟩ := p
    have hq := h v e rfl
    cases e <;> first | (cases dst <;> rfl) | cases hq
theorem applyR_comm {k k' : Nat} {dst dst' : Option Tmp} {r r' : Res} (S : St) (h : ∀ v e, r = some (v, e) → quietE e = true) (h' : ∀ v e, r' = some (v, e) → quietE e = true) (hk : k ≠ k') (hd : ∀ d, dst = some d → dst' ≠ some d) :
    applyR k dst r (applyR k' dst' r' S) = applyR k' dst' r' (applyR k dst r S) := by
  rw [applyR_eq h, applyR_eq h', applyR_eq h', applyR_eq h]
  congr 1
  · cases dst <;> cases dst' <;> simp only
    rename_i d d'
    exact List.set_comm _ _ (fun e => hd d' (by rw [e]) rfl)
  · cases r with
    | none => rfl
    | some p =>
      cases r' with
      | none => rfl
      | some q =>
        obtain ⟨v, e⟩ := p
        obtain ⟨v', e'⟩ := q
        cases e <;> cases e' <;> first | rfl | exact List.set_comm _ _ (fun e => hk e.symm)
section
variable (ops : Array Oper) (n0 : Nat) (R : Nat → Res)
def dstOf (i : Nat) : Option Tmp := (ops[i]?).bind (·.dst)
def stepR (i : Nat) (S : St) : St := applyR (n0 + i) (dstOf ops i) (R i) S
def foldD (D : Nat → Bool) (l : List Nat) (S : St) : St := l.foldl (fun S j => if D j then stepR ops n0 R j S else S) S
variable {ops n0 R}
variable {W : Nat → Prop} (hq : ∀ i v e, W i → R i = some (v, e) → quietE e = true) (hd : ∀ (i j : Nat) (d : Tmp), i ≠ j → dstOf ops i = some d → dstOf ops j ≠ some d)
include hq hd
theorem stepR_comm {i j : Nat} (hi : W i) (hj : W j) (h : i ≠ j) (S : St) : stepR ops n0 R i (stepR ops n0 R j S) = stepR ops n0 R j (stepR ops n0 R i S) :=
  applyR_comm S (fun v e => hq i v e hi) (fun v e => hq j v e hj) (by omega) (fun d h1 => hd i j d h h1)
theorem foldD_out {D : Nat → Bool} {i : Nat} (hi : W i) : ∀ (l : List Nat) (S : St), (∀ j ∈ l, W j) → i ∉ l → foldD ops n0 R D l (stepR ops n0 R i S) = stepR ops n0 R i (foldD ops n0 R D l S)
  | [], S, _, _ => rfl
  | j :: l, S, hW, h => by
    simp only [List.mem_cons, not_or] at h
    show foldD ops n0 R D l _ = stepR ops n0 R i (foldD ops n0 R D l _)
    by_cases hD : D j = true
    · simp only [hD, if_true]
      rw [stepR_comm hq hd (hW j (by simp)) hi (fun e => h.1 e.symm), foldD_out hi l _ (fun k hk => hW k (by simp [hk])) h.2]
    · simp only [hD, if_false]
      exact foldD_out hi l _ (fun k hk => hW k (by simp [hk])) h.2
theorem foldD_add {D : Nat → Bool} {i : Nat} (hi : D i = false) : ∀ (l : List Nat) (S : St), (∀ j ∈ l, W j) → l.Nodup → i ∈ l → foldD ops n0 R (fun j => D j || j == i) l S = stepR ops n0 R i (foldD ops n0 R D l S)
  | [], S, _, _, h => by cases h
  | j :: l, S, hW, hn, h => by
    rw [List.nodup_cons] at hn
    have hsame : ∀ (l : List Nat) (S : St), i ∉ l → foldD ops n0 R (fun j => D j || j == i) l S = foldD ops n0 R D l S := by
      intro l
      induction l with
      | nil => intro S _; rfl
      | cons k l ih =>
        intro S h
        simp only [List.mem_cons, not_or] at h
        show foldD ops n0 R _ l _ = foldD ops n0 R D l _
        have : (k == i) = false := by simpa using fun e => h.1 e.symm
        simp only [this, Bool.or_false]
        exact ih _ h.2
    by_cases e : j = i
    · subst e
      show foldD ops n0 R _ l _ = stepR ops n0 R j (foldD ops n0 R D l _)
      simp only [beq_self_eq_true, Bool.or_true, if_true, hi]
      rw [hsame l _ hn.1]
      exact foldD_out hq hd (hW j (by simp)) l S (fun k hk => hW k (by simp [hk])) hn.1
    · show foldD ops n0 R _ l _ = stepR ops n0 R i (foldD ops n0 R D l _)
      have : (j == i) = false := by simpa using e
      simp only [this, Bool.or_false]
      exact foldD_add hi l _ (fun k hk => hW k (by simp [hk])) hn.2 (by rcases List.mem_cons.1 h with h | h; exact absurd h.symm e; exact h)
omit hd in
theorem foldD_tmps {t : Tmp} {D D' : Nat → Bool} : ∀ (l : List Nat) (S S' : St), (∀ j ∈ l, W j) → S.tmps.length = S'.tmps.length → S.tmps.getD t .junk = S'.tmps.getD t .junk → (∀ j ∈ l, dstOf ops j = some t → D j = D' j) →
    (foldD ops n0 R D l S).tmps.getD t .junk = (foldD ops n0 R D' l S').tmps.getD t .junk ∧ (foldD ops n0 R D l S).tmps.length = (foldD ops n0 R D' l S').tmps.length
  | [], S, S', _, hl, h, _ => ⟨h, hl⟩
  | j :: l, S, S', hW, hl, h, hj => by
    have key : ∀ S : St, (stepR ops n0 R j S).tmps = (match dstOf ops j with | some d => S.tmps.set d (valR (R j)) | none => S.tmps) := fun S => by unfold stepR; rw [applyR_eq (fun v e => hq j v e (hW j (by simp)))]
    refine foldD_tmps l _ _ (fun k hk => hW k (by simp [hk])) ?_ ?_ (fun k hk => hj k (by simp [hk]))
    · by_cases h1 : D j = true <;> by_cases h2 : D' j = true <;> simp only [h1, h2, if_true, if_false, key, Bool.false_eq_true] <;> (try split) <;> simp [hl]
    · by_cases e : dstOf ops j = some t
      · have hD := hj j (by simp) e
        by_cases h1 : D j = true
        · have h2 : D' j = true := hD ▸ h1
          simp only [h1, h2, if_true, key, e]
          simp only [List.getD_eq_getElem?_getD, List.getElem?_set, if_true, hl]
        · have h2 : ¬ D' j = true := hD ▸ h1
          simp only [h1, h2, if_false]; exact h
      · have hs : ∀ S : St, (stepR ops n0 R j S).tmps.getD t .junk = S.tmps.getD t .junk := by
          intro S
          rw [key]
          cases hdd : dstOf ops j with
          | none => rfl
          | some d =>
            have hne : d ≠ t := fun e' => e (by rw [hdd, e'])
            simp only [List.getD_eq_getElem?_getD, List.getElem?_set, if_neg hne]
        by_cases h1 : D j = true <;> by_cases h2 : D' j = true <;> simp only [h1, h2, if_true, if_false, hs, Bool.false_eq_true] <;> exact h
omit hd in
theorem foldD_objs {D : Nat → Bool} {k : Nat} : ∀ (l : List Nat) (S : St), (∀ j ∈ l, W j) → (∀ j ∈ l, D j = true → n0 + j ≠ k) → (foldD ops n0 R D l S).objs[k]? = S.objs[k]?
  | [], S, _, _ => rfl
  | j :: l, S, hW, h => by
    show (foldD ops n0 R D l _).objs[k]? = _
    rw [foldD_objs l _ (fun i hi => hW i (by simp [hi])) (fun i hi => h i (by simp [hi]))]
    by_cases h1 : D j = true
    · simp only [h1, if_true]
      unfold stepR
      rw [applyR_eq (fun v e => hq j v e (hW j (by simp)))]
      cases hr : R j with
      | none => rfl
      | some p =>
        obtain ⟨v, e⟩ := p
        cases e <;> first | rfl | (simp only [objsR, List.getElem?_set, if_neg (h j (by simp) h1)])
    · simp only [h1, if_false]; rfl
end
end Go.Proofs.YtdaojihnaajfeaaX

/- A region that draws its order, run once in the order of the text: that it is so. Of no program. -/
set_option linter.unusedVariables false
set_option linter.unusedSimpArgs false
namespace Go.Proofs.YtdaojihnaajfeaaX
open Go Go.RowKit
theorem guard_cases {ops : Array Oper} {S : St} {o : Oper} {Kt Kf : Prop} (h : guardW ops S o Kt Kf) : (guardW ops S o True False ∧ Kt) ∨ (guardW ops S o False True ∧ Kf) := by
  unfold guardW at h ⊢
  cases hg : o.guard with
  | none => simp only [hg] at h ⊢; exact .inl ⟨trivial, h⟩
  | some p =>
    obtain ⟨j, want⟩ := p
    simp only [hg] at h ⊢
    cases hd : (ops[j]?).bind (·.dst) with
    | none => simp only [hd] at h
    | some d =>
      simp only [hd] at h ⊢
      generalize S.tmps.getD d .junk = x at h ⊢
      split at h
      · rename_i b
        by_cases e : b = want
        · exact .inl ⟨⟨fun _ => trivial, fun h => h e⟩, h.1 e⟩
        · exact .inr ⟨⟨fun h => e h, fun _ => trivial⟩, h.2 e⟩
      · exact .inr ⟨⟨h.1, trivial⟩, h.2⟩
      · exact h.elim
theorem guard_agree {ops : Array Oper} {S S' : St} {o : Oper} {Kt Kf : Prop} (h : guardW ops S o Kt Kf) (hg : ∀ d ∈ guardT ops o, S'.tmps.getD d .junk = S.tmps.getD d .junk) : guardW ops S' o Kt Kf := by
  unfold guardW at h ⊢
  unfold guardT at hg
  cases e : o.guard with
  | none => simp only [e] at h ⊢; exact h
  | some p =>
    obtain ⟨j, want⟩ := p
    simp only [e] at h hg ⊢
    cases hd : (ops[j]?).bind (·.dst) with
    | none => simp only [hd] at h
    | some d =>
      simp only [hd] at h hg ⊢
      rw [hg d (by simp)]
      exact h
theorem count_set : ∀ (l : List Bool) (i : Nat), l[i]? = some false → (l.filter (! ·)).length = ((l.set i true).filter (! ·)).length + 1
  | [], i, h => by simp at h
  | b :: l, 0, h => by simp at h; subst h; simp
  | b :: l, i + 1, h => by
    have := count_set l i (by simpa using h)
    rw [List.set_cons_succ, List.filter_cons, List.filter_cons]
    cases b <;> simp [this]
theorem getD_replicate (n j : Nat) : (Array.replicate n false).getD j false = false := by
  simp only [Array.getD_eq_getD_getElem?, Array.getElem?_replicate]
  split <;> rfl
def isE (ops : Array Oper) (j : Nat) : Prop := ∃ o, ops[j]? = some o ∧ eOp o.op = true
def bOf (ops : Array Oper) (n0 : Nat) : Nat → Nat
  | 0 => n0
  | i + 1 => match ops[i]? with
    | some o => if eOp o.op = true then n0 + i + 1 else bOf ops n0 i
    | none => bOf ops n0 i
def lookB (S : St) (o : Oper) (b : Nat) : Nat → Option Own := fun i => if eOp o.op = true ∨ i < b then lookS S i else none
def Good (P : Program) (ops : Array Oper) (n0 : Nat) (i : Nat) (r : Res) (S : St) (o : Oper) : Prop :=
  match r with
  | some (v, e) => (quietE e || (eOp o.op && effB (n0 + i) e)) = true ∧ guardW ops S o True False ∧ opW P (n0 + i) o.op (evalT S) (lookB S o (bOf ops n0 i)) fun v' e' => v' = v ∧ e' = e
  | none => guardW ops S o False True
def runR (ops : Array Oper) (n0 : Nat) (R : Nat → Res) (l : List Nat) (S : St) : St := l.foldl (fun S j => stepR ops n0 R j S) S
theorem draw_extract {P : Program} {ops : Array Oper} {n0 : Nat} {K : St → Prop} : ∀ (l : List Oper) (i : Nat) (S : St), (∀ j, l[j]? = ops[i + j]?) → drawW P ops l (bOf ops n0 i) (n0 + i) S K →
    ∃ R : Nat → Res, K (runR ops n0 R (List.range' i l.length) S) ∧ ∀ j o, l[j]? = some o → Good P ops n0 (i + j) (R (i + j)) (runR ops n0 R (List.range' i j) S) o
  | [], i, S, hl, h => ⟨fun _ => none, h, fun j o h => by simp at h⟩
  | o :: l, i, S, hl, h => by
    have h0 : ops[i]? = some o := by simpa using (hl 0).symm
    have hdst : dstOf ops i = o.dst := by simp [dstOf, h0]
    have hl' : ∀ j, l[j]? = ops[i + 1 + j]? := fun j => by have := hl (j + 1); simpa [Nat.add_assoc, Nat.add_comm 1 j] using this
    have hb : (if eOp o.op = true then n0 + i + 1 else bOf ops n0 i) = bOf ops n0 (i + 1) := by simp only [bOf, h0]
    unfold drawW at h
    rw [hb] at h
    have fin : ∀ (r : Res), Good P ops n0 i r S o → drawW P ops l (bOf ops n0 (i + 1)) (n0 + i + 1) (applyR (n0 + i) o.dst r S) K →
        ∃ R : Nat → Res, K (runR ops n0 R (List.range' i (o :: l).length) S) ∧ ∀ j o', (o :: l)[j]? = some o' → Good P ops n0 (i + j) (R (i + j)) (runR ops n0 R (List.range' i j) S) o' := by
      intro r hgood hrest
      obtain ⟨R, h2, h3⟩ := draw_extract l (i + 1) _ hl' (by rw [← Nat.add_assoc]; exact hrest)
      have hstep : ∀ (R' : Nat → Res) (m : Nat) (S : St), (∀ j, i + 1 ≤ j → R' j = R j) → runR ops n0 R' (List.range' (i + 1) m) S = runR ops n0 R (List.range' (i + 1) m) S := by
        intro R' m S hR
        unfold runR
        have : ∀ (l : List Nat) (S : St), (∀ j ∈ l, i + 1 ≤ j) → l.foldl (fun S j => stepR ops n0 R' j S) S = l.foldl (fun S j => stepR ops n0 R j S) S := by
          intro l
          induction l with
          | nil => intro S _; rfl
          | cons j l ih =>
            intro S hj
            simp only [List.foldl_cons]
            have e : stepR ops n0 R' j S = stepR ops n0 R j S := by unfold stepR; rw [hR j (hj j (by simp))]
            rw [e]; exact ih _ fun k hk => hj k (by simp [hk])
        exact this _ _ fun j hj => by rw [List.mem_range'_1] at hj; omega
      let R' : Nat → Res := fun j => if j = i then r else R j
      have hR'i : R' i = r := if_pos rfl
      have hR' : ∀ j, i + 1 ≤ j → R' j = R j := fun j hj => if_neg (by omega)
      have hfirst : ∀ S, stepR ops n0 R' i S = applyR (n0 + i) o.dst r S := fun S => by unfold stepR; rw [hR'i, hdst]
      refine ⟨R', ?_, fun j o' hj => ?_⟩
      · rw [List.length_cons, List.range'_succ]
        show K (runR ops n0 R' (List.range' (i + 1) l.length) (stepR ops n0 R' i S))
        rw [hstep R' _ _ hR', hfirst]; exact h2
      · cases j with
        | zero =>
          simp only [List.getElem?_cons_zero, Option.some.injEq] at hj
          subst hj
          rw [Nat.add_zero, hR'i]
          exact hgood
        | succ j =>
          have := h3 j o' (by simpa using hj)
          rw [show i + (j + 1) = i + 1 + j by omega, hR' _ (by omega), List.range'_succ]
          show Good P ops n0 _ _ (runR ops n0 R' (List.range' (i + 1) j) (stepR ops n0 R' i S)) o'
          rw [hstep R' _ _ hR', hfirst]; exact this
    rcases guard_cases h with ⟨hg, v, e, hop, hqe, hrest⟩ | ⟨hg, hrest⟩
    · exact fin (some (v, e)) ⟨hqe, hg, hop⟩ hrest
    · exact fin none hg hrest
theorem runR_eq {ops : Array Oper} {n0 : Nat} {R : Nat → Res} : ∀ (l : List Nat) (S : St), (∀ D : Nat → Bool, (∀ j ∈ l, D j = true) → foldD ops n0 R D l S = runR ops n0 R l S)
  | [], S, D, h => rfl
  | j :: l, S, D, h => by
    show foldD ops n0 R D l (if D j then stepR ops n0 R j S else S) = runR ops n0 R l (stepR ops n0 R j S)
    rw [if_pos (h j (by simp))]
    exact runR_eq l _ D fun k hk => h k (by simp [hk])
theorem foldD_none {ops : Array Oper} {n0 : Nat} {R : Nat → Res} {D : Nat → Bool} : ∀ (l : List Nat) (S : St), (∀ j ∈ l, D j = false) → foldD ops n0 R D l S = S
  | [], S, h => rfl
  | j :: l, S, h => by
    show foldD ops n0 R D l (if D j then stepR ops n0 R j S else S) = S
    rw [if_neg (by simp [h j])]
    exact foldD_none l _ fun k hk => h k (by simp [hk])
theorem prefix_eq {ops : Array Oper} {n0 : Nat} {R : Nat → Res} {n i : Nat} (h : i ≤ n) (S : St) : foldD ops n0 R (fun j => decide (j < i)) (List.range n) S = runR ops n0 R (List.range' 0 i) S := by
  have e : List.range n = List.range' 0 i ++ List.range' i (n - i) := by
    rw [List.range_eq_range', show List.range' 0 n = List.range' 0 (i + (n - i)) by rw [show i + (n - i) = n by omega], ← List.range'_append_1, Nat.zero_add]
  have : foldD ops n0 R (fun j => decide (j < i)) (List.range n) S = foldD ops n0 R (fun j => decide (j < i)) (List.range' i (n - i)) (foldD ops n0 R (fun j => decide (j < i)) (List.range' 0 i) S) := by
    rw [e]; unfold foldD; rw [List.foldl_append]
  rw [this, foldD_none _ _ (fun j hj => by rw [List.mem_range'_1] at hj; simp; omega), runR_eq _ _ _ (fun j hj => by rw [List.mem_range'_1] at hj; simp; omega)]
theorem prefix_seg {ops : Array Oper} {n0 : Nat} {R : Nat → Res} {m e i : Nat} (h1 : m ≤ i) (h2 : i ≤ e) (S : St) : foldD ops n0 R (fun j => decide (j < i)) (List.range' m (e - m)) S = runR ops n0 R (List.range' m (i - m)) S := by
  have ee : List.range' m (e - m) = List.range' m (i - m) ++ List.range' i (e - i) := by
    rw [show e - m = (i - m) + (e - i) by omega, ← List.range'_append_1, show m + (i - m) = i by omega]
  have : foldD ops n0 R (fun j => decide (j < i)) (List.range' m (e - m)) S = foldD ops n0 R (fun j => decide (j < i)) (List.range' i (e - i)) (foldD ops n0 R (fun j => decide (j < i)) (List.range' m (i - m)) S) := by
    rw [ee]; unfold foldD; rw [List.foldl_append]
  rw [this, foldD_none _ _ (fun j hj => by rw [List.mem_range'_1] at hj; simp; omega), runR_eq _ _ _ (fun j hj => by rw [List.mem_range'_1] at hj; simp; omega)]
theorem runR_append {ops : Array Oper} {n0 : Nat} {R : Nat → Res} {m i : Nat} (h1 : m ≤ i) (S : St) : runR ops n0 R (List.range' m (i - m)) (runR ops n0 R (List.range' 0 m) S) = runR ops n0 R (List.range' 0 i) S := by
  have : List.range' 0 i = List.range' 0 m ++ List.range' m (i - m) := by
    rw [show List.range' 0 i = List.range' 0 (m + (i - m)) by rw [show m + (i - m) = i by omega], ← List.range'_append_1, Nat.zero_add]
  rw [this]; unfold runR; rw [List.foldl_append]
theorem masks_get : ∀ (l : List Oper) (acc : List Nat) (i : Nat) (o : Oper), l[i]? = some o → ∃ acc' : List Nat, acc'.length = acc.length + i ∧ (masks l acc).getD (acc.length + i) 0 = (afterOf o).foldl (fun s a => s ||| 2 ^ a ||| acc'.getD a 0) 0 ∧ ∀ a, a < acc.length + i → (masks l acc).getD a 0 = acc'.getD a 0
  | [], acc, i, o, h => by simp at h
  | o' :: l, acc, i, o, h => by
    have key : ∀ (l : List Oper) (acc : List Nat) (a : Nat), a < acc.length → (masks l acc).getD a 0 = acc.getD a 0 := by
      intro l
      induction l with
      | nil => intro acc a _; rfl
      | cons o l ih =>
        intro acc a ha
        rw [masks, ih _ a (by simp; omega)]
        simp only [List.getD_eq_getElem?_getD, List.getElem?_append_left ha]
    cases i with
    | zero =>
      simp only [List.getElem?_cons_zero, Option.some.injEq] at h
      subst h
      refine ⟨acc, rfl, ?_, fun a ha => ?_⟩
      · rw [masks, key _ _ _ (by simp)]
        simp [List.getD_eq_getElem?_getD]
      · rw [masks, key _ _ _ (by simp at ha ⊢; omega)]
        simp only [List.getD_eq_getElem?_getD, List.getElem?_append_left (show a < acc.length by simpa using ha)]
    | succ i =>
      obtain ⟨acc', h1, h2, h3⟩ := masks_get l (acc ++ [(afterOf o').foldl (fun s a => s ||| 2 ^ a ||| acc.getD a 0) 0]) i o (by simpa using h)
      rw [masks]
      refine ⟨acc', by simp at h1; omega, ?_, fun a ha => ?_⟩
      · rw [← h2]; congr 1; simp; omega
      · exact h3 a (by simp; omega)
theorem fold_bit {acc : List Nat} {j : Nat} : ∀ (l : List Nat) (s : Nat), (l.foldl (fun s a => s ||| 2 ^ a ||| acc.getD a 0) s).testBit j = true → s.testBit j = true ∨ ∃ a ∈ l, a = j ∨ (acc.getD a 0).testBit j = true
  | [], s, h => .inl h
  | a :: l, s, h => by
    rcases fold_bit l _ h with h | ⟨b, hb, h⟩
    · simp only [Nat.testBit_or, Bool.or_eq_true] at h
      rcases h with (h | h) | h
      · exact .inl h
      · rw [Nat.testBit_two_pow] at h
        exact .inr ⟨a, by simp, .inl (by simpa using h)⟩
      · exact .inr ⟨a, by simp, .inr h⟩
    · exact .inr ⟨b, by simp [hb], h⟩
theorem drawOk_out {ops : Array Oper} (h : drawOk ops = true) : (∀ (i : Nat) (o : Oper), ops[i]? = some o → ∀ a ∈ afterOf o, a < i) ∧ (∀ (i j : Nat) (oi oj : Oper), ops[i]? = some oi → ops[j]? = some oj → pairOk ops i j oi oj = true) ∧
    ∀ e, isE ops e → totOk (masks ops.toList []) ops.size e = true := by
  unfold drawOk at h
  rw [Bool.and_eq_true, Bool.and_eq_true] at h
  have hm : ∀ (i : Nat) (o : Oper), ops[i]? = some o → (o, i) ∈ ops.toList.zipIdx := fun i o ho => by
    rw [List.mk_mem_zipIdx_iff_getElem?, Array.getElem?_toList]; exact ho
  refine ⟨fun i o ho a ha => ?_, fun i j oi oj hi hj => ?_, fun e ⟨o, ho, he⟩ => ?_⟩
  · have := List.all_eq_true.1 h.1.2 (o, i) (hm i o ho)
    have := List.all_eq_true.1 this a ha
    simpa using this
  · have := List.all_eq_true.1 h.2 (oi, i) (hm i oi hi)
    exact List.all_eq_true.1 this (oj, j) (hm j oj hj)
  · have := List.all_eq_true.1 h.1.1 (o, e) (hm e o ho)
    simpa [he] using this
theorem mask_listed {ops : Array Oper} (hafter : ∀ (i : Nat) (o : Oper), ops[i]? = some o → ∀ a ∈ afterOf o, a < i) {D : Nat → Bool} (hcl : ∀ (j : Nat) (o : Oper), D j = true → ops[j]? = some o → ∀ b ∈ afterOf o, D b = true) : ∀ (i : Nat) (o : Oper), ops[i]? = some o → (∀ b ∈ afterOf o, D b = true) → ∀ j, ((masks ops.toList []).getD i 0).testBit j = true → D j = true := by
  intro i
  induction i using Nat.strongRecOn with
  | _ i ih =>
    intro o ho ha j hj
    obtain ⟨acc', h1, h2, h3⟩ := masks_get ops.toList [] i o (by rw [Array.getElem?_toList]; exact ho)
    simp only [List.length_nil, Nat.zero_add] at h1 h2 h3
    rw [h2] at hj
    rcases fold_bit _ _ hj with h | ⟨b, hb, h⟩
    · simp at h
    · rcases h with rfl | h
      · exact ha b hb
      · have hlt := hafter i o ho b hb
        rw [← h3 b hlt] at h
        have hbn : b < ops.size := by
          have := (Array.getElem?_eq_some_iff.1 ho).1
          omega
        exact ih b hlt ops[b] (Array.getElem?_eq_getElem hbn) (fun c hc => hcl b _ (ha b hb) (Array.getElem?_eq_getElem hbn) c hc) j h
theorem next_e (ops : Array Oper) (m : Nat) (hm : m ≤ ops.size) : ∃ e, m ≤ e ∧ e ≤ ops.size ∧ (∀ j, m ≤ j → j < e → ¬ isE ops j) ∧ (e < ops.size → isE ops e) := by
  have key : ∀ d m, ops.size - m = d → m ≤ ops.size → ∃ e, m ≤ e ∧ e ≤ ops.size ∧ (∀ j, m ≤ j → j < e → ¬ isE ops j) ∧ (e < ops.size → isE ops e) := by
    intro d
    induction d with
    | zero => intro m hd hm; exact ⟨m, Nat.le_refl _, hm, fun j _ _ => by omega, fun h => by omega⟩
    | succ d ih =>
      intro m hd hm
      by_cases h : isE ops m
      · exact ⟨m, Nat.le_refl _, hm, fun j _ _ => by omega, fun _ => h⟩
      · obtain ⟨e, h1, h2, h3, h4⟩ := ih (m + 1) (by omega) (by omega)
        exact ⟨e, by omega, h2, fun j hj hje => by
          by_cases hjm : j = m
          · subst hjm; exact h
          · exact h3 j (by omega) hje, h4⟩
  exact key _ m rfl hm
theorem bOf_seg {ops : Array Oper} {n0 m : Nat} (hm : m = 0 ∨ ∃ p, m = p + 1 ∧ isE ops p) : ∀ i, m ≤ i → (∀ j, m ≤ j → j < i → ¬ isE ops j) → bOf ops n0 i = n0 + m := by
  intro i
  induction i with
  | zero => intro h _; have : m = 0 := by omega
            subst this; rfl
  | succ i ih =>
    intro h hn
    by_cases e : m = i + 1
    · subst e
      rcases hm with h | ⟨p, hp, o, ho, he⟩
      · omega
      · have : p = i := by omega
        subst this
        simp only [bOf, ho, he, if_true]; omega
    · have h2 := hn i (by omega) (by omega)
      have h3 := ih (by omega) fun j a b => hn j a (by omega)
      simp only [bOf]
      cases ho : ops[i]? with
      | none => exact h3
      | some o =>
        have : ¬ eOp o.op = true := fun he => h2 ⟨o, ho, he⟩
        simp only [this, if_false]; exact h3
theorem run_free {P : Program} {ops : Array Oper} {n0 : Nat} {R : Nat → Res} {S00 : St} (hgood : ∀ (j : Nat) (o : Oper), ops[j]? = some o → Good P ops n0 j (R j) (runR ops n0 R (List.range' 0 j) S00) o) : ∀ i, i ≤ ops.size → ∀ q, n0 + i ≤ q → S00.objs[q]? = some none → (runR ops n0 R (List.range' 0 i) S00).objs[q]? = some none
  | 0, _, q, _, h => h
  | i + 1, hi, q, hq, h => by
    have ih := run_free hgood i (by omega) q (by omega) h
    have e : runR ops n0 R (List.range' 0 (i + 1)) S00 = stepR ops n0 R i (runR ops n0 R (List.range' 0 i) S00) := by
      unfold runR
      rw [List.range'_concat, List.foldl_append]; simp
    rw [e]
    have hoi : ops[i]? = some ops[i] := Array.getElem?_eq_getElem (by omega)
    have hG := hgood i _ hoi
    unfold stepR
    cases hr : R i with
    | none => cases hd : dstOf ops i <;> exact ih
    | some p =>
      obtain ⟨v, ef⟩ := p
      rw [hr] at hG
      have hb := hG.1
      have hput : ∀ (S : St) (d : Option Tmp) (v : T), (S.put d v).objs = S.objs := fun S d v => by cases d <;> rfl
      show (((runR ops n0 R (List.range' 0 i) S00).eff (n0 + i) ef).put _ v).objs[q]? = _
      rw [hput]
      cases ef with
      | none => exact ih
      | new x =>
        show ((runR ops n0 R (List.range' 0 i) S00).objs.set (n0 + i) (some x))[q]? = _
        rw [List.getElem?_set, if_neg (by omega)]; exact ih
      | put o x =>
        have : o < n0 + i := by
          simp only [quietE, effB, Bool.false_or, Bool.and_eq_true, decide_eq_true_eq] at hb
          exact hb.2
        show ((runR ops n0 R (List.range' 0 i) S00).objs.set o (some x))[q]? = _
        rw [List.getElem?_set, if_neg (by omega)]; exact ih
      | move ks o x =>
        have : o < n0 + i := by
          simp only [quietE, effB, Bool.false_or, Bool.and_eq_true, decide_eq_true_eq] at hb
          exact hb.2
        show (((runR ops n0 R (List.range' 0 i) S00).objs.map (Option.map (Own.kill ks))).set o (some x))[q]? = _
        rw [List.getElem?_set, if_neg (by omega), List.getElem?_map, ih]; rfl
      | shift o x => simp [quietE, effB] at hb
      | many ks l => simp [quietE, effB] at hb
theorem draw_sound {P : Program} {B : Base} {S0 : St} {a : Act} {w : World} {μ : Nat → Option Nat} {id : Nat} {ops : Array Oper} {Q : Exit → St → Prop} (hm : P.follows .mixedOrders = true) (hok : drawOk ops = true)
    (h : drawW P ops ops.toList S0.objs.length S0.objs.length ⟨S0.tmps, S0.objs ++ List.replicate ops.size none⟩ (fun S => Q .normal ⟨S.tmps, trims S.objs⟩)) (hS : Sat B S0 a w μ) : (Code.region id ops true).wp P (SatQ B Q) a w := by
  obtain ⟨hafter, hpair, htot⟩ := drawOk_out hok
  obtain ⟨R, hK, hgood'⟩ := draw_extract (n0 := S0.objs.length) ops.toList 0 _ (fun j => by rw [Nat.zero_add, Array.getElem?_toList]) h
  let n0 := S0.objs.length
  let n := ops.size
  let S00 : St := ⟨S0.tmps, S0.objs ++ List.replicate ops.size none⟩
  have hgood : ∀ (j : Nat) (o : Oper), ops[j]? = some o → Good P ops n0 j (R j) (runR ops n0 R (List.range' 0 j) S00) o := fun j o ho => by
    have := hgood' j o (by rw [Array.getElem?_toList]; exact ho)
    rwa [Nat.zero_add] at this
  have hfree00 : ∀ q, n0 ≤ q → q < n0 + n → S00.objs[q]? = some none := fun q h1 h2 => by
    show (S0.objs ++ List.replicate ops.size none)[q]? = some none
    rw [List.getElem?_append_right h1, List.getElem?_replicate, if_pos (by show q - S0.objs.length < ops.size; have : n0 = S0.objs.length := rfl; have : n = ops.size := rfl; omega)]
  have hdd : ∀ (i j : Nat) (d : Tmp), i ≠ j → dstOf ops i = some d → dstOf ops j ≠ some d := by
    intro i j d hij hi hj
    unfold dstOf at hi hj
    cases hoi : ops[i]? with
    | none => rw [hoi] at hi; cases hi
    | some oi =>
      cases hoj : ops[j]? with
      | none => rw [hoj] at hj; cases hj
      | some oj =>
        rw [hoi] at hi; rw [hoj] at hj
        have hi : oi.dst = some d := hi
        have hj : oj.dst = some d := hj
        have := hpair i j oi oj hoi hoj
        unfold pairOk at this
        rw [hj] at this
        simp [hij, hi] at this
  have hsame : ∀ (i : Nat) (x : Own), S00.objs[i]? = some (some x) ↔ S0.objs[i]? = some (some x) := by
    intro i x
    show (S0.objs ++ List.replicate ops.size none)[i]? = _ ↔ _
    by_cases hi : i < S0.objs.length
    · rw [List.getElem?_append_left hi]
    · rw [List.getElem?_append_right (by omega), List.getElem?_eq_none (l := S0.objs) (by omega), List.getElem?_replicate]
      split <;> simp
  refine wp_region_any hm ?_
  have key : ∀ (fuel : Nat) (L : Array Bool) (a : Act) (w : World) (μ : Nat → Option Nat) (m e : Nat), L.size = n → (L.toList.filter (! ·)).length = fuel → m ≤ e → e ≤ n → (∀ j, m ≤ j → j < e → ¬ isE ops j) → (e < n → isE ops e) → (m = 0 ∨ ∃ p, m = p + 1 ∧ isE ops p) →
      (∀ j, j < m → L.getD j false = true) → (∀ j, e ≤ j → L.getD j false = false) →
      (∀ (j : Nat) (o : Oper), L.getD j false = true → ops[j]? = some o → ∀ b ∈ afterOf o, L.getD b false = true) →
      Sat B (foldD ops n0 R (fun j => L.getD j false) (List.range' m (e - m)) (runR ops n0 R (List.range' 0 m) S00)) a w μ → wpAny P .any ops (SatQ B Q) fuel L a w := by
    intro fuel
    induction fuel with
    | zero =>
      intro L a w μ m e hL hf hme hen hnE hE hmE hlow hhigh hcl hSL
      have hall : ∀ j, j < n → L.getD j false = true := by
        intro j hj
        have h0 : L.toList.filter (! ·) = [] := List.eq_nil_of_length_eq_zero hf
        have := List.filter_eq_nil_iff.1 h0 (L[j]'(by omega)) (by simp)
        simpa [Array.getD_eq_getD_getElem?, show j < L.size by omega] using this
      refine ⟨?_, ?_⟩
      · unfold Region.ready
        rw [List.filter_eq_nil_iff]
        intro j hj
        rw [List.mem_range] at hj
        have := hall j hj
        have e : L.getD j true = true := by
          rw [Array.getD_eq_getD_getElem?] at this ⊢
          rw [Array.getElem?_eq_getElem (by omega)] at this ⊢
          exact this
        simp [e]
      · have hen' : e = n := by
          by_cases h : e < n
          · have h1 := hall e h
            rw [hhigh e (Nat.le_refl _)] at h1; cases h1
          · omega
        subst hen'
        have ee : foldD ops n0 R (fun j => L.getD j false) (List.range' m (n - m)) (runR ops n0 R (List.range' 0 m) S00) = runR ops n0 R (List.range' 0 ops.toList.length) S00 := by
          rw [runR_eq _ _ _ (fun j hj => hall j (by rw [List.mem_range'_1] at hj; omega)), runR_append hme, Array.length_toList]
        rw [ee] at hSL
        exact ⟨_, μ, hK, hSL.same fun i x => trims_get _ i x⟩
    | succ fuel ih =>
      intro L a w μ m e hL hf hme hen hnE hE hmE hlow hhigh hcl hSL
      refine ⟨fun hr => ?_, fun i hi => ?_⟩
      · -- there is one that is ready
        exfalso
        have hex : ∃ i, i < n ∧ L.getD i false = false := by
          have hne : L.toList.filter (! ·) ≠ [] := fun e => by rw [e] at hf; simp at hf
          obtain ⟨b, hb⟩ := List.exists_mem_of_ne_nil _ hne
          rw [List.mem_filter] at hb
          obtain ⟨i, hi, e⟩ := List.getElem_of_mem hb.1
          refine ⟨i, by simpa [hL] using hi, ?_⟩
          rw [Array.getD_eq_getD_getElem?, Array.getElem?_eq_getElem (by simpa using hi)]
          simp at e
          rw [e]
          simpa using hb.2
        obtain ⟨i, hin, hif, hmin⟩ : ∃ i, i < n ∧ L.getD i false = false ∧ ∀ j, j < i → L.getD j false = true := by
          obtain ⟨i, h1, h2⟩ := hex
          induction i using Nat.strongRecOn with
          | _ i ih2 =>
            by_cases hj : ∃ j, j < i ∧ L.getD j false = false
            · obtain ⟨j, h3, h4⟩ := hj
              exact ih2 j h3 (by omega) h4
            · exact ⟨i, h1, h2, fun j h3 => by
                cases h4 : L.getD j false with
                | true => rfl
                | false => exact absurd ⟨j, h3, h4⟩ hj⟩
        have hin' : i < ops.size := hin
        have hmem : i ∈ Region.ready .any ops L := by
          unfold Region.ready
          rw [List.mem_filter, List.mem_range]
          refine ⟨hin', ?_⟩
          have e : L.getD i true = false := by
            rw [Array.getD_eq_getD_getElem?] at hif ⊢
            rw [Array.getElem?_eq_getElem (by omega)] at hif ⊢
            exact hif
          rw [e, Array.getElem?_eq_getElem hin']
          simp only [Bool.not_false, Option.map_some, Option.getD_some, Bool.true_and]
          rw [← Array.all_toList]
          refine List.all_eq_true.2 fun e he => ?_
          by_cases hb : Region.binds .any e = true
          · have : e.on ∈ afterOf ops[i] := List.mem_map.2 ⟨e, List.mem_filter.2 ⟨he, hb⟩, rfl⟩
            rw [hmin _ (hafter i _ (Array.getElem?_eq_getElem hin') _ this)]; simp
          · simp [hb]
        rw [hr] at hmem
        cases hmem
      · unfold Region.ready at hi
        rw [List.mem_filter, List.mem_range] at hi
        obtain ⟨hin, hi⟩ := hi
        rw [Bool.and_eq_true] at hi
        obtain ⟨hif, hia⟩ := hi
        have hoi : ops[i]? = some ops[i] := Array.getElem?_eq_getElem hin
        generalize ho : ops[i] = o at hoi
        rw [hoi] at hia
        have hDi : L.getD i false = false := by
          rw [Array.getD_eq_getD_getElem?] at hif ⊢
          rw [Array.getElem?_eq_getElem (by omega)] at hif ⊢
          simpa using hif
        have hla : ∀ b ∈ afterOf o, L.getD b false = true := by
          intro b hb
          obtain ⟨e, he, rfl⟩ := List.mem_map.1 hb
          rw [List.mem_filter] at he
          simp only [Option.map_some, Option.getD_some] at hia
          rw [← Array.all_toList] at hia
          have := List.all_eq_true.1 hia e he.1
          simpa [he.2] using this
        have him : m ≤ i := by
          by_cases h : i < m
          · have := hlow i h; rw [hDi] at this; cases this
          · omega
        have hie : i ≤ e := by
          by_cases h : e < i
          · exfalso
            have hEe := hE (by omega)
            have ht := htot e hEe
            unfold totOk at ht
            have := List.all_eq_true.1 ht i (List.mem_range.2 hin)
            have e1 : (i == e) = false := by simp; omega
            rw [e1, Bool.false_or, if_neg (by omega)] at this
            have := mask_listed hafter hcl i o hoi hla e this
            rw [hhigh e (Nat.le_refl _)] at this; cases this
          · omega
        have hcount : (L.toList.filter (! ·)).length = ((L.setIfInBounds i true).toList.filter (! ·)).length + 1 := by
          rw [Array.toList_setIfInBounds]
          refine count_set _ _ ?_
          rw [Array.getElem?_toList, Array.getElem?_eq_getElem (by omega)]
          rw [Array.getD_eq_getD_getElem?, Array.getElem?_eq_getElem (by omega)] at hDi
          simpa using hDi
        have hLget : ∀ j, (L.setIfInBounds i true).getD j false = (L.getD j false || j == i) := by
          intro j
          simp only [Array.getD_eq_getD_getElem?, Array.getElem?_setIfInBounds]
          by_cases hij : i = j
          · subst hij
            rw [if_pos rfl, if_pos (show i < L.size by omega)]; simp
          · have : (j == i) = false := by simpa using fun e => hij e.symm
            rw [if_neg hij, this, Bool.or_false]
        have hcl' : ∀ (j : Nat) (oj : Oper), (L.setIfInBounds i true).getD j false = true → ops[j]? = some oj → ∀ b ∈ afterOf oj, (L.setIfInBounds i true).getD b false = true := by
          intro j oj hj hoj b hb
          rw [hLget] at hj ⊢
          by_cases hij : j = i
          · subst hij
            rw [hoi] at hoj; cases hoj
            rw [hla b hb]; rfl
          · have hLj : L.getD j false = true := by
              have : (j == i) = false := by simpa using hij
              rwa [this, Bool.or_false] at hj
            rw [hcl j oj hLj hoj b hb]; rfl
        have hG := hgood i o hoi
        unfold wpOp
        rw [hoi]
        dsimp only
        by_cases hilt : i < e
        · -- one that does not write
          have hnEi := hnE i him hilt
          have heo : ¬ eOp o.op = true := fun h => hnEi ⟨o, hoi, h⟩
          have hq : ∀ j v ef, (m ≤ j ∧ j < e) → R j = some (v, ef) → quietE ef = true := by
            intro j v ef ⟨h1, h2⟩ hr
            have hjn : j < ops.size := by have : n = ops.size := rfl; omega
            have hGj := hgood j _ (Array.getElem?_eq_getElem hjn)
            rw [hr] at hGj
            have h3 := hGj.1
            have h4 : eOp ops[j].op = false := by
              cases h5 : eOp ops[j].op with
              | false => rfl
              | true => exact absurd ⟨_, Array.getElem?_eq_getElem hjn, h5⟩ (hnE j h1 h2)
            simpa [h4] using h3
          have hW : ∀ j ∈ List.range' m (e - m), m ≤ j ∧ j < e := fun j hj => by rw [List.mem_range'_1] at hj; omega
          have himem : i ∈ List.range' m (e - m) := by rw [List.mem_range'_1]; omega
          have htext : runR ops n0 R (List.range' 0 i) S00 = foldD ops n0 R (fun j => decide (j < i)) (List.range' m (e - m)) (runR ops n0 R (List.range' 0 m) S00) := by
            rw [prefix_seg him (Nat.le_of_lt hilt), runR_append him]
          -- the state at its turn in the text, and the state now, agree where it looks
          have hagree : ∀ t, t ∈ tmpsOf o ++ guardT ops o → (foldD ops n0 R (fun j => L.getD j false) (List.range' m (e - m)) (runR ops n0 R (List.range' 0 m) S00)).tmps.getD t .junk = (runR ops n0 R (List.range' 0 i) S00).tmps.getD t .junk := by
            intro t ht
            rw [htext]
            refine (foldD_tmps hq _ _ _ hW rfl rfl fun j hj hdj => ?_).1
            obtain ⟨hjm, hje⟩ := hW j hj
            have hj' : j < ops.size := by have : n = ops.size := rfl; omega
            by_cases hij : j = i
            · subst hij; simpa using hDi
            · have hp := hpair i j o ops[j] hoi (Array.getElem?_eq_getElem hj')
              have hdj' : ops[j].dst = some t := by
                unfold dstOf at hdj
                rw [Array.getElem?_eq_getElem hj'] at hdj
                exact hdj
              unfold pairOk at hp
              rw [hdj'] at hp
              have e1 : (i == j) = false := by simpa using fun e => hij e.symm
              have e2 : (tmpsOf o ++ guardT ops o).contains t = true := by simpa using ht
              simp only [e1, e2, Bool.false_or, Bool.not_true, Bool.and_eq_true] at hp
              have hp2 := hp.2
              by_cases hlt : j < i
              · rw [if_pos hlt] at hp2
                simp [hlt, hla j (by simpa using hp2)]
              · rw [if_neg hlt] at hp2
                have : L.getD j false = false := by
                  cases hLj : L.getD j false with
                  | false => rfl
                  | true =>
                    have := hcl j _ hLj (Array.getElem?_eq_getElem hj') i (by simpa using hp2)
                    rw [hDi] at this; cases this
                simp [hlt, this]
          have hnew : ∀ r : Res, R i = r → foldD ops n0 R (fun j => (L.setIfInBounds i true).getD j false) (List.range' m (e - m)) (runR ops n0 R (List.range' 0 m) S00) = applyR (n0 + i) o.dst r (foldD ops n0 R (fun j => L.getD j false) (List.range' m (e - m)) (runR ops n0 R (List.range' 0 m) S00)) := by
            intro r hr
            have ee : (fun j => (L.setIfInBounds i true).getD j false) = fun j => L.getD j false || j == i := funext hLget
            rw [ee, foldD_add hq hdd hDi _ _ hW List.nodup_range' himem]
            unfold stepR
            have hdi : dstOf ops i = o.dst := by simp [dstOf, hoi]
            rw [hr, hdi]
          have hnext : ∀ (a' : Act) (w' : World) (μ' : Nat → Option Nat), Sat B (foldD ops n0 R (fun j => (L.setIfInBounds i true).getD j false) (List.range' m (e - m)) (runR ops n0 R (List.range' 0 m) S00)) a' w' μ' → wpAny P .any ops (SatQ B Q) fuel (L.setIfInBounds i true) a' w' := by
            intro a' w' μ' hS'
            refine ih _ a' w' μ' m e (by simp [hL]) (by omega) hme hen hnE hE hmE (fun j hj => by rw [hLget, hlow j hj]; rfl) (fun j hj => by rw [hLget, hhigh j hj]; simp; omega) hcl' hS'
          cases hr : R i with
          | none =>
            rw [hr] at hG
            have hG : guardW ops (runR ops n0 R (List.range' 0 i) S00) o False True := hG
            have hg := guard_agree hG (fun d hd => hagree d (by simp [hd]))
            rcases guard_wanted hSL hg with ⟨_, h⟩ | ⟨hw, _⟩
            · exact h.elim
            · rw [if_neg (by simp [hw])]
              refine hnext _ _ μ ?_
              rw [hnew none hr]
              exact hSL.put (by simp only [Rep, RepL]; exact ⟨#[], rfl, rfl⟩) o.dst
          | some p =>
            obtain ⟨v, ef⟩ := p
            rw [hr] at hG
            obtain ⟨hqe, hG, hop⟩ := hG
            have hg := guard_agree hG (fun d hd => hagree d (by simp [hd]))
            rcases guard_wanted hSL hg with ⟨hw, _⟩ | ⟨_, h⟩
            · rw [if_pos hw]
              have hbm := bOf_seg (n0 := n0) hmE i him (fun j h1 h2 => hnE j h1 (by omega))
              obtain ⟨v', e', ⟨rfl, rfl⟩, hY⟩ := op_sound (k := n0 + i) hop hSL (fun x hx => by
                cases x with
                | tmp t => exact hagree t (by
                    have : t ∈ tmpsOf o := List.mem_filterMap.2 ⟨_, hx, rfl⟩
                    simp [this])
                | _ => rfl) (fun q x hx => by
                  unfold lookB at hx
                  by_cases hqb : eOp o.op = true ∨ q < bOf ops n0 i
                  · rw [if_pos hqb] at hx
                    have hqb : q < n0 + m := by rw [← hbm]; exact hqb.resolve_left heo
                    have hj := lookS_some hx
                    rw [htext, foldD_objs hq _ _ hW (fun j hj _ => by have := (hW j hj).1; omega)] at hj
                    rw [foldD_objs hq _ _ hW (fun j hj _ => by have := (hW j hj).1; omega)]
                    exact hj
                  · rw [if_neg hqb] at hx; cases hx) (by
                  rw [foldD_objs hq _ _ hW (fun j hj hj' => by
                    intro ee
                    have : j = i := by omega
                    subst this
                    rw [hDi] at hj'; cases hj')]
                  exact run_free hgood m (by have : n = ops.size := rfl; omega) _ (by omega) (hfree00 _ (by omega) (by have : n = ops.size := rfl; omega)))
              refine .inl (hY _ _ fun u w' ⟨μ', h1, h2⟩ => hnext _ _ μ' ?_)
              rw [hnew _ hr]
              exact h1.put h2 o.dst
            · exact h.elim
        · -- one that writes: all ahead of it has come up
          have hiee : i = e := by omega
          subst hiee
          have hEi := hE hin
          have ht := htot i hEi
          unfold totOk at ht
          have hall : ∀ j, j < i → L.getD j false = true := by
            intro j hj
            have := List.all_eq_true.1 ht j (List.mem_range.2 (by omega))
            have e1 : (j == i) = false := by simp; omega
            rw [e1, Bool.false_or, if_pos hj] at this
            exact mask_listed hafter hcl i o hoi hla j this
          have hst : foldD ops n0 R (fun j => L.getD j false) (List.range' m (i - m)) (runR ops n0 R (List.range' 0 m) S00) = runR ops n0 R (List.range' 0 i) S00 := by
            rw [runR_eq _ _ _ (fun j hj => hall j (by rw [List.mem_range'_1] at hj; omega)), runR_append him]
          rw [hst] at hSL
          have hstep : ∀ r : Res, R i = r → runR ops n0 R (List.range' 0 (i + 1)) S00 = applyR (n0 + i) o.dst r (runR ops n0 R (List.range' 0 i) S00) := by
            intro r hr
            have ee : runR ops n0 R (List.range' 0 (i + 1)) S00 = stepR ops n0 R i (runR ops n0 R (List.range' 0 i) S00) := by
              unfold runR
              rw [List.range'_concat, List.foldl_append]; simp
            rw [ee]; unfold stepR
            have hdi : dstOf ops i = o.dst := by simp [dstOf, hoi]
            rw [hr, hdi]
          have hnext : ∀ (a' : Act) (w' : World) (μ' : Nat → Option Nat), Sat B (runR ops n0 R (List.range' 0 (i + 1)) S00) a' w' μ' → wpAny P .any ops (SatQ B Q) fuel (L.setIfInBounds i true) a' w' := by
            intro a' w' μ' hS'
            obtain ⟨e', g1, g2, g3, g4⟩ := next_e ops (i + 1) (by omega)
            refine ih _ a' w' μ' (i + 1) e' (by simp [hL]) (by omega) g1 g2 g3 g4 (.inr ⟨i, rfl, hEi⟩) (fun j hj => by
              rw [hLget]
              by_cases hji : j = i
              · simp [hji]
              · rw [hall j (by omega)]; rfl) (fun j hj => by rw [hLget, hhigh j (by omega)]; simp; omega) hcl' ?_
            rw [foldD_none _ _ (fun j hj => by
              rw [List.mem_range'_1] at hj
              rw [hLget, hhigh j (by omega)]; simp; omega)]
            exact hS'
          cases hr : R i with
          | none =>
            rw [hr] at hG
            have hG : guardW ops (runR ops n0 R (List.range' 0 i) S00) o False True := hG
            rcases guard_wanted hSL hG with ⟨_, h⟩ | ⟨hw, _⟩
            · exact h.elim
            · rw [if_neg (by simp [hw])]
              refine hnext _ _ μ ?_
              rw [hstep none hr]
              exact hSL.put (by simp only [Rep, RepL]; exact ⟨#[], rfl, rfl⟩) o.dst
          | some p =>
            obtain ⟨v, ef⟩ := p
            rw [hr] at hG
            obtain ⟨hqe, hG, hop⟩ := hG
            rcases guard_wanted hSL hG with ⟨hw, _⟩ | ⟨_, h⟩
            · rw [if_pos hw]
              obtain ⟨v', e', ⟨rfl, rfl⟩, hY⟩ := op_sound (k := n0 + i) hop hSL (fun x hx => rfl) (fun q x hx => by
                  unfold lookB at hx
                  split at hx
                  · exact lookS_some hx
                  · cases hx) (run_free hgood i (by have : n = ops.size := rfl; omega) _ (Nat.le_refl _) (hfree00 _ (by omega) (by omega)))
              refine .inl (hY _ _ fun u w' ⟨μ', h1, h2⟩ => hnext _ _ μ' ?_)
              rw [hstep _ hr]
              exact h1.put h2 o.dst
            · exact h.elim
  obtain ⟨e', g1, g2, g3, g4⟩ := next_e ops 0 (Nat.zero_le _)
  refine key _ _ _ _ μ 0 e' (by simp [n]) (by simp) g1 g2 g3 g4 (.inl rfl) (fun j hj => by omega) (fun j _ => getD_replicate _ _) (fun j o hj => by rw [getD_replicate] at hj; cases hj) ?_
  rw [foldD_none _ _ (fun j _ => getD_replicate _ _)]
  exact (hS.same hsame).below ⟨rfl, rfl, rfl, Nat.le_refl _, fun _ _ => rfl⟩
end Go.Proofs.YtdaojihnaajfeaaX

/- Code, run in one go. Of no program. -/
set_option linter.unusedVariables false
set_option linter.unusedSimpArgs false
namespace Go.Proofs.YtdaojihnaajfeaaX
open Go Go.RowKit
def lkOf (l : List T) (lk n : Nat) : Nat := if n ≤ l.length then max lk n else lk
def St.frz (S : St) (o n : Nat) : St :=
  match S.objs[o]? with
  | some (some (.buf t sz l lk)) => ⟨S.tmps, S.objs.set o (some (.buf t sz l (lkOf l lk n)))⟩
  | _ => S
theorem Sat.frz {B : Base} {S : St} {a : Act} {w : World} {μ : Nat → Option Nat} (hS : Sat B S a w μ) (o n : Nat) : Sat B (S.frz o n) a w μ := by
  unfold St.frz
  split
  · rename_i t sz l lk h
    refine hS.relock fun i => ?_
    rw [List.getElem?_set]
    by_cases e : o = i
    · subst e
      rw [if_pos rfl, h, if_pos (List.getElem?_eq_some_iff.1 h).1]
      refine .buf ?_ (fun hl => ?_) <;> unfold lkOf <;> split <;> omega
    · rw [if_neg e]; exact RL.refl _
  · exact hS
mutual
def St.frzT (S : St) : T → St
  | .rsl o sz off len => S.frz o (off + len)
  | .agg l => S.frzL l
  | .tup l => S.frzL l
  | .ifc _ x => S.frzT x
  | .imm _ => S
  | .sl .. => S
  | .pp _ => S
  | .ref .. => S
  | .fn .. => S
  | .junk => S
def St.frzL (S : St) : List T → St
  | [] => S
  | x :: l => St.frzL (S.frzT x) l
end
mutual
theorem Sat.frzT {B : Base} {a : Act} {w : World} {μ : Nat → Option Nat} : ∀ (x : T) (S : St), Sat B S a w μ → Sat B (S.frzT x) a w μ
  | .rsl o sz off len, S, hS => hS.frz o _
  | .agg l, S, hS => Sat.frzL l S hS
  | .tup l, S, hS => Sat.frzL l S hS
  | .ifc _ x, S, hS => Sat.frzT x S hS
  | .imm _, S, hS => hS
  | .sl .., S, hS => hS
  | .pp _, S, hS => hS
  | .ref .., S, hS => hS
  | .fn .., S, hS => hS
  | .junk, S, hS => hS
theorem Sat.frzL {B : Base} {a : Act} {w : World} {μ : Nat → Option Nat} : ∀ (l : List T) (S : St), Sat B S a w μ → Sat B (S.frzL l) a w μ
  | [], S, hS => hS
  | x :: l, S, hS => Sat.frzL l _ (Sat.frzT x S hS)
end
def rootOf (ops : List Oper) : Nat → Tmp → Tmp
  | 0, t => t
  | n + 1, t => match ops.find? (fun o => o.dst == some t) with
    | some ⟨_, .move (.tmp u), _, _, _, _⟩ => rootOf ops n u
    | some ⟨_, .assign (.tmp u), _, _, _, _⟩ => rootOf ops n u
    | some ⟨_, .load _ (.tmp u), _, _, _, _⟩ => 1000000 + u
    | _ => t
def rootsA (ops : List Oper) : List Operand → List Tmp
  | [] => []
  | .tmp t :: l => rootOf ops 4 t :: rootsA ops l
  | .const _ :: l => rootsA ops l
  | .global _ :: l => rootsA ops l
  | .func _ :: l => rootsA ops l
def rootsP (ops : List Oper) (op : Op) : List Tmp := match op with
  | .call ⟨.value _, ⟨args⟩, _⟩ => rootsA ops args
  | _ => []
def rootsO (ops : List Oper) : List Oper → List Tmp
  | [] => []
  | o :: l => rootsP ops o.op ++ rootsO ops l
def rootsOf (ops : List Oper) : List Tmp := rootsO ops ops
def St.frzB (S : St) : T → St
  | .ref o _ _ _ => match S.objs[o]? with
    | some (some (.box _ x _)) => S.frzT x
    | _ => S
  | _ => S
theorem Sat.frzB {B : Base} {a : Act} {w : World} {μ : Nat → Option Nat} {S : St} (x : T) (hS : Sat B S a w μ) : Sat B (S.frzB x) a w μ := by
  cases x <;> try exact hS
  rename_i o sz i c
  show Sat B (match S.objs[o]? with | some (some (.box _ x _)) => S.frzT x | _ => S) a w μ
  split
  · exact Sat.frzT _ _ hS
  · exact hS
def St.frzR (S : St) (t : Tmp) : St := if t < 1000000 then S.frzT (S.tmps.getD t .junk) else S.frzB (S.tmps.getD (t - 1000000) .junk)
theorem Sat.frzR {B : Base} {a : Act} {w : World} {μ : Nat → Option Nat} {S : St} (t : Tmp) (hS : Sat B S a w μ) : Sat B (S.frzR t) a w μ := by
  unfold St.frzR
  split
  · exact Sat.frzT _ _ hS
  · exact Sat.frzB _ hS
def St.roots (S : St) (ops : List Oper) : St := (rootsOf ops).foldl (fun S t => S.frzR t) S
theorem Sat.roots {B : Base} {a : Act} {w : World} {μ : Nat → Option Nat} {S : St} (hS : Sat B S a w μ) (ops : List Oper) : Sat B (S.roots ops) a w μ := by
  unfold St.roots
  generalize rootsOf ops = l
  induction l generalizing S with
  | nil => exact hS
  | cons t l ih => exact ih (Sat.frzR _ hS)
def codeOk : Code → Bool
  | .region _ ops true => drawOk ops
  | .seq a b => codeOk a && codeOk b
  | .cond _ a b => codeOk a && codeOk b
  | .block _ c => codeOk c
  | .loop c => codeOk c
  | .scope c => codeOk c
  | _ => true
def wpC (P : Program) : Code → St → (Exit → St → Prop) → Prop
  | .skip, S, Q => Q .normal S
  | .exit id, S, Q => Q (.exit id) S
  | .ret, S, Q => Q .ret S
  | .region _ ops false, S, Q => stepsW P ops ops.toList (S.roots ops.toList) (Q .normal)
  | .region _ ops true, S, Q => drawW P ops ops.toList (S.roots ops.toList).objs.length (S.roots ops.toList).objs.length ⟨(S.roots ops.toList).tmps, (S.roots ops.toList).objs ++ List.replicate ops.size none⟩ (fun S => Q .normal ⟨S.tmps, trims S.objs⟩)
  | .seq x y, S, Q => wpC P x S (thenQ (fun S' => wpC P y S' Q) Q)
  | .cond c x y, S, Q => match evalT S c with
    | .imm (.bool b) => (b = true → wpC P x S Q) ∧ (b = false → wpC P y S Q)
    | _ => False
  | .block id c, S, Q => wpC P c S (blockQ id Q)
  | c, S, Q => WP P c S Q
theorem wpC_sound {P : Program} (hm : P.follows .mixedOrders = true) : ∀ (c : Code) (S : St) (Q : Exit → St → Prop), codeOk c = true → wpC P c S Q → WP P c S Q
  | .skip, S, Q, _, h => WP.skip h
  | .exit id, S, Q, _, h => WP.exit h
  | .ret, S, Q, _, h => WP.ret h
  | .region id ops false, S, Q, _, h => fun B a w μ hS => WP.region h B a w μ (hS.roots _)
  | .region id ops true, S, Q, hok, h => fun B a w μ hS => draw_sound hm hok h (hS.roots _)
  | .seq x y, S, Q, hok, h => by
    simp only [codeOk, Bool.and_eq_true] at hok
    refine WP.seq (WP.mono (wpC_sound hm x S _ hok.1 h) fun e S' h' => ?_)
    cases e with
    | normal => exact wpC_sound hm y S' Q hok.2 h'
    | _ => exact h'
  | .cond c x y, S, Q, hok, h => by
    simp only [codeOk, Bool.and_eq_true] at hok
    unfold wpC at h
    split at h
    · rename_i b hb
      exact WP.cond hb (fun e => wpC_sound hm x S Q hok.1 (h.1 e)) (fun e => wpC_sound hm y S Q hok.2 (h.2 e))
    · exact h.elim
  | .block id c, S, Q, hok, h => WP.block (wpC_sound hm c S _ hok h)
  | .loop c, S, Q, _, h => h
  | .scope c, S, Q, _, h => h
  | .label l, S, Q, _, h => h
  | .goto l, S, Q, _, h => h
  | .rangeFunc f ps x y, S, Q, _, h => h
  | .refuse s, S, Q, _, h => h
theorem FnC.run {P : Program} (hm : P.follows .mixedOrders = true) {f : FuncId} {fn : Func} {c : Code} {args : List T} {res : T} (hf : P.funcs[f]? = some fn) (hn : (fn.name == "runtime.NumGoroutine") = false) (hb : fn.body = some c) (hok : codeOk c = true)
    (h : wpC P c ⟨args ++ List.replicate (fn.ntmps - args.length) .junk, []⟩ (RetQ P fn res)) : FnC P f args res := FnC.of hf hn hb (wpC_sound hm _ _ _ hok h)
def St.cut (S : St) (m : Nat) : St := ⟨killL (List.range' m (S.objs.length - m)) S.tmps, (S.objs.take m).map (Option.map (Own.kill (List.range' m (S.objs.length - m))))⟩
theorem Sat.cut {B : Base} {S : St} {a : Act} {w : World} {μ : Nat → Option Nat} (hS : Sat B S a w μ) (m : Nat) : Sat B (S.cut m) a w μ := by
  have hget : ∀ (o : Nat) (y : Own), (S.cut m).objs[o]? = some (some y) → ∃ x, S.objs[o]? = some (some x) ∧ y = x.kill (List.range' m (S.objs.length - m)) := by
    intro o y h
    have h : ((S.objs.take m).map (Option.map (Own.kill (List.range' m (S.objs.length - m)))))[o]? = some (some y) := h
    rw [List.getElem?_map, List.getElem?_take] at h
    split at h
    · cases hz : S.objs[o]? with
      | none => rw [hz] at h; cases h
      | some z =>
        rw [hz] at h
        cases z with
        | none => cases h
        | some z =>
          have h : some (some (z.kill (List.range' m (S.objs.length - m)))) = some (some y) := h
          injection h with h; injection h with h
          exact ⟨z, rfl, h.symm⟩
    · cases h
  have hst : Step (List.range' m (S.objs.length - m)) ⟨w, μ, S.objs, B.ban⟩ ⟨w, μ, (S.cut m).objs, B.ban⟩ := by
    refine ⟨⟨fun b j v ⟨h1, h2, h3⟩ => ⟨h1, fun lk ⟨o, y, k1, k2, k3⟩ => ?_, h3⟩, fun b c t fr hb => ⟨c, fr, hb, rfl⟩⟩, fun o ⟨x, hx⟩ hk => ?_, fun _ _ _ => rfl⟩
    · obtain ⟨x, e1, rfl⟩ := hget o y k1
      rw [Own.kill_lock] at k3
      exact h2 lk ⟨o, x, e1, k2, k3⟩
    · have hx : S.objs[o]? = some (some x) := hx
      have hlt := (List.getElem?_eq_some_iff.1 hx).1
      have hom : o < m := by
        have : ¬ o ∈ List.range' m (S.objs.length - m) := by simpa using hk
        rw [List.mem_range'_1] at this
        omega
      refine ⟨x.kill (List.range' m (S.objs.length - m)), ?_⟩
      show ((S.objs.take m).map (Option.map (Own.kill (List.range' m (S.objs.length - m)))))[o]? = _
      rw [List.getElem?_map, List.getElem?_take, if_pos hom, hx]
      rfl
  have hdead : ∀ x : Own, x.kill (List.range' m (S.objs.length - m)) ≠ .dead → x ≠ .dead := fun x h e => h (by rw [e]; rfl)
  refine hS.go hst ⟨fun o y hy => ?_, fun o o' y y' b h1 h2 hd hd' hb hb' => ?_⟩ (fun o y b h1 hd hb => ?_) hS.kept
  · obtain ⟨x, hx, rfl⟩ := hget o y hy
    have := hS.objs.at_ o x hx
    cases x with
    | box t x lk =>
      obtain ⟨b, fr, u, h1, h2, h3, h4, h5⟩ := this
      exact ⟨b, fr, u, h1, h2, h3, Rep.kill hst _ _ _ h4, by rw [cells_kill]; exact h5⟩
    | buf t sz l lk =>
      obtain ⟨h0, h1⟩ := this
      exact ⟨h0, h1.imp id fun ⟨b, c, fr, c1, c2, h1, h2, h3, h4, h5⟩ => ⟨b, c, fr, c1, c2, h1, h2, h3, h4, RepR.stepC hst.toStepC _ _ _ h5⟩⟩
    | dead => trivial
  · obtain ⟨x, hx, rfl⟩ := hget o y h1
    obtain ⟨x', hx', rfl⟩ := hget o' y' h2
    exact hS.objs.inj o o' x x' b hx hx' (hdead _ hd) (hdead _ hd') hb hb'
  · obtain ⟨x, hx, rfl⟩ := hget o y h1
    rw [Own.kill_lock]
    exact hS.fresh o x b hx (hdead _ hd) hb
end Go.Proofs.YtdaojihnaajfeaaX

/- What a row's arguments are, as trees. Of no program. -/
set_option linter.unusedVariables false
set_option linter.unusedSimpArgs false
namespace Go.Proofs.YtdaojihnaajfeaaX
open Go Go.RowKit
def aggTy (P : Program) (t : TypeId) : Bool := match P.underlying t with | some (.struct _) => true | some (.array _ _) => true | _ => false
def ShapeW (P : Program) : Nat → TypeId → T → Prop
  | 0, _, _ => False
  | n + 1, t, x => match P.underlying t with
    | some .bool => ∃ b, x = .imm (.bool b)
    | some (.int k) => ∃ i, x = .imm (.int k i) ∧ (Lit.int k i).wf = true
    | some .string => ∃ s : ByteArray, x = .imm (.string s) ∧ s.size ≤ maxLen
    | some (.slice e) => ∃ full l, x = .sl (P.cellsOf e) full l ∧ l.length ≤ maxLen ∧ ∀ y ∈ l, ShapeW P n e y
    | some (.struct fs) => ∃ ys : List T, x = .agg (ys.flatMap T.cells) ∧ ys.length = fs.size ∧ ∀ (i : Nat) (f : Field) (y : T), fs[i]? = some f → ys[i]? = some y → ShapeW P n f.type y
    | some (.array k e) => ∃ ys : List T, x = .agg (ys.flatMap T.cells) ∧ ys.length = k ∧ ∀ y ∈ ys, ShapeW P n e y
    | _ => x = .junk
def tileF (P : Program) : Nat → List Field → Option Nat
  | o, [] => some o
  | o, f :: fs => if f.offset = o then tileF P (o + P.cellsOf f.type) fs else none
def tile (P : Program) (t : TypeId) : Bool := match P.underlying t with
  | some (.struct fs) => tileF P 0 fs.toList == some (P.cellsOf t)
  | some (.array n e) => n * P.cellsOf e == P.cellsOf t
  | _ => true
def typesOk (P : Program) (L : List TypeId) : Bool := L.all fun t => tile P t && (match P.underlying t with
  | some (.slice e) => L.contains e
  | some (.struct fs) => fs.toList.all fun f => L.contains f.type
  | some (.array _ e) => L.contains e
  | _ => true)
theorem typesOk_at {P : Program} {L : List TypeId} (h : typesOk P L = true) {t : TypeId} (ht : t ∈ L) : tile P t = true ∧ (∀ e, P.underlying t = some (.slice e) → e ∈ L) ∧ (∀ fs, P.underlying t = some (.struct fs) → ∀ (i : Nat) (f : Field), fs[i]? = some f → f.type ∈ L) ∧ (∀ n e, P.underlying t = some (.array n e) → e ∈ L) := by
  have := List.all_eq_true.1 h t ht
  rw [Bool.and_eq_true] at this
  obtain ⟨h1, h2⟩ := this
  refine ⟨h1, fun e he => ?_, fun fs he i f hf => ?_, fun n e he => ?_⟩
  · rw [he] at h2; simpa using h2
  · rw [he] at h2
    have := List.all_eq_true.1 h2 f (by rw [Array.mem_toList_iff]; exact Array.mem_of_getElem? hf)
    simpa using this
  · rw [he] at h2; simpa using h2
def noBan : Ban := ⟨fun _ _ => False, fun _ _ => True⟩
theorem E0_pc {w : World} {b j : Nat} {v : Value} (h : w.cell? ⟨b, j, none⟩ = some v) : (E0 w noBan).pc b j v := ⟨h, fun lk ⟨o, x, k1, _⟩ => by simp [E0] at k1, fun h => h⟩
theorem cell_spot {w : World} {b j : Nat} {s : Option Nat} {v : Value} (h : w.cell? ⟨b, j, s⟩ = some v) : s = none ∧ w.cell? ⟨b, j, none⟩ = some v := by
  unfold World.cell? at h ⊢
  cases s with
  | none => exact ⟨rfl, h⟩
  | some k => split at h <;> simp at h
theorem repL_flat {E : Env} {cl : Bool} : ∀ {ys : List T} {cs : List (List Value)}, ys.length = cs.length → (∀ (i : Nat) (y : T) (c : List Value), ys[i]? = some y → cs[i]? = some c → RepL E cl y.cells c) → RepL E cl (ys.flatMap T.cells) cs.flatten
  | [], [], _, _ => by simp [RepL]
  | [], _ :: _, h, _ => by simp at h
  | _ :: _, [], h, _ => by simp at h
  | y :: ys, c :: cs, h, k => by
    rw [List.flatMap_cons, List.flatten_cons]
    exact RepL.append (k 0 y c rfl rfl) (repL_flat (by simpa using h) fun i y c h1 h2 => k (i + 1) y c (by simpa using h1) (by simpa using h2))
theorem tileF_flat {P : Program} {α : Type} (cs : List α) : ∀ (fs : List Field) (o : Nat), tileF P o fs = some cs.length → cs.drop o = (fs.map fun f => (cs.drop f.offset).take (P.cellsOf f.type)).flatten
  | [], o, h => by
    simp only [tileF, Option.some.injEq] at h
    subst h; simp
  | f :: fs, o, h => by
    simp only [tileF] at h
    split at h
    · rename_i e
      rw [List.map_cons, List.flatten_cons, ← tileF_flat cs fs _ h, e]
      rw [← List.drop_drop, List.take_append_drop]
    · cases h
theorem array_flat {α : Type} (sz : Nat) : ∀ (n : Nat) (cs : List α), cs.length = n * sz → cs = ((List.range n).map fun i => (cs.drop (i * sz)).take sz).flatten
  | 0, cs, h => by simp at h; simp [h]
  | n + 1, cs, h => by
    rw [Nat.add_mul, Nat.one_mul] at h
    rw [List.range_succ_eq_map, List.map_cons, List.flatten_cons, List.map_map]
    have := array_flat sz n (cs.drop sz) (by rw [List.length_drop]; omega)
    have e : ((fun i => (cs.drop (i * sz)).take sz) ∘ Nat.succ) = fun i => ((cs.drop sz).drop (i * sz)).take sz := by
      funext i
      simp only [Function.comp, List.drop_drop, Nat.succ_mul, Nat.add_comm]
    rw [e, ← this]
    simp
theorem choose_list {α β : Type} {R : Nat → α → β → Prop} : ∀ (l : List α), (∀ (i : Nat) (x : α), l[i]? = some x → ∃ y, R i x y) → ∃ r : List β, r.length = l.length ∧ ∀ (i : Nat) (x : α) (y : β), l[i]? = some x → r[i]? = some y → R i x y := by
  intro l
  induction l generalizing R with
  | nil => intro _; exact ⟨[], rfl, fun i x y h => by simp at h⟩
  | cons a l ih =>
    intro h
    obtain ⟨y, hy⟩ := h 0 a rfl
    obtain ⟨r, h1, h2⟩ := ih (R := fun i => R (i + 1)) fun i x hx => h (i + 1) x (by simpa using hx)
    refine ⟨y :: r, by simp [h1], fun i x z hx hz => ?_⟩
    cases i with
    | zero =>
      simp only [List.getElem?_cons_zero, Option.some.injEq] at hx hz
      subst hx; subst hz; exact hy
    | succ i => exact h2 i x z (by simpa using hx) (by simpa using hz)
def Opened (P : Program) (w : World) (n : Nat) (t : TypeId) (cs : List Value) (y : T) : Prop :=
  ShapeW P n t y ∧ RepL (E0 w noBan) true y.cells cs ∧ (∀ v ∈ cs, leaf v = true) ∧ ((aggTy P t = true ∧ ∃ l, y = .agg l) ∨ (aggTy P t = false ∧ y.cells = [y] ∧ ∃ v, cs = [v]))
section
variable {H : Type} {enc : TypeId × Value → H} {P : Program} {w : World} {base : Nat} {spare : Nat → Bool} {held : Bool}
theorem opened_val {n : Nat} {t : TypeId} {cs : List Value} {y : T} (h : Opened P w n t cs y) : ∃ u : Value, u.cells.toList = cs ∧ leafU u ∧ Rep (E0 w noBan) true y u := by
  obtain ⟨h1, h2, h3, ⟨h4, l, rfl⟩ | ⟨h4, h5, v, rfl⟩⟩ := h
  · exact ⟨.agg cs.toArray, by simp [Value.cells], fun v hv => h3 v (by simpa [Value.cells] using hv), by simp only [Rep]; exact ⟨_, rfl, by simpa [T.cells] using h2⟩⟩
  · have hl := h3 v (by simp)
    have hc : v.cells.toList = [v] := by cases v <;> first | rfl | (exact absurd hl (by simp [leaf]))
    rw [h5] at h2
    simp only [RepL] at h2
    obtain ⟨v', vs', e, h2, h6⟩ := h2
    cases e
    exact ⟨v, hc, fun u hu => h3 u (by rw [hc] at hu; exact hu), h2⟩
theorem open_elems {n : Nat} {e : TypeId} {a : Addr} {len : Nat} {elems : List (DataW H × List MemPlace)} (ih : ∀ (cs : List Value) (x : DataW H × List MemPlace), DataW.trod enc P w base spare held n e cs = some x → ∃ y, Opened P w n e cs y)
    (hlen : elems.length = len) (hel : ∀ i, i < len → (w.cells? base (a.add (i * P.cellsOf e)) (P.cellsOf e)).bind (DataW.trod enc P w base spare held n e) = elems[i]?) :
    ∀ k, k ≤ len → ∃ (ys : List T) (c : List Value), ys.length = k ∧ (∀ y ∈ ys, ShapeW P n e y) ∧ RepR (E0 w noBan) (P.cellsOf e) ys c ∧ ∀ j v, c[j]? = some v → a.spot = none ∧ w.cell? ⟨a.block, a.off + j, none⟩ = some v
  | 0, _ => ⟨[], [], rfl, by simp, by simp [RepR], fun j v h => by simp at h⟩
  | k + 1, hk => by
    obtain ⟨ys, c, h1, h2, h3, h4⟩ := open_elems ih hlen hel k (by omega)
    have := hel k (by omega)
    rw [List.getElem?_eq_getElem (by omega)] at this
    obtain ⟨cs, h5, h6⟩ := Option.bind_eq_some_iff.1 this
    obtain ⟨y, hy⟩ := ih _ _ h6
    obtain ⟨u, h7, h8, h9⟩ := opened_val hy
    have hcells : cs.length = P.cellsOf e ∧ ∀ j v, cs[j]? = some v → w.cell? ((a.add (k * P.cellsOf e)).add j) = some v := by
      unfold World.cells? at h5
      split at h5
      · have hl := mapM_some_length h5
        rw [List.length_range] at hl
        refine ⟨hl, fun j v hj => ?_⟩
        have hjl := (List.getElem?_eq_some_iff.1 hj).1
        rw [mapM_some_get h5 j j (by rw [List.getElem?_range (by omega)]), hj]
      · cases h5
    have hcl : c.length = k * P.cellsOf e := by rw [RepR.length h3, h1]
    refine ⟨ys ++ [y], c ++ cs, by simp [h1], ?_, ?_, ?_⟩
    · intro z hz
      rcases List.mem_append.1 hz with h | h
      · exact h2 z h
      · obtain rfl : z = y := by simpa using h
        exact hy.1
    · refine RepR.append h3 ?_
      simp only [RepR]
      refine ⟨u, [], by rw [h7]; simp, ⟨by rw [← Array.length_toList, h7]; exact hcells.1, h8⟩, h9, rfl⟩
    · intro j v hj
      rw [List.getElem?_append] at hj
      split at hj
      · exact h4 j v hj
      · rename_i hge
        have hc := hcells.2 _ v hj
        have e1 : ((a.add (k * P.cellsOf e)).add (j - c.length)).block = a.block ∧ ((a.add (k * P.cellsOf e)).add (j - c.length)).off = a.off + j := by
          unfold Addr.add
          constructor
          · split <;> split <;> rfl
          · by_cases e0 : k * P.cellsOf e = 0 <;> by_cases e2 : j - c.length = 0 <;> simp [e0, e2] <;> omega
        have hc0 : w.cell? ⟨a.block, a.off + j, none⟩ = some v := by
          have := cell_spot (w := w) (b := ((a.add (k * P.cellsOf e)).add (j - c.length)).block) (j := ((a.add (k * P.cellsOf e)).add (j - c.length)).off) (s := ((a.add (k * P.cellsOf e)).add (j - c.length)).spot) hc
          rw [e1.1, e1.2] at this
          exact this.2
        refine ⟨?_, hc0⟩
        by_cases hz : c = []
        · have hz0 : k * P.cellsOf e = 0 := by rw [← hcl, hz]; rfl
          cases hcs : cs with
          | nil => rw [hcs] at hj; simp at hj
          | cons v0 cs' =>
            have := hcells.2 0 v0 (by rw [hcs]; rfl)
            rw [hz0] at this
            have := cell_spot (w := w) (b := a.block) (j := a.off) (s := a.spot) (v := v0) (by simpa [Addr.add] using this)
            exact this.1
        · cases hcs : c with
          | nil => exact absurd hcs hz
          | cons v0 c' => exact (h4 0 v0 (by rw [hcs]; rfl)).1
theorem open_cells {L : List TypeId} (hT : typesOk P L = true) : ∀ (n : Nat) (t : TypeId) (cs : List Value) (x : DataW H × List MemPlace), t ∈ L → DataW.trod enc P w base spare held n t cs = some x → ∃ y, Opened P w n t cs y
  | 0, t, cs, x, _, h => by simp [DataW.trod] at h
  | n + 1, t, cs, x, hL, h => by
    obtain ⟨htile, hLs, hLf, hLa⟩ := typesOk_at hT hL
    have ih := open_cells hT n
    cases ht : P.underlying t with
    | none => unfold DataW.trod at h; rw [ht] at h; simp at h
    | some d =>
      have one : ∀ (y : T) (v : Value), aggTy P t = false → ShapeW P (n + 1) t y → y.cells = [y] → cs = [v] → leaf v = true → Rep (E0 w noBan) true y v → ∃ y, Opened P w (n + 1) t cs y := by
        intro y v ha hs hy hc hl hr
        refine ⟨y, hs, ?_, ?_, .inr ⟨ha, hy, v, hc⟩⟩
        · rw [hy, hc]; simp only [RepL]; exact ⟨v, [], rfl, hr, rfl⟩
        · rw [hc]; simpa using hl
      cases d with
      | bool =>
        obtain ⟨b, rfl, _⟩ := DataW.trod_bool ht h
        exact one (.imm (.bool b)) _ (by simp [aggTy, ht]) (by simp [ShapeW, ht]) rfl rfl rfl (by simp [Rep, flat])
      | int k =>
        obtain ⟨i, rfl, _, hw⟩ := DataW.trod_int ht h
        exact one (.imm (.int k i)) _ (by simp [aggTy, ht]) (by simp only [ShapeW, ht]; exact ⟨i, rfl, hw⟩) rfl rfl rfl (by simp [Rep, flat])
      | string =>
        obtain ⟨s, rfl, _, hw⟩ := DataW.trod_string ht h
        exact one (.imm (.string s)) _ (by simp [aggTy, ht]) (by simp only [ShapeW, ht]; exact ⟨s, rfl, hw⟩) rfl rfl rfl (by simp [Rep, flat])
      | slice e =>
        rcases DataW.trod_slice ht h with ⟨rfl, _⟩ | ⟨a, len, cap, elems, rest, m, hm, rfl, _, hb, hl, hc, hlen, hel, _⟩
        · refine one (.sl (P.cellsOf e) true []) _ (by simp [aggTy, ht]) (by simp only [ShapeW, ht]; exact ⟨true, [], rfl, by simp, by simp⟩) rfl rfl rfl ?_
          simp only [Rep]
          exact ⟨none, 0, [], rfl, Nat.le_refl _, fun _ => ⟨rfl, fun _ _ h => by cases h⟩, by simp [RepR], fun j v hj => by simp at hj⟩
        · obtain rfl : n = m := by omega
          obtain ⟨ys, c, h1, h2, h3, h4⟩ := open_elems (fun cs x => ih e cs x (hLs e ht)) hlen hel len (Nat.le_refl _)
          refine one (.sl (P.cellsOf e) false ys) _ (by simp [aggTy, ht]) (by simp only [ShapeW, ht]; exact ⟨false, ys, rfl, by omega, h2⟩) rfl rfl rfl ?_
          simp only [Rep]
          refine ⟨some a, cap, c, by rw [h1], by omega, (fun h => by cases h), h3, fun j v hj => ?_⟩
          obtain ⟨h5, h6⟩ := h4 j v hj
          exact ⟨a.block, a.off, by cases a; simp at h5 ⊢; exact h5, E0_pc h6⟩
      | struct fs =>
        obtain ⟨xs, m, hm, _, hl, hxl, hx⟩ := DataW.trod_struct ht h
        obtain rfl : n = m := by omega
        simp only [tile, ht, beq_iff_eq] at htile
        rw [← hl] at htile
        have hflat := tileF_flat cs fs.toList 0 htile
        rw [List.drop_zero] at hflat
        obtain ⟨ys, hy1, hy2⟩ := choose_list (R := fun i f y => Opened P w n f.type ((cs.drop f.offset).take (P.cellsOf f.type)) y) fs.toList fun i f hf => by
          have hf' : fs[i]? = some f := by simpa using hf
          have := hx i f hf'
          have hil := (Array.getElem?_eq_some_iff.1 hf').1
          rw [List.getElem?_eq_getElem (by omega)] at this
          exact ih _ _ _ (hLf fs ht i f hf') this
        replace hy1 : ys.length = fs.size := by rw [hy1]; simp
        have hya : ∀ (i : Nat) (y : T), ys[i]? = some y → ∃ f, fs[i]? = some f ∧ Opened P w n f.type ((cs.drop f.offset).take (P.cellsOf f.type)) y := by
          intro i y hy
          have hil := (List.getElem?_eq_some_iff.1 hy).1
          have : fs[i]? = some fs[i] := Array.getElem?_eq_getElem (by omega)
          exact ⟨_, this, hy2 i _ y (by rw [Array.getElem?_toList]; exact this) hy⟩
        refine ⟨.agg (ys.flatMap T.cells), ?_, ?_, ?_, .inl ⟨by simp [aggTy, ht], _, rfl⟩⟩
        · simp only [ShapeW, ht]
          exact ⟨ys, rfl, hy1, fun i f y hf hy => (hy2 i f y (by simpa using hf) hy).1⟩
        · show RepL _ _ (ys.flatMap T.cells) cs
          rw [hflat]
          refine repL_flat (by simp [hy1]) fun i y c hy hc => ?_
          rw [List.getElem?_map] at hc
          obtain ⟨f, hf, rfl⟩ := Option.map_eq_some_iff.1 hc
          exact (hy2 i f y hf hy).2.1
        · intro v hv
          rw [hflat] at hv
          obtain ⟨c, hc, hv⟩ := List.mem_flatten.1 hv
          obtain ⟨f, hf, rfl⟩ := List.mem_map.1 hc
          obtain ⟨i, hi⟩ := List.mem_iff_getElem?.1 hf
          obtain ⟨y, hy⟩ : ∃ y, ys[i]? = some y := ⟨ys[i]'(by have := (List.getElem?_eq_some_iff.1 hi).1; rw [Array.length_toList] at this; omega), List.getElem?_eq_getElem _⟩
          exact (hy2 i f y hi hy).2.2.1 v hv
      | array k e =>
        simp only [tile, ht, beq_iff_eq] at htile
        unfold DataW.trod at h
        rw [ht] at h
        obtain ⟨hl, hm⟩ : cs.length = P.cellsOf t ∧ ∃ xs, ((List.range k).mapM fun i => DataW.trod enc P w base spare held n e ((cs.drop (i * P.cellsOf e)).take (P.cellsOf e))) = some xs := by
          split at h <;> simp_all
          obtain ⟨_, xs, hp, _⟩ := h
          exact ⟨xs, hp⟩
        obtain ⟨xs, hm⟩ := hm
        have hxl := mapM_some_length hm
        rw [List.length_range] at hxl
        have hflat := array_flat (P.cellsOf e) k cs (by rw [hl, htile])
        obtain ⟨ys, hy1, hy2⟩ := choose_list (R := fun i (j : Nat) y => Opened P w n e ((cs.drop (i * P.cellsOf e)).take (P.cellsOf e)) y) (List.range k) fun i j hj => by
          have hil : i < k := by have := (List.getElem?_eq_some_iff.1 hj).1; simpa using this
          have := mapM_some_get hm i i (List.getElem?_range hil)
          rw [List.getElem?_eq_getElem (by omega)] at this
          exact ih _ _ _ (hLa k e ht) this
        rw [List.length_range] at hy1
        have hya : ∀ (i : Nat) (y : T), ys[i]? = some y → Opened P w n e ((cs.drop (i * P.cellsOf e)).take (P.cellsOf e)) y := fun i y hy => hy2 i i y (List.getElem?_range (by have := (List.getElem?_eq_some_iff.1 hy).1; omega)) hy
        refine ⟨.agg (ys.flatMap T.cells), ?_, ?_, ?_, .inl ⟨by simp [aggTy, ht], _, rfl⟩⟩
        · simp only [ShapeW, ht]
          refine ⟨ys, rfl, hy1, fun y hy => ?_⟩
          obtain ⟨i, hi⟩ := List.mem_iff_getElem?.1 hy
          exact (hya i y hi).1
        · show RepL _ _ (ys.flatMap T.cells) cs
          rw [hflat]
          refine repL_flat (by simp [hy1]) fun i y c hy hc => ?_
          rw [List.getElem?_map] at hc
          obtain ⟨j, hj, rfl⟩ := Option.map_eq_some_iff.1 hc
          obtain ⟨hjl, hj⟩ := List.getElem?_eq_some_iff.1 hj
          rw [List.getElem_range] at hj
          subst hj
          exact (hya i y hy).2.1
        · intro v hv
          rw [hflat] at hv
          obtain ⟨c, hc, hv⟩ := List.mem_flatten.1 hv
          obtain ⟨i, hi, rfl⟩ := List.mem_map.1 hc
          have hik : i < k := by simpa using hi
          exact (hya i _ (List.getElem?_eq_getElem (by omega))).2.2.1 v hv
      | _ =>
        obtain ⟨v, rfl, hv⟩ : ∃ v, cs = [v] ∧ leaf v = true := by
          unfold DataW.trod at h
          rw [ht] at h
          split at h <;> first | exact ⟨_, rfl, rfl⟩ | (rename_i h1; cases h1; done) | (cases h; done) | (rename_i h1 _; cases h1; done)
        exact one .junk v (by simp [aggTy, ht]) (by simp [ShapeW, ht]) rfl rfl hv (by simp only [Rep])
end
end Go.Proofs.YtdaojihnaajfeaaX

/- A law's row, of what its function answers of trees. Of no program. -/
set_option linter.unusedVariables false
set_option linter.unusedSimpArgs false
namespace Go.Proofs.YtdaojihnaajfeaaX
open Go Go.RowKit Go.ChangeShapes Go.WideShapes
def ShapesW (P : Program) : List TypeId → List T → Prop
  | [], xs => xs = []
  | t :: ts, xs => ∃ x xs', xs = x :: xs' ∧ (∃ n, ShapeW P n t x) ∧ ShapesW P ts xs'
theorem agg_no {P : Program} {w : World} {r : Reach} {base : Nat} {t : TypeId} {cs : Array Value} (h : Value.okWide P w r base t (.agg cs)) : aggTy P t = true := by
  unfold Value.okWide at h
  unfold aggTy
  cases ht : P.underlying t with
  | none => simp [ht, Cell.okWide, Cell.ok] at h
  | some d => cases d <;> simp [ht, Cell.okWide, Cell.ok] at h ⊢
theorem agg_yes {P : Program} {w : World} {r : Reach} {base : Nat} {t : TypeId} {v : Value} (h : Value.okWide P w r base t v) (ha : aggTy P t = true) : ∃ cs, v = .agg cs := by
  unfold Value.okWide at h
  unfold aggTy at ha
  cases ht : P.underlying t with
  | none => rw [ht] at ha; cases ha
  | some d =>
    rw [ht] at h ha
    cases d <;> simp at ha <;> exact ⟨_, h.choose_spec.1⟩
theorem open_args {H : Type} {enc : TypeId × Value → H} {P : Program} {w : World} {r : Reach} {b0 base : Nat} {spare : Nat → Bool} {held : Bool} {L : List TypeId} (hT : typesOk P L = true) : ∀ (ts : List TypeId) (vs : List Value) (ds : List (DataW H)) (ps : List MemPlace), (∀ t ∈ ts, t ∈ L) →
    DataW.TrodAll enc P w base spare held ts vs ds ps → (∀ (j : Nat) t v, ts[j]? = some t → vs[j]? = some v → Value.okWide P w r b0 t v) → ∃ xs, ShapesW P ts xs ∧ RepL (E0 w noBan) true xs vs
  | [], vs, ds, ps, _, h, _ => by
    obtain ⟨rfl, rfl, rfl⟩ := trodAll_nil h
    exact ⟨[], rfl, by simp [RepL]⟩
  | t :: ts, vs, ds, ps, hL, h, hval => by
    obtain ⟨v, vs', d, ds', p, q, rfl, rfl, rfl, ⟨n, h1⟩, h2⟩ := trodAll_cons h
    obtain ⟨xs, h3, h4⟩ := open_args hT ts vs' ds' q (fun t ht => hL t (by simp [ht])) h2 fun j t v h1 h2 => hval (j + 1) t v (by simpa using h1) (by simpa using h2)
    obtain ⟨y, hy1, hy2, hy3, hy4⟩ := open_cells hT n t _ _ (hL t (by simp)) h1
    have hv := hval 0 t v rfl rfl
    refine ⟨y :: xs, ⟨y, xs, rfl, ⟨n, hy1⟩, h3⟩, ?_⟩
    simp only [RepL]
    refine ⟨v, vs', rfl, ?_, h4⟩
    rcases hy4 with ⟨ha, l, rfl⟩ | ⟨ha, hc, u, hu⟩
    · obtain ⟨cs, rfl⟩ := agg_yes hv ha
      simp only [Rep]
      exact ⟨cs, rfl, by simpa [T.cells, Value.cells] using hy2⟩
    · have hna : v.cells.toList = [v] := by
        cases v <;> first | rfl | (have := agg_no hv; rw [ha] at this; cases this)
      rw [hc, hna] at hy2
      simp only [RepL] at hy2
      obtain ⟨v', vs'', e, h5, _⟩ := hy2
      cases e
      exact h5
theorem carry_args {H : Type} {enc : TypeId × Value → H} {P : Program} {W W' : World} (hl : laidOutB P = true) (bel : Below W.heap.size W W') : ∀ (ts : List TypeId) (vs : List Value) (ds : List (DataW H)) (ps : List MemPlace), (∀ t ∈ ts, P.readableRec t = true ∧ t < P.types.size) →
    DataW.TrodAll enc P W 0 (fun _ => true) true ts vs ds ps → DataW.TrodAll enc P W' 0 (fun b => decide (b < W.heap.size)) true ts vs ds ps
  | [], vs, ds, ps, _, h => by
    obtain ⟨rfl, rfl, rfl⟩ := trodAll_nil h
    exact trodAll_mk0
  | t :: ts, vs, ds, ps, hr, h => by
    obtain ⟨v, vs', d, ds', p, q, rfl, rfl, rfl, h1, h2⟩ := trodAll_cons h
    refine trodAll_cons_mk (Below.trod hl (hr t (by simp)).1 (hr t (by simp)).2 h1 bel fun x hx => ?_) (carry_args hl bel ts vs' ds' q (fun t ht => hr t (by simp [ht])) h2)
    obtain ⟨n, hn⟩ := h1
    exact DataW.trod_lt n _ _ _ hn x hx
theorem trodAll_len {H : Type} {enc : TypeId × Value → H} {P : Program} {w : World} {base : Nat} {spare : Nat → Bool} {held : Bool} : ∀ {ts : List TypeId} {vs : List Value} {ds : List (DataW H)} {ps : List MemPlace}, DataW.TrodAll enc P w base spare held ts vs ds ps → ds.length = ts.length
  | [], _, _, _, h => by
    obtain ⟨rfl, rfl, _⟩ := trodAll_nil h
    rfl
  | _ :: _, _, _, _, h => by
    obtain ⟨v, vs1, d, ds1, a, b, rfl, rfl, rfl, _, h2⟩ := trodAll_cons h
    simp [trodAll_len h2]
theorem row_contract {P : Program} {f : FuncId} {fn : Func} {s : ChangeSpec} {ts : List TypeId} {tb : TypeId} {L : List TypeId}
    (hl : laidOutB P = true) (hT : typesOk P L = true) (hp : fn.params.toList = ts) (hr : (ts.all fun t => L.contains t && P.readableRec t && decide (t < P.types.size)) = true)
    (hres : fn.resultTypes = #[tb]) (htb : P.underlying tb = some .bool) (hvars : s.vars = [])
    (hs : ∀ (H : Type) (ds : List (DataW H)), ds.length = ts.length → s.fn H ds = { results := [.lit (.bool true)], args := ds })
    (hlaw : ∀ xs, ShapesW P ts xs → FnC P f xs (.imm (.bool true)))
    {H : Type} {enc : TypeId × Value → H} (W : World) (hgi : GI W) (base : Nat) (args : Array Value) (ds gs : List (DataW H)) (before : List MemPlace)
    (hval : ∀ (j : Nat) t v, fn.params[j]? = some t → args[j]? = some v → Value.okWide P W .any base t v) (hW : DataW.Whole enc P fn.params.toList s.vars false W args.toList ds gs before) :
    Calls P f args W fun e W' => ∃ v, e = .returned v ∧ s.post enc P fn false true false false W args v W' := by
  have hW' := hW
  obtain ⟨p, q, hA, hV, rfl, hfz, hnd⟩ := hW
  rw [hvars] at hV
  obtain ⟨rfl, rfl⟩ := trodVars_none hV
  rw [hp] at hA
  have hr' : ∀ t ∈ ts, t ∈ L ∧ P.readableRec t = true ∧ t < P.types.size := fun t ht => by
    have := List.all_eq_true.1 hr t ht
    simp only [Bool.and_eq_true, List.contains_iff_mem, decide_eq_true_eq] at this
    exact ⟨this.1.1, this.1.2, this.2⟩
  obtain ⟨xs, h1, h2⟩ := open_args (r := .any) (b0 := base) hT ts args.toList ds p (fun t ht => (hr' t ht).1) hA fun j t v h1 h2 => hval j t v (by rw [← hp] at h1; simpa using h1) (by simpa using h2)
  have hlen : ds.length = ts.length := trodAll_len hA
  refine ((hlaw xs h1).2 W noBan args (fun _ _ h => h.elim) hgi h2).mono fun e W' ⟨u, he, bel, hu⟩ => ?_
  simp only [Rep, flat, and_true] at hu
  subst hu; subst he
  refine ⟨_, rfl, ds, [], p ++ [], [], p, [], hW', ?_, ?_, ?_, bel.frame _, fun h => by cases h⟩
  · rw [List.append_nil, hs H ds hlen, hres]
    have : (Value.bool true).resultList (#[tb] : Array TypeId).size = [.bool true] := by simp [Value.resultList]
    rw [this]
    exact trodAll_mk1 (shut_bool htb _)
  · rw [List.append_nil, hs H ds hlen, hp]
    exact carry_args hl bel ts _ _ _ (fun t ht => (hr' t ht).2) hA
  · rw [List.append_nil, hs H ds hlen, hvars]
    rfl
end Go.Proofs.YtdaojihnaajfeaaX

/- What an operation answers is one thing. Of no program. -/
set_option linter.unusedVariables false
set_option linter.unusedSimpArgs false
namespace Go.Proofs.YtdaojihnaajfeaaX
open Go Go.RowKit
theorem partW_split (P : Program) (t : TypeId) (l : List T) (off : Nat) {K : T → Prop} (h : partW P t l off K) : ∃ v, K v ∧ ∀ K' : T → Prop, K' v → partW P t l off K' := by
  unfold partW at h ⊢
  repeat' (first | (obtain ⟨_, h⟩ := h) | split at h)
  all_goals first | exact h.elim | exact ⟨_, h, fun K' hk => by simp_all⟩
theorem extractW_split (x : T) (i : Nat) {K : T → Prop} (h : extractW x i K) : ∃ v, K v ∧ ∀ K' : T → Prop, K' v → extractW x i K' := by
  unfold extractW at h ⊢
  repeat' (first | (obtain ⟨_, h⟩ := h) | split at h)
  all_goals first | exact h.elim | exact ⟨_, h, fun K' hk => by simp_all⟩
theorem unW_split (op : UnOp) (x : T) {K : T → Prop} (h : unW op x K) : ∃ v, K v ∧ ∀ K' : T → Prop, K' v → unW op x K' := by
  unfold unW at h ⊢
  repeat' (first | (obtain ⟨_, h⟩ := h) | split at h)
  all_goals first | exact h.elim | exact ⟨_, h, fun K' hk => by simp_all⟩
theorem loadP_split (P : Program) (t : TypeId) (x : T) (c : Nat) {K : T → Prop} (h : loadP P t x c K) : ∃ v, K v ∧ ∀ K' : T → Prop, K' v → loadP P t x c K' := by
  unfold loadP at h ⊢
  repeat' (first | (obtain ⟨_, h⟩ := h) | split at h)
  all_goals first | exact h.elim | exact ⟨_, h, fun K' hk => by simp_all⟩
theorem indexAddrW_split (P : Program) (t : TypeId) (x i : T) {K : T → Prop} (h : indexAddrW P t x i K) : ∃ v, K v ∧ ∀ K' : T → Prop, K' v → indexAddrW P t x i K' := by
  unfold indexAddrW at h ⊢
  repeat' (first | (obtain ⟨_, h⟩ := h) | split at h)
  all_goals first | exact h.elim | exact ⟨_, h, fun K' hk => by simp_all⟩
theorem endsW_split (lo hi : Option T) (len : Nat) {K : Nat → Nat → Prop} (h : endsW lo hi len K) : ∃ l r, K l r ∧ ∀ K' : Nat → Nat → Prop, K' l r → endsW lo hi len K' := by
  unfold endsW at h ⊢
  repeat' (first | (obtain ⟨_, h⟩ := h) | split at h)
  all_goals first | exact h.elim | exact ⟨_, _, h, fun K' hk => by simp_all⟩
theorem elemsW_split (x : T) (look : Nat → Option Own) {K : Nat → List T → Prop} (h : elemsW x look K) : ∃ n l, K n l ∧ ∀ K' : Nat → List T → Prop, K' n l → elemsW x look K' := by
  unfold elemsW at h ⊢
  repeat' (first | (obtain ⟨_, h⟩ := h) | split at h)
  all_goals first | exact h.elim | exact ⟨_, _, h, fun K' hk => by simp_all⟩
theorem buildW_split (P : Program) (t : TypeId) (parts : List (Nat × T)) {K : T → Prop} (h : buildW P t parts K) : ∃ v, K v ∧ ∀ K' : T → Prop, K' v → buildW P t parts K' := by
  unfold buildW at h ⊢
  repeat' (first | (obtain ⟨_, h⟩ := h) | split at h)
  all_goals first | exact h.elim | exact ⟨_, h, fun K' hk => by simp_all⟩
theorem buildSliceW_split (P : Program) (t : TypeId) (n : Nat) (parts : List (Nat × T)) {K : T → Prop} (h : buildSliceW P t n parts K) : ∃ v, K v ∧ ∀ K' : T → Prop, K' v → buildSliceW P t n parts K' := by
  unfold buildSliceW at h ⊢
  repeat' (first | (obtain ⟨_, h⟩ := h) | split at h)
  all_goals first | exact h.elim | exact ⟨_, h, fun K' hk => by simp_all⟩
theorem buildSliceX_split (P : Program) (k : Nat) (t : TypeId) (n : Nat) (parts : List (Nat × T)) {K : T → Eff → Prop} (h : buildSliceX P k t n parts K) : ∃ v e, K v e ∧ ∀ K' : T → Eff → Prop, K' v e → buildSliceX P k t n parts K' := by
  rcases h with h | ⟨e, sz, l, lk, hlk, hu, h, hK⟩
  · obtain ⟨v, h1, h2⟩ := buildSliceW_split _ _ _ _ h
    exact ⟨v, .none, h1, fun K' hk => .inl (h2 (K' · .none) hk)⟩
  · exact ⟨_, _, hK, fun K' hk => .inr ⟨e, sz, l, lk, hlk, hu, h, hk⟩⟩
theorem makeW_split (P : Program) (k : Nat) (t : TypeId) (x y : T) {K : T → Eff → Prop} (h : makeW P k t x y K) : ∃ v e, K v e ∧ ∀ K' : T → Eff → Prop, K' v e → makeW P k t x y K' := by
  unfold makeW at h ⊢
  repeat' (first | (obtain ⟨_, h⟩ := h) | split at h)
  all_goals first | exact h.elim | exact ⟨_, _, h, fun K' hk => by simp_all⟩
theorem storeW_split (P : Program) (t : TypeId) (a y : T) (look : Nat → Option Own) {K : T → Eff → Prop} (h : storeW P t a y look K) : ∃ v e, K v e ∧ ∀ K' : T → Eff → Prop, K' v e → storeW P t a y look K' := by
  unfold storeW at h ⊢
  repeat' (first | (obtain ⟨_, h⟩ := h) | split at h)
  all_goals first | exact h.elim | exact ⟨_, _, h, fun K' hk => by simp_all⟩
theorem fieldAddrW_split (P : Program) (t : TypeId) (x : T) (f : Nat) {K : T → Prop} (h : fieldAddrW P t x f K) : ∃ v, K v ∧ ∀ K' : T → Prop, K' v → fieldAddrW P t x f K' := by
  unfold fieldAddrW at h ⊢
  repeat' (first | (obtain ⟨_, h⟩ := h) | split at h)
  all_goals first | exact h.elim | exact ⟨_, h, fun K' hk => by simp_all⟩
theorem nilW_split (x : T) {K : T → Eff → Prop} (h : nilW x K) : ∃ v e, K v e ∧ ∀ K' : T → Eff → Prop, K' v e → nilW x K' := by
  unfold nilW at h ⊢
  repeat' (first | (obtain ⟨_, h⟩ := h) | split at h)
  all_goals first | exact h.elim | exact ⟨_, _, h, fun K' hk => by simp_all⟩
theorem lenW_split (P : Program) (t : TypeId) (x : T) {K : T → Prop} (h : lenW P t x K) : ∃ v, K v ∧ ∀ K' : T → Prop, K' v → lenW P t x K' := by
  unfold lenW at h ⊢
  repeat' (first | (obtain ⟨_, h⟩ := h) | split at h)
  all_goals first | exact h.elim | exact ⟨_, h, fun K' hk => by simp_all⟩
theorem min2W_split (x y : T) {K : T → Prop} (h : min2W x y K) : ∃ v, K v ∧ ∀ K' : T → Prop, K' v → min2W x y K' := by
  unfold min2W at h ⊢
  split at h
  · exact ⟨_, h, fun K' hk => hk⟩
  · exact h.elim
theorem max2W_split (x y : T) {K : T → Prop} (h : max2W x y K) : ∃ v, K v ∧ ∀ K' : T → Prop, K' v → max2W x y K' := by
  unfold max2W at h ⊢
  split at h
  · exact ⟨_, h, fun K' hk => hk⟩
  · exact h.elim
theorem ifaceW_split (P : Program) (t : TypeId) (x : T) {K : T → Eff → Prop} (h : ifaceW P t x K) : ∃ v e, K v e ∧ ∀ K' : T → Eff → Prop, K' v e → ifaceW P t x K' := by
  unfold ifaceW at h ⊢
  repeat' (first | (obtain ⟨_, h⟩ := h) | split at h)
  all_goals first | exact h.elim | exact ⟨_, _, h, fun K' hk => by simp_all⟩
theorem pickW_split (c x y : T) {K : T → Eff → Prop} (h : pickW c x y K) : ∃ v e, K v e ∧ ∀ K' : T → Eff → Prop, K' v e → pickW c x y K' := by
  unfold pickW at h ⊢
  split at h
  · rename_i b
    cases b with
    | true => exact ⟨_, _, h.1 rfl, fun K' hk => ⟨fun _ => hk, fun e => by cases e⟩⟩
    | false => exact ⟨_, _, h.2 rfl, fun K' hk => ⟨fun e => absurd e (by simp), fun _ => hk⟩⟩
  · exact h.elim
theorem intW_split (op : BinOp) (k : IntKind) (x y : Int) {K : T → Prop} (h : intW op k x y K) : ∃ v, K v ∧ ∀ K' : T → Prop, K' v → intW op k x y K' := by
  unfold intW at h ⊢
  cases op <;> simp only at h ⊢ <;> first | exact h.elim | exact ⟨_, h, fun K' hk => hk⟩ | exact ⟨_, h.2, fun K' hk => ⟨h.1, hk⟩⟩
theorem strW_split (op : BinOp) (x y : ByteArray) {K : T → Prop} (h : strW op x y K) : ∃ v, K v ∧ ∀ K' : T → Prop, K' v → strW op x y K' := by
  unfold strW at h ⊢
  cases op <;> simp only at h ⊢ <;> first | exact h.elim | exact ⟨_, h, fun K' hk => hk⟩ | exact ⟨_, h.2, fun K' hk => ⟨h.1, hk⟩⟩
theorem fieldW_split (P : Program) (t : TypeId) (x : T) (f : Nat) {K : T → Prop} (h : fieldW P t x f K) : ∃ v, K v ∧ ∀ K' : T → Prop, K' v → fieldW P t x f K' := by
  unfold fieldW at h ⊢
  split at h
  · split at h
    · obtain ⟨v, h1, h2⟩ := partW_split _ _ _ _ h
      exact ⟨v, h1, fun K' hk => by have := h2 K' hk; simp_all⟩
    · exact h.elim
  · exact h.elim
theorem indexW_split (P : Program) (t : TypeId) (x i : T) {K : T → Prop} (h : indexW P t x i K) : ∃ v, K v ∧ ∀ K' : T → Prop, K' v → indexW P t x i K' := by
  unfold indexW at h ⊢
  split at h
  · obtain ⟨h1, h2, h3, h4⟩ := h
    exact ⟨_, h4, fun K' hk => ⟨h1, h2, h3, hk⟩⟩
  · split at h
    · rename_i n e ht
      obtain ⟨h1, h2, h3, h4⟩ := h
      obtain ⟨v, h5, h6⟩ := partW_split _ _ _ _ h4
      exact ⟨v, h5, fun K' hk => ⟨h1, h2, h3, h6 K' hk⟩⟩
    · exact h.elim
  · exact h.elim
theorem loadW_split (P : Program) (t : TypeId) (a : T) (look : Nat → Option Own) {K : T → Prop} (h : loadW P t a look K) : ∃ v, K v ∧ ∀ K' : T → Prop, K' v → loadW P t a look K' := by
  unfold loadW at h ⊢
  split at h
  · split at h
    · rename_i hl
      obtain ⟨h1, h2⟩ := h
      obtain ⟨v, h5, h6⟩ := loadP_split _ _ _ _ h2
      exact ⟨v, h5, fun K' hk => ⟨h1, h6 K' hk⟩⟩
    · rename_i hl
      obtain ⟨h1, h2, h3, h4⟩ := h
      obtain ⟨v, h5, h6⟩ := loadP_split _ _ _ _ h4
      exact ⟨v, h5, fun K' hk => ⟨h1, h2, h3, h6 K' hk⟩⟩
    · exact h.elim
  · obtain ⟨h1, h2⟩ := h
    obtain ⟨v, h5, h6⟩ := loadP_split _ _ _ _ h2
    exact ⟨v, h5, fun K' hk => ⟨h1, h6 K' hk⟩⟩
  · exact h.elim
theorem sliceW_split (P : Program) (t : TypeId) (x : T) (lo hi : Option T) (look : Nat → Option Own) {K : T → Prop} (h : sliceW P t x lo hi look K) : ∃ v, K v ∧ ∀ K' : T → Prop, K' v → sliceW P t x lo hi look K' := by
  unfold sliceW at h ⊢
  split at h
  · obtain ⟨h1, h2, h3, h4, h5, h6, h⟩ := h
    exact ⟨_, h, fun K' hk => ⟨h1, h2, h3, h4, h5, h6, hk⟩⟩
  · obtain ⟨h1, h2, h3, h4, h5, h⟩ := h
    split at h
    · exact ⟨_, h.2, fun K' hk => ⟨h1, h2, h3, h4, h5, h.1, hk⟩⟩
    · exact h.elim
  · rename_i ht
    obtain ⟨l, r, h1, h2⟩ := endsW_split _ _ _ h
    exact ⟨_, h1, fun K' hk => h2 (fun l r => K' _) hk⟩
  · rename_i ht
    obtain ⟨h3, h4, h⟩ := h
    obtain ⟨l, r, h1, h2⟩ := endsW_split _ _ _ h
    exact ⟨_, h1, fun K' hk => ⟨h3, h4, h2 (fun l r => K' _) hk⟩⟩
  · rename_i ht
    obtain ⟨h3, h4, h⟩ := h
    obtain ⟨l, r, h1, h2⟩ := endsW_split _ _ _ h
    exact ⟨_, h1, fun K' hk => ⟨h3, h4, h2 (fun l r => K' _) hk⟩⟩
  · exact h.elim
theorem convertW_split (P : Program) (k : Nat) (src dst : TypeId) (x : T) (look : Nat → Option Own) {K : T → Eff → Prop} (h : convertW P k src dst x look K) : ∃ v e, K v e ∧ ∀ K' : T → Eff → Prop, K' v e → convertW P k src dst x look K' := by
  unfold convertW at h ⊢
  split at h
  · rename_i h1 h2; exact ⟨_, _, h, fun K' hk => hk⟩
  · rename_i h1 h2; exact ⟨_, _, h, fun K' hk => hk⟩
  · rename_i h1 h2; exact ⟨_, _, h.2, fun K' hk => ⟨h.1, hk⟩⟩
  · rename_i h1 h2
    obtain ⟨h3, h⟩ := h
    obtain ⟨n, l, ⟨h4, h5, h6⟩, h7⟩ := elemsW_split _ _ h
    exact ⟨_, _, h6, fun K' hk => ⟨h3, h7 (fun sz l => sz = 1 ∧ (∀ y ∈ l, isByte y = true) ∧ K' (.imm (.string (strT l))) .none) ⟨h4, h5, hk⟩⟩⟩
  · rename_i h1 h2
    obtain ⟨h3, h4, h5, h⟩ := h
    split at h
    · rename_i h6
      exact ⟨_, _, h, fun K' hk => ⟨h3, h4, h5, hk⟩⟩
    · exact h.elim
  · exact h.elim
theorem newsW_split (P : Program) (xT : TypeId) (x : T) (look : Nat → Option Own) {K : Nat → List T → Prop} (h : newsW P xT x look K) : ∃ n l, K n l ∧ ∀ K' : Nat → List T → Prop, K' n l → newsW P xT x look K' := by
  unfold newsW at h ⊢
  split at h
  · rename_i h1; exact ⟨_, _, h, fun K' hk => hk⟩
  · rename_i h1
    obtain ⟨n, l, h2, h3⟩ := elemsW_split _ _ h
    exact ⟨n, l, h2, fun K' hk => h3 K' hk⟩
  · exact h.elim
theorem appendW_split (P : Program) (k : Nat) (sT xT : TypeId) (s x : T) (look : Nat → Option Own) {K : T → Eff → Prop} (h : appendW P k sT xT s x look K) : ∃ v e, K v e ∧ ∀ K' : T → Eff → Prop, K' v e → appendW P k sT xT s x look K' := by
  unfold appendW at h ⊢
  split at h
  · rename_i e ht
    obtain ⟨h1, h2, h3, h4, h⟩ := h
    obtain ⟨n, l, ⟨h5, h⟩, h7⟩ := newsW_split _ _ _ _ h
    split at h
    · obtain ⟨h8, h9, h10, h⟩ := h
      exact ⟨_, _, h, fun K' hk => ⟨h1, h2, h3, h4, h7 _ ⟨h5, h8, h9, h10, hk⟩⟩⟩
    · split at h
      · rename_i hl
        obtain ⟨h8, h9, h10, h11, h12, h13, h14, h⟩ := h
        exact ⟨_, _, h, fun K' hk => ⟨h1, h2, h3, h4, h7 _ ⟨h5, ⟨h8, h9, h10, h11, h12, h13, h14, hk⟩⟩⟩⟩
      · exact h.elim
    · exact h.elim
  · exact h.elim
theorem binW_split (P : Program) (t : TypeId) (op : BinOp) (x y : T) {K : T → Prop} (h : binW P t op x y K) : ∃ v, K v ∧ ∀ K' : T → Prop, K' v → binW P t op x y K' := by
  unfold binW at h ⊢
  split at h
  · unfold binV at h ⊢
    split at h
    · split at h
      · exact ⟨_, h.2, fun K' hk => ⟨h.1, hk⟩⟩
      · exact ⟨_, h.2, fun K' hk => ⟨h.1, hk⟩⟩
      · rename_i n1 n2
        obtain ⟨v, h1, h2⟩ := intW_split _ _ _ _ h.2
        refine ⟨v, h1, fun K' hk => ?_⟩
        have := h2 K' hk
        cases op <;> first | exact ⟨h.1, this⟩ | exact absurd rfl (by assumption) | simp_all
    · obtain ⟨v, h1, h2⟩ := strW_split _ _ _ h
      exact ⟨v, h1, h2⟩
    · obtain ⟨h1, h⟩ := h
      cases op <;> simp only at h ⊢ <;> first | exact h.elim | exact ⟨_, h, fun K' hk => ⟨h1, hk⟩⟩
    · exact h.elim
  · exact h.elim
theorem binXW_split (P : Program) (t : TypeId) (op : BinOp) (x y : T) {K : T → Prop} (h : binXW P t op x y K) : ∃ v, K v ∧ ∀ K' : T → Prop, K' v → binXW P t op x y K' := by
  have ps : ∀ (t : TypeId) (l : List T) (off : Nat) (K : T → Prop), partW P t l off K → ∃ v, K v ∧ ∀ K' : T → Prop, K' v → partW P t l off K' := fun t l off K h => partW_split P t l off h
  unfold binXW at h ⊢
  split at h
  · split at h
    · obtain ⟨b, h1, h2⟩ := eqW_split ps _ _ _ _ _ h.2
      exact ⟨_, h1, fun K' hk => ⟨h.1, h2 _ hk⟩⟩
    · obtain ⟨b, h1, h2⟩ := eqW_split ps _ _ _ _ _ h.2
      exact ⟨_, h1, fun K' hk => ⟨h.1, h2 _ hk⟩⟩
    · exact h.elim
  · exact binW_split P t op (.imm _) (.imm _) h
  · exact h.elim
theorem callW_split (P : Program) (fn : T) (args : List T) (look : Nat → Option Own) {K : T → Eff → Prop} (h : callW P fn args look K) : ∃ v e, K v e ∧ ∀ K' : T → Eff → Prop, K' v e → callW P fn args look K' := by
  unfold callW at h ⊢
  split at h
  · obtain ⟨h1, r, h2, h3⟩ := h
    exact ⟨r, _, h3, fun K' hk => ⟨h1, r, h2, hk⟩⟩
  · exact h.elim
theorem callRW_split (P : Program) (fn : T) (args : List T) (look : Nat → Option Own) {K : T → Eff → Prop} (h : callRW P fn args look K) : ∃ v e, K v e ∧ ∀ K' : T → Eff → Prop, K' v e → callRW P fn args look K' := by
  unfold callRW at h ⊢
  split at h
  · rcases h with h | h
    · obtain ⟨σ, objs, args', res, objs', h1, h2, h3, h4, h5⟩ := h
      exact ⟨_, _, h5, fun K' hk => .inl ⟨σ, objs, args', res, objs', h1, h2, h3, h4, hk⟩⟩
    · rcases h with h | h
      · obtain ⟨o, t, sz, l, lk, h1, h2, r, h3, h4⟩ := h
        exact ⟨_, _, h4, fun K' hk => .inr (.inl ⟨o, t, sz, l, lk, h1, h2, r, h3, hk⟩)⟩
      · obtain ⟨o, t, sz, l, l', more, h1, h2, h3, h4⟩ := h
        exact ⟨_, _, h4, fun K' hk => .inr (.inr ⟨o, t, sz, l, l', more, h1, h2, h3, hk⟩)⟩
  · exact h.elim
theorem arrPW_split (P : Program) (t : TypeId) (x : T) {K : T → Prop} (h : arrPW P t x K) : ∃ v, K v ∧ ∀ K' : T → Prop, K' v → arrPW P t x K' := by
  unfold arrPW at h ⊢
  split at h
  · obtain ⟨h1, h2, h3, h4, h⟩ := h
    exact ⟨_, h, fun K' hk => ⟨h1, h2, h3, h4, hk⟩⟩
  · exact h.elim
theorem copyW_split (P : Program) (t u : TypeId) (s x : T) (look : Nat → Option Own) {K : T → Eff → Prop} (h : copyW P t u s x look K) : ∃ v e, K v e ∧ ∀ K' : T → Eff → Prop, K' v e → copyW P t u s x look K' := by
  unfold copyW at h ⊢
  split at h
  · obtain ⟨h1, h2, h⟩ := h
    obtain ⟨n, l, ⟨h3, h4, h⟩, h5⟩ := newsW_split _ _ _ _ h
    split at h
    · rename_i bt l' hlk
      exact ⟨_, _, h.2.2, fun K' hk => ⟨h1, h2, h5 _ ⟨h3, h4, h.1, h.2.1, hk⟩⟩⟩
    · exact h.elim
  · exact h.elim
theorem builtinW_split (P : Program) (k : Nat) (b : Builtin) (ts : Array TypeId) (args : List T) (look : Nat → Option Own) {K : T → Eff → Prop} (h : builtinW P k b ts args look K) : ∃ v e, K v e ∧ ∀ K' : T → Eff → Prop, K' v e → builtinW P k b ts args look K' := by
  unfold builtinW at h ⊢
  split at h
  · rename_i ht
    obtain ⟨v, h1, h2⟩ := lenW_split _ _ _ h
    exact ⟨v, _, h1, fun K' hk => h2 _ hk⟩
  · rename_i ht
    obtain ⟨v, e, h1, h2⟩ := appendW_split _ _ _ _ _ _ _ h
    exact ⟨v, e, h1, fun K' hk => h2 _ hk⟩
  · obtain ⟨v, e, h1, h2⟩ := copyW_split _ _ _ _ _ _ h
    exact ⟨v, e, h1, fun K' hk => h2 _ hk⟩
  · obtain ⟨v, h1, h2⟩ := min2W_split _ _ h
    exact ⟨v, _, h1, fun K' hk => h2 _ hk⟩
  · obtain ⟨v, h1, h2⟩ := max2W_split _ _ h
    exact ⟨v, _, h1, fun K' hk => h2 _ hk⟩
  · exact h.elim
theorem opW_split (P : Program) (k : Nat) (op : Op) (ρ : Operand → T) (look : Nat → Option Own) {K : T → Eff → Prop} (h : opW P k op ρ look K) : ∃ v e, K v e ∧ ∀ K' : T → Eff → Prop, K' v e → opW P k op ρ look K' := by
  have lift : ∀ {A : (T → Prop) → Prop}, (∃ v, K v .none ∧ ∀ K' : T → Prop, K' v → A K') → ∃ v e, K v e ∧ ∀ K' : T → Eff → Prop, K' v e → A (K' · .none) := fun ⟨v, h1, h2⟩ => ⟨v, .none, h1, fun K' hk => h2 _ hk⟩
  unfold opW at h ⊢
  split at h
  · exact ⟨_, _, h, fun K' hk => hk⟩
  · exact ⟨_, _, h, fun K' hk => hk⟩
  · exact pickW_split _ _ _ h
  · exact ⟨_, _, h.2, fun K' hk => ⟨h.1, hk⟩⟩
  · exact ⟨_, _, h.2.2, fun K' hk => ⟨h.1, h.2.1, hk⟩⟩
  · exact lift (buildW_split _ _ _ h)
  · exact buildSliceX_split _ _ _ _ _ h
  · exact lift (loadW_split _ _ _ _ h)
  · exact storeW_split _ _ _ _ _ h
  · exact nilW_split _ h
  · exact lift (binXW_split _ _ _ _ _ h)
  · exact lift (unW_split _ _ h)
  · exact convertW_split _ _ _ _ _ _ h
  · exact ifaceW_split _ _ _ h
  · exact ⟨_, _, h.2, fun K' hk => ⟨h.1, hk⟩⟩
  · exact makeW_split _ _ _ _ _ h
  · exact lift (sliceW_split _ _ _ _ _ _ h)
  · exact lift (arrPW_split _ _ _ h)
  · exact lift (fieldAddrW_split _ _ _ _ h)
  · exact lift (fieldW_split _ _ _ _ h)
  · exact lift (indexAddrW_split _ _ _ _ h)
  · exact lift (indexW_split _ _ _ _ h)
  · exact lift (extractW_split _ _ h)
  · rcases h with h | h
    · obtain ⟨v, e, h1, h2⟩ := callW_split _ _ _ _ h
      exact ⟨v, e, h1, fun K' hk => .inl (h2 K' hk)⟩
    · obtain ⟨v, e, h1, h2⟩ := callRW_split _ _ _ _ h
      exact ⟨v, e, h1, fun K' hk => .inr (h2 K' hk)⟩
  · exact builtinW_split _ _ _ _ _ _ h
  · exact h.elim
end Go.Proofs.YtdaojihnaajfeaaX

/- Code in one go, its operations without what a run does not ask. Of no program. -/
set_option linter.unusedVariables false
set_option linter.unusedSimpArgs false
namespace Go.Proofs.YtdaojihnaajfeaaX
open Go Go.RowKit
def gL (ds : List (Option Tmp)) : Option (Nat × Bool) → Option (Option Tmp × Bool)
  | none => none
  | some (j, w) => some (ds.getD j none, w)
def liteL (ds : List (Option Tmp)) : List Oper → List (Op × Option Tmp × Option (Option Tmp × Bool))
  | [] => []
  | o :: l => (o.op, o.dst, gL ds o.guard) :: liteL ds l
def dstsL : List Oper → List (Option Tmp)
  | [] => []
  | o :: l => o.dst :: dstsL l
def boolW (b : Bool) (A B : Prop) : Prop := (b = true → A) ∧ (b = false → B)
def St.is (S : St) (d : Tmp) (b : Bool) : St := ⟨S.tmps.set d (.imm (.bool b)), S.objs⟩
def guardL (S : St) (g : Option (Option Tmp × Bool)) (Kt Kf : St → Prop) : Prop :=
  match g with
  | none => Kt S
  | some (none, _) => False
  | some (some d, true) => (match S.tmps.getD d .junk with
    | .imm (.bool b) => boolW b (Kt (S.is d true)) (Kf (S.is d false))
    | .tup l => l = [] ∧ Kf S
    | _ => False)
  | some (some d, false) => (match S.tmps.getD d .junk with
    | .imm (.bool b) => boolW b (Kf (S.is d true)) (Kt (S.is d false))
    | .tup l => l = [] ∧ Kf S
    | _ => False)
def stepsL (P : Program) : List (Op × Option Tmp × Option (Option Tmp × Bool)) → St → (St → Prop) → Prop
  | [], S, K => K S
  | (op, dst, g) :: rest, S, K => guardL S g (fun S => opW P S.objs.length op (evalT S) (lookS S) fun v eff => stepsL P rest ((S.after eff).put dst v) K) (fun S => stepsL P rest (S.put dst (.tup [])) K)
def drawL (P : Program) : List (Op × Option Tmp × Option (Option Tmp × Bool)) → Nat → Nat → St → (St → Prop) → Prop
  | [], _, _, S, K => K S
  | (op, dst, g) :: rest, b, k, S, K => guardL S g (fun S => ∃ v eff, (opW P k op (evalT S) (fun i => if eOp op = true ∨ i < b then lookS S i else none) fun v' e' => v' = v ∧ e' = eff) ∧ (quietE eff || (eOp op && effB k eff)) = true ∧ drawL P rest (if eOp op = true then k + 1 else b) (k + 1) ((S.eff k eff).put dst v) K) (fun S => drawL P rest (if eOp op = true then k + 1 else b) (k + 1) (S.put dst (.tup [])) K)
theorem St.is_self {S : St} {d : Tmp} {b : Bool} (h : S.tmps.getD d .junk = .imm (.bool b)) : S.is d b = S := by
  obtain ⟨l, o⟩ := S
  have h : l.getD d .junk = .imm (.bool b) := h
  have hl : d < l.length := by
    rw [List.getD_eq_getElem?_getD] at h
    cases hd : l[d]? with
    | none => rw [hd] at h; cases h
    | some x => exact (List.getElem?_eq_some_iff.1 hd).1
  show St.mk (l.set d (.imm (.bool b))) o = St.mk l o
  congr 1
  rw [List.getD_eq_getElem?_getD, List.getElem?_eq_getElem hl] at h
  have h : l[d] = .imm (.bool b) := h
  rw [← h]; exact List.set_getElem_self hl
theorem dstsL_get : ∀ (l : List Oper) (j : Nat), (dstsL l).getD j none = (l[j]?).bind (·.dst)
  | [], j => by simp [dstsL]
  | o :: l, j => by
    cases j with
    | zero => simp [dstsL]
    | succ j => simpa [dstsL] using dstsL_get l j
theorem guardL_eq (ops : Array Oper) (S : St) (o : Oper) (Kt Kf : St → Prop) : guardW ops S o (Kt S) (Kf S) = guardL S (gL (dstsL ops.toList) o.guard) Kt Kf := by
  unfold guardW
  cases hg : o.guard with
  | none => rfl
  | some p =>
    obtain ⟨j, w⟩ := p
    simp only [gL, dstsL_get, Array.getElem?_toList]
    cases h : (ops[j]?).bind (·.dst) with
    | none => rfl
    | some d =>
      have hg' := List.getD_eq_getElem?_getD (l := S.tmps) (i := d) (a := T.junk)
      cases hv : S.tmps.getD d .junk with
      | imm v =>
        rw [hv] at hg'
        cases v with
        | bool b =>
          cases b <;> cases w <;> simp [guardL, ← hg', boolW, St.is_self hv]
        | _ => cases w <;> simp [guardL, ← hg']
      | _ => rw [hv] at hg'; cases w <;> simp [guardL, ← hg']
theorem stepsL_eq (P : Program) (ops : Array Oper) : ∀ (l : List Oper) (S : St) (K : St → Prop), stepsW P ops l S K = stepsL P (liteL (dstsL ops.toList) l) S K
  | [], S, K => rfl
  | o :: l, S, K => by
    unfold stepsW
    simp only [liteL, stepsL, stepsL_eq P ops l]
    exact guardL_eq ops S o (fun S => opW P S.objs.length o.op (evalT S) (lookS S) fun v eff => stepsL P (liteL (dstsL ops.toList) l) ((S.after eff).put o.dst v) K) (fun S => stepsL P (liteL (dstsL ops.toList) l) (S.put o.dst (.tup [])) K)
theorem drawL_eq (P : Program) (ops : Array Oper) : ∀ (l : List Oper) (b k : Nat) (S : St) (K : St → Prop), drawW P ops l b k S K = drawL P (liteL (dstsL ops.toList) l) b k S K
  | [], b, k, S, K => rfl
  | o :: l, b, k, S, K => by
    unfold drawW
    simp only [liteL, drawL, drawL_eq P ops l]
    exact guardL_eq ops S o (fun S => ∃ v eff, (opW P k o.op (evalT S) (fun i => if eOp o.op = true ∨ i < b then lookS S i else none) fun v' e' => v' = v ∧ e' = eff) ∧ (quietE eff || (eOp o.op && effB k eff)) = true ∧ drawL P (liteL (dstsL ops.toList) l) (if eOp o.op = true then k + 1 else b) (k + 1) ((S.eff k eff).put o.dst v) K) (fun S => drawL P (liteL (dstsL ops.toList) l) (if eOp o.op = true then k + 1 else b) (k + 1) (S.put o.dst (.tup [])) K)
/-! ### The same, with what comes behind as data -/
inductive Kn where
  | q
  | seq (c : Code) (k : Kn)
  | blk (id : Nat) (k : Kn)
  | lp (c : Code) (n : Nat) (k : Kn)
  | scp (k : Kn)
def rounds (P : Program) (c : Code) (Q : Exit → St → Prop) : Nat → St → Prop
  | 0, _ => False
  | n + 1, S => wpC P c S (thenQ (rounds P c Q n) Q)
def contK (P : Program) (Q : Exit → St → Prop) : Kn → Exit → St → Prop
  | .q => Q
  | .seq c k => thenQ (fun S' => wpC P c S' (contK P Q k)) (contK P Q k)
  | .blk id k => blockQ id (contK P Q k)
  | .lp c n k => thenQ (rounds P c (contK P Q k) n) (contK P Q k)
  | .scp k => contK P Q k
def endK (P : Program) (Q : Exit → St → Prop) (e : Exit) (S : St) (k : Kn) : Prop := contK P Q k e S
def runK (P : Program) (Q : Exit → St → Prop) (c : Code) (S : St) (k : Kn) : Prop := wpC P c S (contK P Q k)
def stepsK (P : Program) (Q : Exit → St → Prop) (l : List (Op × Option Tmp × Option (Option Tmp × Bool))) (S : St) (k : Kn) : Prop := stepsL P l S (contK P Q k .normal)
def drawK (P : Program) (Q : Exit → St → Prop) (l : List (Op × Option Tmp × Option (Option Tmp × Bool))) (b n : Nat) (S : St) (k : Kn) : Prop := drawL P l b n S fun S => contK P Q k .normal ⟨S.tmps, trims S.objs⟩
def rootsK (S : St) (ts : List Tmp) : St := ts.foldl (fun S t => S.frzR t) S
theorem rootsK_nil (S : St) : rootsK S [] = S := rfl
theorem rootsK_cons (S : St) (t : Tmp) (ts : List Tmp) : rootsK S (t :: ts) = rootsK (S.frzR t) ts := rfl
section
variable (P : Program) (Q : Exit → St → Prop) (S : St) (k : Kn)
theorem endK_q (e : Exit) : endK P Q e S .q = Q e S := rfl
theorem runK_region (id : Nat) (l : List Oper) : runK P Q (.region id ⟨l⟩ false) S k = stepsK P Q (liteL (dstsL l) l) (rootsK S (rootsOf l)) k := by
  show stepsW P ⟨l⟩ l (S.roots l) _ = _
  rw [stepsL_eq]; rfl
theorem runK_draw (id : Nat) (l : List Oper) : runK P Q (.region id ⟨l⟩ true) S k = drawK P Q (liteL (dstsL l) l) (rootsK S (rootsOf l)).objs.length (rootsK S (rootsOf l)).objs.length ⟨(rootsK S (rootsOf l)).tmps, (rootsK S (rootsOf l)).objs ++ List.replicate l.length none⟩ k := by
  show drawW P ⟨l⟩ l _ _ _ _ = _
  rw [drawL_eq]; rfl
theorem stepsK_nil : stepsK P Q [] S k = endK P Q .normal S k := rfl
theorem stepsK_cons (op : Op) (dst : Option Tmp) (rest : List (Op × Option Tmp × Option (Option Tmp × Bool))) : stepsK P Q ((op, dst, none) :: rest) S k = opW P S.objs.length op (evalT S) (lookS S) fun v eff => stepsK P Q rest ((S.after eff).put dst v) k := rfl
theorem guardL_true (d : Tmp) (Kt Kf : St → Prop) : guardL S (some (some d, true)) Kt Kf = (match S.tmps.getD d .junk with
    | .imm (.bool b) => boolW b (Kt (S.is d true)) (Kf (S.is d false))
    | .tup l => l = [] ∧ Kf S
    | _ => False) := by
  simp only [guardL]
theorem guardL_false (d : Tmp) (Kt Kf : St → Prop) : guardL S (some (some d, false)) Kt Kf = (match S.tmps.getD d .junk with
    | .imm (.bool b) => boolW b (Kf (S.is d true)) (Kt (S.is d false))
    | .tup l => l = [] ∧ Kf S
    | _ => False) := by
  simp only [guardL]
theorem stepsK_ift (op : Op) (dst : Option Tmp) (d : Tmp) (rest : List (Op × Option Tmp × Option (Option Tmp × Bool))) : stepsK P Q ((op, dst, some (some d, true)) :: rest) S k = (match S.tmps.getD d .junk with
    | .imm (.bool b) => boolW b (stepsK P Q ((op, dst, none) :: rest) (S.is d true) k) (stepsK P Q rest ((S.is d false).put dst (.tup [])) k)
    | .tup l => l = [] ∧ stepsK P Q rest (S.put dst (.tup [])) k
    | _ => False) := by
  show stepsL P ((op, dst, some (some d, true)) :: rest) S _ = _
  rw [stepsL, guardL_true]
  generalize S.tmps.getD d .junk = z
  cases z with
  | imm v => cases v <;> rfl
  | _ => rfl
theorem stepsK_iff (op : Op) (dst : Option Tmp) (d : Tmp) (rest : List (Op × Option Tmp × Option (Option Tmp × Bool))) : stepsK P Q ((op, dst, some (some d, false)) :: rest) S k = (match S.tmps.getD d .junk with
    | .imm (.bool b) => boolW b (stepsK P Q rest ((S.is d true).put dst (.tup [])) k) (stepsK P Q ((op, dst, none) :: rest) (S.is d false) k)
    | .tup l => l = [] ∧ stepsK P Q rest (S.put dst (.tup [])) k
    | _ => False) := by
  show stepsL P ((op, dst, some (some d, false)) :: rest) S _ = _
  rw [stepsL, guardL_false]
  generalize S.tmps.getD d .junk = z
  cases z with
  | imm v => cases v <;> rfl
  | _ => rfl
theorem drawK_nil (b n : Nat) : drawK P Q [] b n S k = endK P Q .normal ⟨S.tmps, trims S.objs⟩ k := rfl
theorem drawK_cons {b n : Nat} {op : Op} {dst : Option Tmp} {rest : List (Op × Option Tmp × Option (Option Tmp × Bool))} : drawK P Q ((op, dst, none) :: rest) b n S k = opW P n op (evalT S) (fun i => if eOp op = true ∨ i < b then lookS S i else none) fun v eff => (quietE eff || (eOp op && effB n eff)) = true ∧ drawK P Q rest (if eOp op = true then n + 1 else b) (n + 1) ((S.eff n eff).put dst v) k := by
  refine propext ⟨fun h => ?_, fun h => ?_⟩
  · obtain ⟨v, eff, h1, h2, h3⟩ := h
    obtain ⟨v', e', ⟨rfl, rfl⟩, h4⟩ := opW_split _ _ _ _ _ h1
    exact h4 _ ⟨h2, h3⟩
  · obtain ⟨v, eff, ⟨h1, h2⟩, h3⟩ := opW_split _ _ _ _ _ h
    exact ⟨v, eff, h3 _ ⟨rfl, rfl⟩, h1, h2⟩
theorem drawK_ift (b n : Nat) (op : Op) (dst : Option Tmp) (d : Tmp) (rest : List (Op × Option Tmp × Option (Option Tmp × Bool))) : drawK P Q ((op, dst, some (some d, true)) :: rest) b n S k = (match S.tmps.getD d .junk with
    | .imm (.bool c) => boolW c (drawK P Q ((op, dst, none) :: rest) b n (S.is d true) k) (drawK P Q rest (if eOp op = true then n + 1 else b) (n + 1) ((S.is d false).put dst (.tup [])) k)
    | .tup l => l = [] ∧ drawK P Q rest (if eOp op = true then n + 1 else b) (n + 1) (S.put dst (.tup [])) k
    | _ => False) := by
  show drawL P ((op, dst, some (some d, true)) :: rest) b n S _ = _
  rw [drawL, guardL_true]
  generalize S.tmps.getD d .junk = z
  cases z with
  | imm v => cases v <;> rfl
  | _ => rfl
theorem drawK_iff (b n : Nat) (op : Op) (dst : Option Tmp) (d : Tmp) (rest : List (Op × Option Tmp × Option (Option Tmp × Bool))) : drawK P Q ((op, dst, some (some d, false)) :: rest) b n S k = (match S.tmps.getD d .junk with
    | .imm (.bool c) => boolW c (drawK P Q rest (if eOp op = true then n + 1 else b) (n + 1) ((S.is d true).put dst (.tup [])) k) (drawK P Q ((op, dst, none) :: rest) b n (S.is d false) k)
    | .tup l => l = [] ∧ drawK P Q rest (if eOp op = true then n + 1 else b) (n + 1) (S.put dst (.tup [])) k
    | _ => False) := by
  show drawL P ((op, dst, some (some d, false)) :: rest) b n S _ = _
  rw [drawL, guardL_false]
  generalize S.tmps.getD d .junk = z
  cases z with
  | imm v => cases v <;> rfl
  | _ => rfl
end
section
variable (P : Program) (Q : Exit → St → Prop) (S : St) (k : Kn) (I : Nat → St → Prop) (n : Nat)
end
section
variable (P : Program) (Q : Exit → St → Prop) (S : St) (k : Kn) (I : Nat → St → Prop) (n m : Nat)
end
theorem FnC.go {P : Program} (hm : P.follows .mixedOrders = true) {f : FuncId} {fn : Func} {c : Code} {args : List T} {res : T} (hf : P.funcs[f]? = some fn) (hn : (fn.name == "runtime.NumGoroutine") = false) (hb : fn.body = some c) (hok : codeOk c = true)
    (h : runK P (RetQ P fn res) c ⟨args ++ List.replicate (fn.ntmps - args.length) .junk, []⟩ .q) : FnC P f args res := FnC.run hm hf hn hb hok h
def callG (P : Program) (Q : Exit → St → Prop) (g : FuncId) (args : List T) (dst : Option Tmp) (rest : List (Op × Option Tmp × Option (Option Tmp × Bool))) (S : St) (k : Kn) : Prop :=
  (closedL args = true ∧ ∃ r, FnC P g args r ∧ stepsK P Q rest (S.put dst r) k) ∨
  ((∃ (σ : List Nat) (objs : List (Option Own)) (args' : List T) (res : T) (objs' : List (Option Own)), FnR P g objs args' res objs' ∧ σ.Nodup ∧ relsO σ (lookS S) σ objs ∧
      (∀ (E : Env) (vs : List Value), RepL E false args vs → RepL E false (renFL σ args') vs) ∧ stepsK P Q rest ((S.after (.many (movesO σ objs) (newsO σ (lookS S) σ objs'))).put dst (renF σ res)) k) ∨
    ((∃ (o : Nat) (t : TypeId) (sz : Nat) (l : List T) (lk : Nat), lookS S o = some (.buf t sz l lk) ∧ closedL (dsnapL (lockRow (lookS S) o (.buf t sz l (max lk l.length))) args) = true ∧ ∃ r, FnC P g (dsnapL (lockRow (lookS S) o (.buf t sz l (max lk l.length))) args) r ∧ stepsK P Q rest ((S.after (.put o (.buf t sz l (max lk l.length)))).put dst r) k) ∨
    ∃ (o : Nat) (t : TypeId) (sz : Nat) (l l' more : List T), lookS S o = some (.buf t sz l 0) ∧ FnI P g t sz l l' more ∧ (∀ (E : Env) (vs : List Value), RepL E false args vs → RepL E false (.rsl o sz 0 l.length :: more) vs ∨ (l = [] ∧ RepL E false (.sl sz false l :: more) vs)) ∧ stepsK P Q rest ((S.after (.put o (.buf t sz l' 0))).put dst (.tup [])) k))
def callK (P : Program) (Q : Exit → St → Prop) (x : T) (args : List T) (dst : Option Tmp) (rest : List (Op × Option Tmp × Option (Option Tmp × Bool))) (S : St) (k : Kn) : Prop :=
  match x with
  | .fn g caps => callG P Q g (args ++ caps) dst rest S k
  | _ => False
theorem stepsK_call (P : Program) (Q : Exit → St → Prop) (S : St) (k : Kn) (f : Operand) (args : List Operand) (ts : Array TypeId) (dst : Option Tmp) (rest : List (Op × Option Tmp × Option (Option Tmp × Bool))) :
    stepsK P Q ((.call ⟨.value f, ⟨args⟩, ts⟩, dst, none) :: rest) S k = callK P Q (evalT S f) (dsnapL (lookS S) (args.map (evalT S))) dst rest S k := by
  rw [stepsK_cons]
  simp only [opW]
  unfold callW callRW callK
  generalize evalT S f = x
  cases x with
  | fn g caps => rfl
  | _ => simp
def callD (P : Program) (Q : Exit → St → Prop) (g : FuncId) (args : List T) (dst : Option Tmp) (rest : List (Op × Option Tmp × Option (Option Tmp × Bool))) (b n : Nat) (S : St) (k : Kn) : Prop := ∃ r, FnC P g args r ∧ drawK P Q rest b n (S.put dst r) k
def callE (P : Program) (Q : Exit → St → Prop) (x : T) (args : List T) (dst : Option Tmp) (rest : List (Op × Option Tmp × Option (Option Tmp × Bool))) (b n : Nat) (S : St) (k : Kn) : Prop :=
  match x with
  | .fn g caps => closedL (args ++ caps) = true ∧ callD P Q g (args ++ caps) dst rest b n S k
  | _ => False
theorem drawK_call (P : Program) (Q : Exit → St → Prop) (S : St) (k : Kn) (b n : Nat) (f : Operand) (args : List Operand) (ts : Array TypeId) (dst : Option Tmp) (rest : List (Op × Option Tmp × Option (Option Tmp × Bool))) :
    drawK P Q ((.call ⟨.value f, ⟨args⟩, ts⟩, dst, none) :: rest) b n S k = callE P Q (evalT S f) (dsnapL (fun i => if i < b then lookS S i else none) (args.map (evalT S))) dst rest b (n + 1) S k := by
  rw [drawK_cons]
  have e : (fun i => if eOp (.call ⟨.value f, ⟨args⟩, ts⟩) = true ∨ i < b then lookS S i else none) = fun i => if i < b then lookS S i else none := by
    funext i; simp [eOp]
  rw [e]
  simp only [opW]
  unfold callW callRW callE
  generalize evalT S f = x
  cases x with
  | fn g caps => simp [callD, quietE, eOp, St.eff]
  | _ => simp
theorem lookS_at (S : St) (i : Nat) : lookS S i = match S.objs[i]? with | some x => x | none => none := rfl
end Go.Proofs.YtdaojihnaajfeaaX

/- Loops whose head forgets all but what it goes on with. Of no program. -/
set_option linter.unusedVariables false
set_option linter.unusedSimpArgs false
namespace Go.Proofs.YtdaojihnaajfeaaX
open Go Go.RowKit
theorem getD_j16 {α : Type} (a0 a1 a2 a3 a4 a5 a6 a7 a8 a9 a10 a11 a12 a13 a14 a15 : α) (l : List α) (n : Nat) (d : α) : (a0 :: a1 :: a2 :: a3 :: a4 :: a5 :: a6 :: a7 :: a8 :: a9 :: a10 :: a11 :: a12 :: a13 :: a14 :: a15 :: l).getD (n + 16) d = l.getD n d := rfl
theorem set_j16 {α : Type} (a0 a1 a2 a3 a4 a5 a6 a7 a8 a9 a10 a11 a12 a13 a14 a15 x : α) (l : List α) (n : Nat) : (a0 :: a1 :: a2 :: a3 :: a4 :: a5 :: a6 :: a7 :: a8 :: a9 :: a10 :: a11 :: a12 :: a13 :: a14 :: a15 :: l).set (n + 16) x = a0 :: a1 :: a2 :: a3 :: a4 :: a5 :: a6 :: a7 :: a8 :: a9 :: a10 :: a11 :: a12 :: a13 :: a14 :: a15 :: l.set n x := rfl
def keepL (ts : List Nat) : Nat → List T → List T
  | _, [] => []
  | i, x :: l => (if ts.contains i = true then x else .junk) :: keepL ts (i + 1) l
theorem keepL_rep {E : Env} {cl : Bool} (ts : List Nat) : ∀ (i : Nat) (l : List T) (vs : List Value), RepL E cl l vs → RepL E cl (keepL ts i l) vs
  | _, [], vs, h => h
  | i, x :: l, vs, h => by
    simp only [keepL, RepL] at h ⊢
    obtain ⟨v, vs', h1, h2, h3⟩ := h
    refine ⟨v, vs', h1, ?_, keepL_rep ts (i + 1) l vs' h3⟩
    by_cases e : ts.contains i = true
    · rw [if_pos e]; exact h2
    · rw [if_neg e]; simp only [Rep]
def St.keep (S : St) (ts : List Nat) : St := ⟨keepL ts 0 S.tmps, S.objs⟩
theorem Sat.keep {B : Base} {S : St} {a : Act} {w : World} {μ : Nat → Option Nat} (hS : Sat B S a w μ) (ts : List Nat) : Sat B (S.keep ts) a w μ :=
  ⟨keepL_rep ts 0 _ _ hS.tmps, hS.defers, hS.objs, hS.fresh, hS.kept⟩
def dropL (ks : List Nat) : Nat → List (Option Own) → List (Option Own)
  | _, [] => []
  | i, x :: l => (if ks.contains i = true then none else x.map (Own.kill ks)) :: dropL ks (i + 1) l
theorem dropL_get (ks : List Nat) : ∀ (l : List (Option Own)) (i o : Nat), (dropL ks i l)[o]? = (l[o]?).map fun x => if ks.contains (i + o) = true then none else x.map (Own.kill ks)
  | [], i, o => by simp [dropL]
  | x :: l, i, o => by
    cases o with
    | zero => simp [dropL]
    | succ o =>
      have := dropL_get ks l (i + 1) o
      rw [show i + 1 + o = i + (o + 1) by omega] at this
      simpa [dropL] using this
theorem Sat.drop {B : Base} {S : St} {a : Act} {w : World} {μ : Nat → Option Nat} (hS : Sat B S a w μ) (ks : List Nat) : Sat B ⟨killL ks S.tmps, dropL ks 0 S.objs⟩ a w μ := by
  have hget : ∀ (o : Nat) (y : Own), (dropL ks 0 S.objs)[o]? = some (some y) → ∃ x, S.objs[o]? = some (some x) ∧ y = x.kill ks := by
    intro o y h
    rw [dropL_get, Nat.zero_add] at h
    cases hz : S.objs[o]? with
    | none => rw [hz] at h; cases h
    | some z =>
      rw [hz, Option.map_some] at h
      by_cases hk : ks.contains o = true
      · rw [if_pos hk] at h; cases h
      · rw [if_neg hk] at h
        cases z with
        | none => cases h
        | some z =>
          have h : some (some (z.kill ks)) = some (some y) := h
          injection h with h; injection h with h
          exact ⟨z, rfl, h.symm⟩
  have hst : Step ks ⟨w, μ, S.objs, B.ban⟩ ⟨w, μ, dropL ks 0 S.objs, B.ban⟩ := by
    refine ⟨⟨fun b j v ⟨h1, h2, h3⟩ => ⟨h1, fun lk ⟨o, y, k1, k2, k3⟩ => ?_, h3⟩, fun b c t fr hb => ⟨c, fr, hb, rfl⟩⟩, fun o ⟨x, hx⟩ hk => ?_, fun _ _ _ => rfl⟩
    · obtain ⟨x, e1, rfl⟩ := hget o y k1
      rw [Own.kill_lock] at k3
      exact h2 lk ⟨o, x, e1, k2, k3⟩
    · have hx : S.objs[o]? = some (some x) := hx
      refine ⟨x.kill ks, ?_⟩
      show (dropL ks 0 S.objs)[o]? = _
      rw [dropL_get, Nat.zero_add, hx, Option.map_some, if_neg (by rw [hk]; simp)]
      rfl
  have hdead : ∀ x : Own, x.kill ks ≠ .dead → x ≠ .dead := fun x h e => h (by rw [e]; rfl)
  refine hS.go hst ⟨fun o y hy => ?_, fun o o' y y' b h1 h2 hd hd' hb hb' => ?_⟩ (fun o y b h1 hd hb => ?_) hS.kept
  · obtain ⟨x, hx, rfl⟩ := hget o y hy
    have := hS.objs.at_ o x hx
    cases x with
    | box t x lk =>
      obtain ⟨b, fr, u, h1, h2, h3, h4, h5⟩ := this
      exact ⟨b, fr, u, h1, h2, h3, Rep.kill hst _ _ _ h4, by rw [cells_kill]; exact h5⟩
    | buf t sz l lk =>
      obtain ⟨h0, h1⟩ := this
      exact ⟨h0, h1.imp id fun ⟨b, c, fr, c1, c2, h1, h2, h3, h4, h5⟩ => ⟨b, c, fr, c1, c2, h1, h2, h3, h4, RepR.stepC hst.toStepC _ _ _ h5⟩⟩
    | dead => trivial
  · obtain ⟨x, hx, rfl⟩ := hget o y h1
    obtain ⟨x', hx', rfl⟩ := hget o' y' h2
    exact hS.objs.inj o o' x x' b hx hx' (hdead _ hd) (hdead _ hd') hb hb'
  · obtain ⟨x, hx, rfl⟩ := hget o y h1
    rw [Own.kill_lock]
    exact hS.fresh o x b hx (hdead _ hd) hb
mutual
def refsT : T → List Nat
  | .ref o sz _ _ => if sz = 7777 then [] else [o]
  | .rsl o _ _ _ => [o]
  | .agg l => refsL l
  | .tup l => refsL l
  | .fn _ l => refsL l
  | .ifc _ x => refsT x
  | .imm _ => []
  | .sl .. => []
  | .pp _ => []
  | .junk => []
def refsL : List T → List Nat
  | [] => []
  | x :: l => refsT x ++ refsL l
end
def refsO : Option (Option Own) → List Nat
  | some (some (.box _ x _)) => refsT x
  | _ => []
def reachL (objs : List (Option Own)) (os : List Nat) : List Nat := os ++ os.flatMap fun o => refsO objs[o]?
def deadK (live : List Nat) : Nat → List (Option Own) → List Nat
  | _, [] => []
  | i, _ :: l => if live.contains i = true then deadK live (i + 1) l else i :: deadK live (i + 1) l
def gcW (ks : List Nat) (S : St) : St := ⟨killL ks S.tmps, trims (dropL ks 0 S.objs)⟩
def St.gc (S : St) (ts : List Nat) : St := gcW (deadK (reachL S.objs (reachL S.objs (refsL (keepL ts 0 S.tmps)))) 0 S.objs) (S.keep ts)
theorem Sat.gc {B : Base} {S : St} {a : Act} {w : World} {μ : Nat → Option Nat} (hS : Sat B S a w μ) (ts : List Nat) : Sat B (S.gc ts) a w μ := by
  have := (hS.keep ts).drop (deadK (reachL S.objs (reachL S.objs (refsL (keepL ts 0 S.tmps)))) 0 S.objs)
  exact this.same fun i x => trims_get _ i x
section
variable (P : Program) (Q : Exit → St → Prop) (S : St) (k : Kn) (I : Nat → St → Prop) (n : Nat) (ts : List Nat)
end
end Go.Proofs.YtdaojihnaajfeaaX

/- Functions of trees as plain functions: words and rules. Of no program. -/
set_option linter.unusedVariables false
set_option linter.unusedSimpArgs false
namespace Go.Proofs.YtdaojihnaajfeaaX
open Go Go.RowKit
/-! ### Strings as lists of bytes -/
def bs (l : List UInt8) : ByteArray := ⟨l.toArray⟩
theorem mk_bs (l : List UInt8) : ByteArray.mk l.toArray = bs l := rfl
theorem empty_bs : ByteArray.empty = bs [] := rfl
theorem of_bs (s : ByteArray) : s = bs s.data.toList := by cases s; rfl
theorem bs_size (l : List UInt8) : (bs l).size = l.length := rfl
theorem bs_data (l : List UInt8) : (bs l).data.toList = l := rfl
theorem bs_toList (l : List UInt8) : (bs l).toList = l := by
  rw [ByteArray.toList_eq]; rfl
theorem bs_append (a b : List UInt8) : bs a ++ bs b = bs (a ++ b) := by
  apply ByteArray.ext
  rw [ByteArray.data_append]
  simp [bs]
theorem bs_extract (l : List UInt8) (i j : Nat) : (bs l).extract i j = bs ((l.take j).drop i) := by
  apply ByteArray.ext
  rw [ByteArray.data_extract]
  simp only [bs, List.extract_toArray]
  congr 1
  rw [List.extract_eq_take_drop, List.drop_take]
theorem bs_byteAt (l : List UInt8) (i : Int) : byteAt (bs l) i = ((l.getD i.toNat 0).toNat : Int) := by
  unfold byteAt
  split
  · rename_i h
    rw [List.getD_eq_getElem?_getD, List.getElem?_eq_getElem (show i.toNat < l.length from h)]
    rfl
  · rename_i h
    rw [List.getD_eq_getElem?_getD, List.getElem?_eq_none (by rw [bs_size] at h; omega)]
    rfl
def toB (n : Int) : UInt8 := UInt8.ofNat n.toNat
def ofB (b : UInt8) : Int := (b.toNat : Int)
theorem strT_map (l : List Int) : strT (l.map byteT) = bs (l.map toB) := by
  unfold strT bs
  congr 2
  induction l with
  | nil => rfl
  | cons x l ih => simp only [List.map_cons, ih]; rfl
theorem bytesT_bs (l : List UInt8) : bytesT (bs l) = (l.map ofB).map byteT := by
  unfold bytesT
  rw [bs_data]
  simp [byteT, ofB]
theorem isByte_map (l : List Int) : (∀ y ∈ List.map byteT l, isByte y = true) = True := by
  refine eq_true fun y hy => ?_
  obtain ⟨n, _, rfl⟩ := List.mem_map.1 hy
  rfl
/-! ### Values as trees -/
def eI (k : IntKind) (n : Int) : T := .imm (.int k n)
def eS (s : List UInt8) : T := .imm (.string (bs s))
theorem eI_def (k : IntKind) (n : Int) : eI k n = .imm (.int k n) := rfl
theorem eS_def (s : List UInt8) : eS s = .imm (.string (bs s)) := rfl
section
variable {α : Type} (e : α → T)
theorem getD_map [Inhabited α] {l : List α} {i : Nat} (h : i < l.length) : (List.map e l).getD i .junk = e (l.getD i default) := by
  simp [List.getD_eq_getElem?_getD, h]
theorem take_map (l : List α) (n : Nat) : (List.map e l).take n = List.map e (l.take n) := List.map_take.symm
theorem drop_map (l : List α) (n : Nat) : (List.map e l).drop n = List.map e (l.drop n) := List.map_drop.symm
theorem app_map (l l' : List α) : List.map e l ++ List.map e l' = List.map e (l ++ l') := List.map_append.symm
end
theorem app_u8 (l : List Int) (x : Int) (r : List T) : List.map byteT l ++ (T.imm (.int .u8 x) :: r) = List.map byteT (l ++ [x]) ++ r := by simp [byteT]
theorem app_s (l : List (List UInt8)) (x : List UInt8) (r : List T) : List.map eS l ++ (T.imm (.string (bs x)) :: r) = List.map eS (l ++ [x]) ++ r := by simp [eS]
/-! ### Plain functions that may have no answer -/
def iteB {α : Type} (b : Bool) (x y : Option α) : Option α := match b with | true => x | false => y
def grd {α : Type} (p : Prop) [Decidable p] (x : Option α) : Option α := if p then x else none
theorem iteB_some {α : Type} {b : Bool} {x y : Option α} {r : α} (h : iteB b x y = some r) : (b = true ∧ x = some r) ∨ (b = false ∧ y = some r) := by
  cases b
  · exact .inr ⟨rfl, h⟩
  · exact .inl ⟨rfl, h⟩
theorem grd_some {α : Type} {p : Prop} [Decidable p] {x : Option α} {r : α} (h : grd p x = some r) : p ∧ x = some r := by
  unfold grd at h
  split at h
  · exact ⟨by assumption, h⟩
  · cases h
theorem bnd_some {α β : Type} {x : Option α} {f : α → Option β} {r : β} (h : x.bind f = some r) : ∃ v, x = some v ∧ f v = some r := by
  cases x with
  | none => cases h
  | some v => exact ⟨v, rfl, h⟩
/-! ### A tree that says less -/
def leT (p : Env → Bool → Prop) (x y : T) : Prop := ∀ (E : Env) (cl : Bool) (v : Value), p E cl → Rep E cl x v → Rep E cl y v
def leL (p : Env → Bool → Prop) (l l' : List T) : Prop := ∀ (E : Env) (cl : Bool) (vs : List Value), p E cl → RepL E cl l vs → RepL E cl l' vs
def anyE : Env → Bool → Prop := fun _ _ => True
section
variable {p : Env → Bool → Prop}
theorem leT_refl (x : T) : leT p x x := fun _ _ _ _ h => h
theorem leL_refl (l : List T) : leL p l l := fun _ _ _ _ h => h
theorem leL_nil : leL p [] [] := leL_refl []
theorem leL_cons {x y : T} {l l' : List T} (h : leT p x y) (h' : leL p l l') : leL p (x :: l) (y :: l') := fun E cl vs hp k => by
  simp only [RepL] at k ⊢
  obtain ⟨v, vs', e, h1, h2⟩ := k
  exact ⟨v, vs', e, h E cl v hp h1, h' E cl vs' hp h2⟩
theorem leT_junk (x : T) : leT p x .junk := fun _ _ _ _ _ => by simp only [Rep]
theorem leT_agg {l l' : List T} (h : leL p l l') : leT p (.agg l) (.agg l') := fun E cl v hp k => by
  simp only [Rep] at k ⊢
  obtain ⟨cs, h1, h2⟩ := k
  exact ⟨cs, h1, h E cl _ hp h2⟩
theorem leT_tup {l l' : List T} (h : leL p l l') : leT p (.tup l) (.tup l') := fun E cl v hp k => by
  simp only [Rep] at k ⊢
  obtain ⟨cs, h1, h2⟩ := k
  exact ⟨cs, h1, h E cl _ hp h2⟩
theorem leT_sl {sz : Nat} {f : Bool} {l : List T} : leT p (.sl sz f l) (.sl sz false l) := fun E cl v hp k => by
  simp only [Rep] at k ⊢
  obtain ⟨a, cap, c, h1, h2, h3, h4, h5⟩ := k
  exact ⟨a, cap, c, h1, h2, (fun h => by cases h), h4, h5⟩
theorem leT_nil {sz sz' : Nat} {f : Bool} : leT p (.sl sz f []) (.sl sz' f []) := fun E cl v hp k => by
  simp only [Rep, RepR] at k ⊢
  exact k
theorem leT_trans {x y z : T} (h : leT p x y) (h' : leT p y z) : leT p x z := fun E cl v hp k => h' E cl v hp (h E cl v hp k)
theorem leT_sln {sz sz' : Nat} {f : Bool} : leT p (.sl sz f []) (.sl sz' false []) := leT_trans leT_nil leT_sl
theorem leT_of {x y : T} (h : x = y) : leT p x y := h ▸ leT_refl x
end
def virtE (k : Nat) : Env → Bool → Prop := fun E cl => cl = false ∧ E.has k ∧ E.μ k = none
theorem leT_virt {k sz sz' : Nat} : leT (virtE k) (.sl sz true []) (.rsl k sz' 0 0) := fun E cl v hp k' => by
  obtain ⟨rfl, h1, h2⟩ := hp
  simp only [Rep, RepR] at k' ⊢
  obtain ⟨a, cap, c, h3, h4, h5, h6, h7⟩ := k'
  have h8 := (h5 trivial).2 trivial
  have := (h5 trivial).1
  simp only [List.length_nil] at this h3
  subst this
  exact ⟨trivial, h1, .inl ⟨h2, trivial, trivial, ⟨a, h8⟩, h3⟩⟩
/-! ### A state that says less -/
def leS (S S' : St) : Prop := ∀ (B : Base) (a : Act) (w : World) (μ : Nat → Option Nat), Sat B S a w μ → ∃ μ', Sat B S' a w μ'
theorem leS_refl (S : St) : leS S S := fun B a w μ h => ⟨μ, h⟩
theorem leS_trans {S S' S'' : St} (h : leS S S') (h' : leS S' S'') : leS S S'' := fun B a w μ k => by
  obtain ⟨μ', k'⟩ := h B a w μ k
  exact h' B a w μ' k'
inductive leO (p : Env → Bool → Prop) : Option Own → Option Own → Prop where
  | same (x : Option Own) : leO p x x
  | box {t : TypeId} {x y : T} {lk : Bool} (h : leT p x y) (hc : y.cells.length = x.cells.length) : leO p (some (.box t x lk)) (some (.box t y lk))
inductive leOs (p : Env → Bool → Prop) : List (Option Own) → List (Option Own) → Prop where
  | nil : leOs p [] []
  | cons {x y : Option Own} {l l' : List (Option Own)} (h : leO p x y) (h' : leOs p l l') : leOs p (x :: l) (y :: l')
theorem leOs_refl {p : Env → Bool → Prop} : ∀ l : List (Option Own), leOs p l l
  | [] => .nil
  | x :: l => .cons (.same x) (leOs_refl l)
theorem leOs_get {p : Env → Bool → Prop} : ∀ {l l' : List (Option Own)}, leOs p l l' → ∀ (i : Nat) (y : Own), l'[i]? = some (some y) → ∃ x, l[i]? = some (some x) ∧ leO p (some x) (some y)
  | _, _, .nil, i, y, h => by simp at h
  | _, _, .cons (x := x) h h', 0, y, e => by
    simp only [List.getElem?_cons_zero, Option.some.injEq] at e ⊢
    subst e
    cases h with
    | same => exact ⟨y, rfl, .same _⟩
    | box h hc => exact ⟨_, rfl, .box h hc⟩
  | _, _, .cons h h', i + 1, y, e => by
    simp only [List.getElem?_cons_succ] at e ⊢
    exact leOs_get h' i y e
theorem leOs_get' {p : Env → Bool → Prop} : ∀ {l l' : List (Option Own)}, leOs p l l' → ∀ (i : Nat) (x : Own), l[i]? = some (some x) → ∃ y, l'[i]? = some (some y) ∧ leO p (some x) (some y)
  | _, _, .nil, i, y, h => by simp at h
  | _, _, .cons (x := x) h h', 0, y, e => by
    simp only [List.getElem?_cons_zero, Option.some.injEq] at e ⊢
    subst e
    cases h with
    | same => exact ⟨y, rfl, .same _⟩
    | box h hc => exact ⟨_, rfl, .box h hc⟩
  | _, _, .cons h h', i + 1, y, e => by
    simp only [List.getElem?_cons_succ] at e ⊢
    exact leOs_get' h' i y e
theorem leO_lock {p : Env → Bool → Prop} {x y : Own} (h : leO p (some x) (some y)) : y.lock = x.lock ∧ (x ≠ .dead ↔ y ≠ .dead) := by
  cases h with
  | same => exact ⟨rfl, Iff.rfl⟩
  | box h hc => exact ⟨by simp only [Own.lock, hc], by simp⟩
theorem Sat.le {B : Base} {a : Act} {w : World} {μ : Nat → Option Nat} {t t' : List T} {o o' : List (Option Own)} (hS : Sat B ⟨t, o⟩ a w μ) {p : Env → Bool → Prop} (ht : leL p t t') (ho : leOs p o o') (hp : p ⟨w, μ, o', B.ban⟩ false) : Sat B ⟨t', o'⟩ a w μ := by
  have hst : Step [] ⟨w, μ, o, B.ban⟩ ⟨w, μ, o', B.ban⟩ := by
    refine ⟨⟨fun b j v ⟨h1, h2, h3⟩ => ⟨h1, fun lk ⟨i, y, k1, k2, k3⟩ => ?_, h3⟩, fun b c t fr hb => ⟨c, fr, hb, rfl⟩⟩, fun i ⟨x, hx⟩ _ => ?_, fun _ _ _ => rfl⟩
    · obtain ⟨x, e1, e2⟩ := leOs_get ho i y k1
      exact h2 lk ⟨i, x, e1, k2, by rw [← (leO_lock e2).1]; exact k3⟩
    · obtain ⟨y, e1, _⟩ := leOs_get' ho i x hx
      exact ⟨y, e1⟩
  refine ⟨ht _ _ _ hp (RepL.step hst hS.tmps), hS.defers, ⟨fun i y hy => ?_, fun i i' y y' b h1 h2 hd hd' hb hb' => ?_⟩, fun i y b h1 hd hb => ?_, hS.kept⟩
  · obtain ⟨x, hx, hxy⟩ := leOs_get ho i y hy
    have hat := hS.objs.at_ i x hx
    have keep : OwnAt ⟨w, μ, o', B.ban⟩ i x := by
      cases x with
      | box t x lk => obtain ⟨b, fr, u, h1, h2, h3, h4, h5⟩ := hat; exact ⟨b, fr, u, h1, h2, h3, Rep.step hst h4, h5⟩
      | buf t sz l lk =>
        obtain ⟨h0, h1⟩ := hat
        exact ⟨h0, h1.imp id fun ⟨b, c, fr, c1, c2, h1, h2, h3, h4, h5⟩ => ⟨b, c, fr, c1, c2, h1, h2, h3, h4, RepR.stepC hst.toStepC _ _ _ h5⟩⟩
      | dead => trivial
    cases hxy with
    | same => exact keep
    | box h hc => obtain ⟨b, fr, u, h1, h2, h3, h4, h5⟩ := keep; exact ⟨b, fr, u, h1, h2, h3, h _ _ _ hp h4, by rw [hc]; exact h5⟩
  · obtain ⟨x, hx, hxy⟩ := leOs_get ho i y h1
    obtain ⟨x', hx', hxy'⟩ := leOs_get ho i' y' h2
    exact hS.objs.inj i i' x x' b hx hx' ((leO_lock hxy).2.2 hd) ((leO_lock hxy').2.2 hd') hb hb'
  · obtain ⟨x, hx, hxy⟩ := leOs_get ho i y h1
    rw [(leO_lock hxy).1]
    exact hS.fresh i x b hx ((leO_lock hxy).2.2 hd) hb
theorem leS_le {t t' : List T} {o o' : List (Option Own)} (ht : leL anyE t t') (ho : leOs anyE o o') : leS ⟨t, o⟩ ⟨t', o'⟩ := fun B a w μ hS => ⟨μ, hS.le ht ho trivial⟩
theorem leS_pad (t : List T) (o : List (Option Own)) (n : Nat) : leS ⟨t, o⟩ ⟨t, o ++ List.replicate n none⟩ := fun B a w μ hS => ⟨μ, by
  refine hS.same fun i x => ?_
  show (o ++ List.replicate n none)[i]? = some (some x) ↔ o[i]? = some (some x)
  by_cases hi : i < o.length
  · rw [List.getElem?_append_left hi]
  · rw [List.getElem?_append_right (by omega), List.getElem?_replicate, List.getElem?_eq_none (l := o) (by omega)]
    split <;> simp⟩
theorem leS_virt {t t' : List T} {o o' : List (Option Own)} (k : Nat) (e : TypeId) (sz : Nat) (hk : o[k]? = some none) (ht : leL (virtE k) t t') (ho : leOs (virtE k) (o.set k (some (.buf e sz [] 0))) o') (hb : o'[k]? = some (some (.buf e sz [] 0))) : leS ⟨t, o⟩ ⟨t', o'⟩ := fun B a w μ hS => by
  have h := Sat.virtual hS (k := k) hk e sz
  exact ⟨_, h.le ht ho ⟨rfl, ⟨_, hb⟩, by simp⟩⟩
section
variable (P : Program) (Q : Exit → St → Prop) (S : St) (k : Kn) (I : Nat → St → Prop) (n : Nat) (ts : List Nat)
end
section
variable (P : Program) (Q : Exit → St → Prop) (S : St) (k : Kn) (I : St → Prop) (ts : List Nat)
end
section
variable {P : Program} {Q : Exit → St → Prop} {S : St} {k : Kn} {b c : Bool}
variable {op : Op} {dst : Option Tmp} {d : Tmp} {w : Bool} {rest : List (Op × Option Tmp × Option (Option Tmp × Bool))} {m n : Nat}
theorem pickW_true {x y : T} {K : T → Eff → Prop} : pickW (.imm (.bool true)) x y K = K x .none := by simp [pickW]
theorem pickW_false {x y : T} {K : T → Eff → Prop} : pickW (.imm (.bool false)) x y K = K y .none := by simp [pickW]
end
theorem FnC.le {P : Program} {f : FuncId} {args args' : List T} {r r' : T} (h : FnC P f args' r) (ha : leL anyE args args') (hr : leT anyE r r') : FnC P f args r' :=
  ⟨h.1, fun w ban vs hb hg hv => (h.2 w ban vs hb hg (ha _ _ _ trivial hv)).mono fun e w' ⟨u, h1, h2, h3⟩ => ⟨u, h1, h2, hr _ _ _ trivial h3⟩⟩
section
variable {P : Program} {Q : Exit → St → Prop} {g : FuncId} {args args' : List T} {dst : Option Tmp} {rest : List (Op × Option Tmp × Option (Option Tmp × Bool))} {S : St} {k : Kn} {r : T}
theorem callG_X (hc : closedL args = true) (h : FnC P g args' r) (ha : leL anyE args args') (h2 : stepsK P Q rest (S.put dst r) k) : callG P Q g args dst rest S k := .inl ⟨hc, r, h.le ha (leT_refl r), h2⟩
theorem callD_X {b n : Nat} (h : FnC P g args' r) (ha : leL anyE args args') (h2 : drawK P Q rest b n (S.put dst r) k) : callD P Q g args dst rest b n S k := ⟨r, h.le ha (leT_refl r), h2⟩
end
def RetW (P : Program) (fn : Func) (res : T) : Exit → St → Prop
  | .normal, S | .ret, S => resW P S fn.results.toList fun l => closedT (dsnap (lookS S.lockAll) (retT l)) = true ∧ leT anyE (dsnap (lookS S.lockAll) (retT l)) res
  | _, _ => False
theorem FnC.ofW {P : Program} {f : FuncId} {fn : Func} {c : Code} {args : List T} {res : T} (hf : P.funcs[f]? = some fn) (hn : (fn.name == "runtime.NumGoroutine") = false) (hb : fn.body = some c)
    (h : WP P c ⟨args ++ List.replicate (fn.ntmps - args.length) .junk, []⟩ (RetW P fn res)) : FnC P f args res := by
  refine ⟨⟨fn, hf, hn, by rw [hb]; rfl⟩, fun w ban vs hban hgi hv => ?_⟩
  let B : Base := { w := w, own := fun _ _ => False, lt := fun _ _ h => h.elim, one := fun _ _ _ h => h.elim, zero := fun _ _ h => h.elim, ban := ban, banlt := hban, banown := fun _ _ h => h.elim, gi := hgi, giown := fun _ _ _ h => h.elim }
  have hlen := hv.length
  rw [Array.length_toList] at hlen
  have hS : Sat B ⟨args ++ List.replicate (fn.ntmps - args.length) .junk, []⟩ { tmps := vs ++ Array.replicate (fn.ntmps - vs.size) undef, defers := [] } w (fun _ => none) := by
    refine ⟨?_, rfl, ⟨fun o x h => by simp at h, fun o o' x x' b h => by simp at h⟩, fun o x b h => by simp at h, ⟨rfl, rfl, rfl, Nat.le_refl _, fun _ _ _ => rfl, fun _ _ h => h.elim, fun _ _ h => h.elim⟩⟩
    have e : (vs ++ Array.replicate (fn.ntmps - vs.size) undef).toList = vs.toList ++ List.replicate (fn.ntmps - args.length) undef := by simp [hlen]
    show RepL _ _ _ (vs ++ Array.replicate (fn.ntmps - vs.size) undef).toList
    rw [e]
    refine RepL.append (RepL.open _ _ _ hv) ?_
    generalize fn.ntmps - args.length = n
    induction n with
    | zero => simp [RepL]
    | succ n ih => simp only [List.replicate_succ, RepL]; exact ⟨_, _, rfl, by simp only [Rep], ih⟩
  refine calls_of_wp hf hb (wp_mono (h B _ w _ hS) fun e a w' ⟨S, μ, hQ, hS'⟩ => ?_)
  have main : (resW P S fn.results.toList fun l => closedT (dsnap (lookS S.lockAll) (retT l)) = true ∧ leT anyE (dsnap (lookS S.lockAll) (retT l)) res) → a.defers = [] ∧ ∃ v, (results fn a.tmps).run P w' = .ok v w' ∧ (∃ u, Ending.returned v = .returned u ∧ Below w.heap.size w w' ∧ Rep (E0 w' ban) true res u) := by
    intro hR
    obtain ⟨l, us, ⟨h2, h1⟩, h3, h4⟩ := res_sound hS' _ _ hR
    have hL := hS'.lockAll
    have hst : Step [] ⟨w', μ, S.objs, B.ban⟩ ⟨w', μ, S.lockAll.objs, B.ban⟩ := by
      -- (the relation between the two states, once more)
      refine ⟨⟨fun b j v ⟨q1, q2, q3⟩ => ⟨q1, fun lk ⟨o, x, k1, k2, k3⟩ => ?_, q3⟩, fun b c t fr hb => ⟨c, fr, hb, rfl⟩⟩, fun o ⟨x, hx⟩ _ => ?_, fun _ _ _ => rfl⟩
      · have k1 : (S.objs.map (Option.map Own.lockAll))[o]? = some (some x) := k1
        rw [List.getElem?_map] at k1
        cases hz : S.objs[o]? with
        | none => rw [hz] at k1; cases k1
        | some z =>
          rw [hz] at k1
          cases z with
          | none => cases k1
          | some z =>
            have k1 : some (some z.lockAll) = some (some x) := k1
            cases k1
            cases z with
            | dead => cases k3
            | box t y lk0 =>
              have := q2 _ ⟨o, _, hz, k2, rfl⟩
              simp only [Own.lockAll, Own.lock, Option.some.injEq, if_true] at k3
              subst k3
              cases lk0 <;> simp at this ⊢
              exact this
            | buf t sz y lk0 =>
              have := q2 _ ⟨o, _, hz, k2, rfl⟩
              simp only [Own.lockAll, Own.lock, Option.some.injEq] at k3
              subst k3
              exact Nat.lt_of_lt_of_le this (Nat.mul_le_mul_right _ (Nat.le_max_left _ _))
      · have hx : S.objs[o]? = some (some x) := hx
        refine ⟨x.lockAll, ?_⟩
        show (S.objs.map (Option.map Own.lockAll))[o]? = _
        rw [List.getElem?_map, hx]; rfl
    have h4' := RepL.step hst h4
    refine ⟨hS'.defers, if hh : us.toArray.size = 1 then us.toArray[0] else .tuple us.toArray, ?_, _, rfl, ?_, ?_⟩
    · have hm : (fn.results.mapM (fun | .tmp t => pure (a.tmps.getD t undef) | .cell c t => do loadVar t (← asAddr (a.tmps.getD c undef)) : ResultVar → Sem Value)).run P w' = .ok us.toArray w' := by
        rw [Array.mapM_eq_mapM_toList, Sem.run_map]
        have : (fun | .tmp t => pure (a.tmps.getD t undef) | .cell c t => do loadVar t (← asAddr (a.tmps.getD c undef)) : ResultVar → Sem Value) = rdRes a.tmps := by
          funext r; cases r <;> rfl
        rw [this, h3]; rfl
      unfold results
      exact run_bind (f := fun vs : Array Value => (pure (if h : vs.size = 1 then vs[0] else Value.tuple vs) : Sem Value)) hm
    · have hk := hS'.kept
      exact ⟨hk.os, hk.tape, hk.output, hk.size, fun k hk1 => hk.block k hk1 fun _ h => h.elim⟩
    · have hret : Rep ⟨w', μ, S.lockAll.objs, B.ban⟩ false (retT l) (if hh : us.toArray.size = 1 then us.toArray[0] else .tuple us.toArray) := by
        have hul := h4'.length
        by_cases h1' : us.length = 1
        · obtain ⟨u, rfl⟩ := List.length_eq_one_iff.1 h1'
          obtain ⟨x, rfl⟩ := List.length_eq_one_iff.1 (hul.symm.trans h1')
          simp only [RepL] at h4'
          obtain ⟨v, vs', e1, e2, e3⟩ := h4'
          subst e3
          cases e1
          simpa [retT] using e2
        · rw [dif_neg (by simpa using h1')]
          have e : retT l = .tup l := by
            cases l with
            | nil => rfl
            | cons x l => cases l with
              | nil => exact absurd hul h1'
              | cons y l => rfl
          rw [e]
          simp only [Rep]
          exact ⟨_, rfl, by simpa using h4'⟩
      have hd := dsnap_rep hL (look := lookS S.lockAll) (fun i x hx => lookS_some hx) _ _ hret
      have hc := Rep.close _ _ _ h2 hd
      refine h1 _ _ _ trivial ?_
      exact Rep.stepC (E := ⟨w', μ, S.lockAll.objs, B.ban⟩) (E' := E0 w' ban) ⟨fun b j v ⟨q1, _, q3⟩ => ⟨q1, fun lk ⟨o, x, k1, _⟩ => by simp [E0] at k1, q3⟩, fun b c t fr h => ⟨c, fr, h, rfl⟩⟩ _ _ hc
  cases e with
  | normal => exact main hQ
  | ret => exact main hQ
  | _ => exact hQ.elim
attribute [go_sem] mk_bs empty_bs bs_size bs_toList bs_append bs_extract bs_byteAt strT_map bytesT_bs isByte_map eI_def eS_def getD_map take_map drop_map app_map app_u8 app_s pickW_true pickW_false List.take_length List.append_eq
end Go.Proofs.YtdaojihnaajfeaaX

/- Rules of a run that lets go of what is not needed any more. Of no program. -/
set_option linter.unusedVariables false
set_option linter.unusedSimpArgs false
namespace Go.Proofs.YtdaojihnaajfeaaX
open Go Go.RowKit
def roundsX (P : Program) (c : Code) (Q : Exit → St → Prop) : Nat → St → Prop
  | 0, _ => False
  | n + 1, S => WP P c S (thenQ (roundsX P c Q n) Q)
def noGo (Q : Exit → St → Prop) : Exit → St → Prop
  | .goto _, _ => False
  | e, S => Q e S
def contX (P : Program) (Q : Exit → St → Prop) : Kn → Exit → St → Prop
  | .q => Q
  | .seq c k => thenQ (fun S' => WP P c S' (contX P Q k)) (contX P Q k)
  | .blk id k => blockQ id (contX P Q k)
  | .lp c n k => thenQ (roundsX P c (contX P Q k) n) (contX P Q k)
  | .scp k => noGo (contX P Q k)
def runX (P : Program) (Q : Exit → St → Prop) (c : Code) (S : St) (k : Kn) : Prop := WP P c S (contX P Q k)
def endX (P : Program) (Q : Exit → St → Prop) (e : Exit) (S : St) (k : Kn) : Prop := contX P Q k e S
section
variable {P : Program} {Q : Exit → St → Prop} {S S1 : St} {k : Kn} {b : Bool}
theorem runX_seq {x y : Code} (h : runX P Q x S (.seq y k)) : runX P Q (.seq x y) S k := WP.seq h
theorem runX_block {id : Nat} {c : Code} (h : runX P Q c S (.blk id k)) : runX P Q (.block id c) S k := WP.block h
theorem runX_skip (h : endX P Q .normal S k) : runX P Q .skip S k := WP.skip h
theorem runX_exit {id : Nat} (h : endX P Q (.exit id) S k) : runX P Q (.exit id) S k := WP.exit h
theorem runX_ret (h : endX P Q .ret S k) : runX P Q .ret S k := WP.ret h
theorem runX_condT {x y : Code} {o : Operand} (hc : evalT S o = .imm (.bool b)) (hb : b = true) (h : runX P Q x S k) : runX P Q (.cond o x y) S k :=
  WP.cond hc (fun _ => h) (fun e => by rw [hb] at e; cases e)
theorem runX_condF {x y : Code} {o : Operand} (hc : evalT S o = .imm (.bool b)) (hb : b = false) (h : runX P Q y S k) : runX P Q (.cond o x y) S k :=
  WP.cond hc (fun e => by rw [hb] at e; cases e) (fun _ => h)
theorem endX_seq {c : Code} (h : runX P Q c S k) : endX P Q .normal S (.seq c k) := h
theorem endX_seqE {c : Code} {id : Nat} (h : endX P Q (.exit id) S k) : endX P Q (.exit id) S (.seq c k) := h
theorem endX_seqR {c : Code} (h : endX P Q .ret S k) : endX P Q .ret S (.seq c k) := h
theorem endX_blk {id : Nat} (h : endX P Q .normal S k) : endX P Q .normal S (.blk id k) := h
theorem endX_blkR {id : Nat} (h : endX P Q .ret S k) : endX P Q .ret S (.blk id k) := h
theorem endX_blkE {id : Nat} (h : endX P Q .normal S k) : endX P Q (.exit id) S (.blk id k) := by
  show (if id = id then _ else _); rw [if_pos rfl]; exact h
theorem endX_q {e : Exit} (h : Q e S) : endX P Q e S .q := h
def roundQ (P : Program) (Q : Exit → St → Prop) (k : Kn) (I : Nat → St → Prop) (n : Nat) (ts : List Nat) : Exit → St → Prop := thenQ (fun S' => ∃ i, i < n ∧ ∃ S'', leS (S'.gc ts) S'' ∧ I i S'') (contX P Q k)
theorem roundQ_normal {I : Nat → St → Prop} {n : Nat} {ts : List Nat} (h : ∃ i, i < n ∧ ∃ S'', leS (S.gc ts) S'' ∧ I i S'') : roundQ P Q k I n ts .normal S := h
theorem roundQ_exit {I : Nat → St → Prop} {n : Nat} {ts : List Nat} {id : Nat} (h : endX P Q (.exit id) S k) : roundQ P Q k I n ts (.exit id) S := h
theorem roundQ_ret {I : Nat → St → Prop} {n : Nat} {ts : List Nat} (h : endX P Q .ret S k) : roundQ P Q k I n ts .ret S := h
theorem runX_loop {c : Code} (ts : List Nat) (I : Nat → St → Prop) (n : Nat) (h0 : ∃ S', leS (S.gc ts) S' ∧ I n S') (round : ∀ n S, I n S → runX P (roundQ P Q k I n ts) c S .q) : runX P Q (.loop c) S k := by
  have main : ∀ S0, I n S0 → WP P (.loop c) S0 (contX P Q k) := fun S0 h0 =>
    WP.loop I n h0 fun n S h B a w μ hS => by
      refine wp_mono (round n S h B a w μ hS) fun e a w hx => ?_
      obtain ⟨S', μ', h1, h2⟩ := hx
      cases e with
      | normal =>
        obtain ⟨i, hi, S'', hl, hI⟩ := h1
        obtain ⟨μ'', h3⟩ := hl B a w μ' (h2.gc ts)
        exact ⟨S'', μ'', ⟨i, hi, hI⟩, h3⟩
      | _ => exact ⟨S', μ', h1, h2⟩
  intro B a w μ hS
  obtain ⟨S', hl, hI⟩ := h0
  obtain ⟨μ', h3⟩ := hl B a w μ (hS.gc ts)
  exact main _ hI B a w μ' h3
def meetQ (P : Program) (Q : Exit → St → Prop) (k : Kn) (I : St → Prop) (ts : List Nat) : Exit → St → Prop := thenQ (fun S' => ∃ S'', leS (S'.gc ts) S'' ∧ I S'') (contX P Q k)
theorem meetQ_normal {I : St → Prop} {ts : List Nat} (h : ∃ S'', leS (S.gc ts) S'' ∧ I S'') : meetQ P Q k I ts .normal S := h
theorem runX_meet {c d : Code} (ts : List Nat) (I : St → Prop) (h1 : runX P (meetQ P Q (.seq d k) I ts) c S .q) (h2 : ∀ S, I S → runX P Q d S k) : runX P Q (.seq c d) S k := by
  refine WP.seq fun B a w μ hS => ?_
  refine wp_mono (h1 B a w μ hS) fun e a w hx => ?_
  obtain ⟨S', μ', h3, h4⟩ := hx
  cases e with
  | normal =>
    obtain ⟨S'', hl, hI⟩ := h3
    obtain ⟨μ'', h5⟩ := hl B a w μ' (h4.gc ts)
    -- the run of what is behind, from here
    exact ⟨S'', μ'', h2 _ hI, h5⟩
  | _ => exact ⟨S', μ', h3, h4⟩
end
theorem FnC.goX {P : Program} (hm : P.follows .mixedOrders = true) {f : FuncId} {fn : Func} {c : Code} {args : List T} {res : T} (hf : P.funcs[f]? = some fn) (hn : (fn.name == "runtime.NumGoroutine") = false) (hb : fn.body = some c)
    (h : runX P (RetW P fn res) c ⟨args ++ List.replicate (fn.ntmps - args.length) .junk, []⟩ .q) : FnC P f args res := FnC.ofW hf hn hb h
def buildL (P : Program) (t : TypeId) (parts : List (Nat × T)) : Option (List T) :=
  if okT P t = true then (match P.underlying t with
    | some (.struct fs) => if (fs.toList.all fun f => okT P f.type) = true then fillT (fun i => (fs[i]?).map fun f => (f.offset, szOf P f.type)) (zeroOf P t).cells parts else none
    | some (.array _ e) => if okT P e = true then fillT (fun i => some (i * szOf P e, szOf P e)) (zeroOf P t).cells parts else none
    | _ => none) else none
theorem buildW_of {P : Program} {t : TypeId} {parts : List (Nat × T)} {K : T → Prop} (l : List T) (h : buildL P t parts = some l) (hK : K (.agg l)) : buildW P t parts K := by
  unfold buildL at h
  unfold buildW
  by_cases h0 : okT P t = true
  · rw [if_pos h0] at h
    refine ⟨h0, ?_⟩
    cases hu : P.underlying t with
    | none => rw [hu] at h; cases h
    | some d =>
      rw [hu] at h
      cases d <;> simp only at h ⊢ <;> first
        | (cases h; done)
        | (split at h
           · rename_i h1; exact ⟨h1, by simp only [h]; exact hK⟩
           · cases h)
  · rw [if_neg h0] at h; cases h
theorem killL_map {α : Type} (ks : List Nat) (e : α → T) (h : ∀ x, kill ks (e x) = e x) : ∀ l : List α, killL ks (List.map e l) = List.map e l
  | [] => rfl
  | x :: l => by rw [List.map_cons, killL, h, killL_map ks e h l]
theorem killL_i (ks : List Nat) (k : IntKind) (l : List Int) : killL ks (List.map (eI k) l) = List.map (eI k) l := killL_map ks _ (fun _ => rfl) l
attribute [go_sem] killL_i
theorem take_app1 {α : Type} (l : List α) (x : α) : (l ++ [x]).take (l.length + 1) = l ++ [x] := List.take_of_length_le (by simp)
attribute [go_sem] List.length_set List.length_replicate take_app1
theorem refsL_map {α : Type} (e : α → T) (h : ∀ x, refsT (e x) = []) : ∀ l : List α, refsL (List.map e l) = []
  | [] => rfl
  | x :: l => by rw [List.map_cons, refsL, h, refsL_map e h l]; rfl
theorem refsL_i (k : IntKind) (l : List Int) : refsL (List.map (eI k) l) = [] := refsL_map _ (fun _ => rfl) l
attribute [go_sem] refsL_i
attribute [go_sem] List.append_nil
/-! ### Guards, told without a look at what is behind -/
section
variable (P : Program) (Q : Exit → St → Prop) (S : St) (k : Kn) (op : Op) (dst : Option Tmp) (d : Tmp) (w : Bool) (rest : List (Op × Option Tmp × Option (Option Tmp × Bool))) (m n : Nat)
def guardK (z : T) : Prop := match z with
  | .imm (.bool b) => if b = w then stepsK P Q ((op, dst, none) :: rest) (S.is d w) k else stepsK P Q rest ((S.is d (!w)).put dst (.tup [])) k
  | .tup l => l = [] ∧ stepsK P Q rest (S.put dst (.tup [])) k
  | _ => False
def guardD (z : T) : Prop := match z with
  | .imm (.bool b) => if b = w then drawK P Q ((op, dst, none) :: rest) m n (S.is d w) k else drawK P Q rest (if eOp op = true then n + 1 else m) (n + 1) ((S.is d (!w)).put dst (.tup [])) k
  | .tup l => l = [] ∧ drawK P Q rest (if eOp op = true then n + 1 else m) (n + 1) (S.put dst (.tup [])) k
  | _ => False
theorem boolW_if {b : Bool} {A B : Prop} : boolW b A B = if b = true then A else B := by cases b <;> simp [boolW]
theorem stepsK_grd : stepsK P Q ((op, dst, some (some d, w)) :: rest) S k = guardK P Q S k op dst d w rest (S.tmps.getD d .junk) := by
  cases w
  · rw [stepsK_iff]
    generalize S.tmps.getD d .junk = z
    cases z with
    | imm v => cases v with
      | bool b => cases b <;> simp [guardK, boolW_if]
      | _ => rfl
    | _ => rfl
  · rw [stepsK_ift]
    generalize S.tmps.getD d .junk = z
    cases z with
    | imm v => cases v with
      | bool b => cases b <;> simp [guardK, boolW_if]
      | _ => rfl
    | _ => rfl
theorem drawK_grd : drawK P Q ((op, dst, some (some d, w)) :: rest) m n S k = guardD P Q S k op dst d w rest m n (S.tmps.getD d .junk) := by
  cases w
  · rw [drawK_iff]
    generalize S.tmps.getD d .junk = z
    cases z with
    | imm v => cases v with
      | bool b => cases b <;> simp [guardD, boolW_if]
      | _ => rfl
    | _ => rfl
  · rw [drawK_ift]
    generalize S.tmps.getD d .junk = z
    cases z with
    | imm v => cases v with
      | bool b => cases b <;> simp [guardD, boolW_if]
      | _ => rfl
    | _ => rfl
theorem guardK_same (b : Bool) : guardK P Q S k op dst d b rest (.imm (.bool b)) = stepsK P Q ((op, dst, none) :: rest) (S.is d b) k := by simp [guardK]
theorem guardK_tf : guardK P Q S k op dst d true rest (.imm (.bool false)) = stepsK P Q rest ((S.is d false).put dst (.tup [])) k := by simp [guardK]
theorem guardK_ft : guardK P Q S k op dst d false rest (.imm (.bool true)) = stepsK P Q rest ((S.is d true).put dst (.tup [])) k := by simp [guardK]
theorem guardK_nn : guardK P Q S k op dst d w rest (.tup []) = stepsK P Q rest (S.put dst (.tup [])) k := by simp [guardK]
theorem guardD_same (b : Bool) : guardD P Q S k op dst d b rest m n (.imm (.bool b)) = drawK P Q ((op, dst, none) :: rest) m n (S.is d b) k := by simp [guardD]
theorem guardD_tf : guardD P Q S k op dst d true rest m n (.imm (.bool false)) = drawK P Q rest (if eOp op = true then n + 1 else m) (n + 1) ((S.is d false).put dst (.tup [])) k := by simp [guardD]
theorem guardD_ft : guardD P Q S k op dst d false rest m n (.imm (.bool true)) = drawK P Q rest (if eOp op = true then n + 1 else m) (n + 1) ((S.is d true).put dst (.tup [])) k := by simp [guardD]
end
section
variable {P : Program} {Q : Exit → St → Prop} {S : St} {k : Kn} {op : Op} {dst : Option Tmp} {d : Tmp} {w b : Bool} {rest : List (Op × Option Tmp × Option (Option Tmp × Bool))} {m n : Nat}
theorem guardK_T (hb : b = w) (h : stepsK P Q ((op, dst, none) :: rest) (S.is d w) k) : guardK P Q S k op dst d w rest (.imm (.bool b)) := by subst hb; rw [guardK_same]; exact h
theorem guardK_F (hb : b = !w) (h : stepsK P Q rest ((S.is d (!w)).put dst (.tup [])) k) : guardK P Q S k op dst d w rest (.imm (.bool b)) := by
  subst hb; cases w
  · exact (guardK_ft ..).mpr h
  · exact (guardK_tf ..).mpr h
theorem guardD_T (hb : b = w) (h : drawK P Q ((op, dst, none) :: rest) m n (S.is d w) k) : guardD P Q S k op dst d w rest m n (.imm (.bool b)) := by subst hb; rw [guardD_same]; exact h
theorem guardD_F (hb : b = !w) (h : drawK P Q rest (if eOp op = true then n + 1 else m) (n + 1) ((S.is d (!w)).put dst (.tup [])) k) : guardD P Q S k op dst d w rest m n (.imm (.bool b)) := by
  subst hb; cases w
  · exact (guardD_ft ..).mpr h
  · exact (guardD_tf ..).mpr h
end
attribute [go_sem] stepsK_grd drawK_grd guardK_same guardK_tf guardK_ft guardK_nn guardD_same guardD_tf guardD_ft
end Go.Proofs.YtdaojihnaajfeaaX

/- Appends that leave the row they were of, and variables that nobody writes any more. Of no program. -/
set_option linter.unusedVariables false
set_option linter.unusedSimpArgs false
namespace Go.Proofs.YtdaojihnaajfeaaX
open Go Go.RowKit
mutual
theorem kill_free {E : Env} {k : Nat} (hk : ¬ E.has k) : ∀ (x : T) (cl : Bool) (v : Value), Rep E cl x v → kill [k] x = x
  | .imm u, cl, v, h => rfl
  | .agg l, cl, v, h => by
    simp only [Rep] at h
    obtain ⟨cs, _, h2⟩ := h
    rw [kill, killL_free hk l cl _ h2]
  | .sl sz full l, cl, v, h => rfl
  | .pp x, cl, v, h => rfl
  | .ref o sz i c, cl, v, h => by
    simp only [Rep] at h
    rw [kill, if_neg]
    intro e
    have : o = k := by simpa using e
    subst this; exact hk h.2.1
  | .rsl o sz off len, cl, v, h => by
    simp only [Rep] at h
    rw [kill, if_neg]
    intro e
    have : o = k := by simpa using e
    subst this; exact hk h.2.1
  | .fn f caps, cl, v, h => by
    simp only [Rep] at h
    obtain ⟨cs, _, h2⟩ := h
    rw [kill, killL_free hk caps cl _ h2]
  | .ifc t x, cl, v, h => by
    simp only [Rep] at h
    obtain ⟨u, _, h2⟩ := h
    rw [kill, kill_free hk x cl u h2]
  | .tup l, cl, v, h => by
    simp only [Rep] at h
    obtain ⟨cs, _, h2⟩ := h
    rw [kill, killL_free hk l cl _ h2]
  | .junk, cl, v, h => rfl
theorem killL_free {E : Env} {k : Nat} (hk : ¬ E.has k) : ∀ (l : List T) (cl : Bool) (vs : List Value), RepL E cl l vs → killL [k] l = l
  | [], cl, vs, h => rfl
  | x :: l, cl, vs, h => by
    simp only [RepL] at h
    obtain ⟨v, vs', _, h2, h3⟩ := h
    rw [killL, kill_free hk x cl v h2, killL_free hk l cl vs' h3]
end
section
variable {P : Program} {B : Base} {S : St} {a : Act} {w : World} {μ : Nat → Option Nat} {k : Nat}
theorem Sat.renew (hS : Sat B S a w μ) (hk : S.objs[k]? = some none) {o : Nat} {y : Own} (ho : S.objs[o]? = some (some y)) (hy : y ≠ .dead) :
    Sat B ⟨S.tmps, (S.objs.set k (some y)).set o (some .dead)⟩ a w (fun i => if i = k then μ o else μ i) ∧ Step [] ⟨w, μ, S.objs, B.ban⟩ ⟨w, fun i => if i = k then μ o else μ i, (S.objs.set k (some y)).set o (some .dead), B.ban⟩ := by
  have hko : k ≠ o := fun e => by subst e; rw [hk] at ho; cases ho
  have hklt : k < S.objs.length := (List.getElem?_eq_some_iff.1 hk).1
  have holt : o < S.objs.length := (List.getElem?_eq_some_iff.1 ho).1
  have hfree : ∀ (i : Nat) (z : Own), S.objs[i]? = some (some z) → i ≠ k := fun i z h e => by subst e; rw [hk] at h; cases h
  have hget : ∀ (i : Nat) (z : Own), ((S.objs.set k (some y)).set o (some .dead))[i]? = some (some z) → (i = k ∧ z = y) ∨ (i = o ∧ z = .dead) ∨ (i ≠ k ∧ i ≠ o ∧ S.objs[i]? = some (some z)) := by
    intro i z h
    rw [List.getElem?_set] at h
    by_cases e : o = i
    · subst e
      rw [if_pos rfl, if_pos (by simpa using holt)] at h
      injection h with h; injection h with h
      exact .inr (.inl ⟨rfl, h.symm⟩)
    · rw [if_neg e, List.getElem?_set] at h
      by_cases e2 : k = i
      · subst e2
        rw [if_pos rfl, if_pos hklt] at h
        injection h with h; injection h with h
        exact .inl ⟨rfl, h.symm⟩
      · rw [if_neg e2] at h
        exact .inr (.inr ⟨fun e' => e2 e'.symm, fun e' => e e'.symm, h⟩)
  have hs : Step [] ⟨w, μ, S.objs, B.ban⟩ ⟨w, fun i => if i = k then μ o else μ i, (S.objs.set k (some y)).set o (some .dead), B.ban⟩ := by
    refine ⟨⟨fun b j v hv => ⟨hv.1, fun lk ⟨i, z, h1, h2, h3⟩ => ?_, hv.2.2⟩, fun b c t fr hb => ⟨c, fr, hb, rfl⟩⟩, fun i ⟨z, h⟩ _ => ?_, fun i ⟨z, h⟩ _ => if_neg (hfree i z h)⟩
    · rcases hget i z h1 with ⟨rfl, rfl⟩ | ⟨rfl, rfl⟩ | ⟨h4, h5, h6⟩
      · have h2' : μ o = some b := by simpa using h2
        exact hv.2.1 lk ⟨o, z, ho, h2', h3⟩
      · cases h3
      · exact hv.2.1 lk ⟨i, z, h6, by simpa [h4] using h2, h3⟩
    · show ∃ x, ((S.objs.set k (some y)).set o (some .dead))[i]? = some (some x)
      rw [List.getElem?_set]
      by_cases e : o = i
      · subst e; rw [if_pos rfl, if_pos (by simpa using holt)]; exact ⟨_, rfl⟩
      · rw [if_neg e, List.getElem?_set, if_neg (fun e' => hfree i z h e'.symm)]; exact ⟨z, h⟩
  refine ⟨?_, hs⟩
  have := hS.go hs ⟨fun i z h => ?_, fun i i' z z' b h h' hz hz' hb hb' => ?_⟩ (fun i z b h hz hb => ?_) hS.kept
  · rwa [killL_nil] at this
  · have at_ : ∀ (i' : Nat) (z' : Own), S.objs[i']? = some (some z') → ∀ i'', (if i'' = k then μ o else μ i'') = μ i' → OwnAt ⟨w, fun i => if i = k then μ o else μ i, (S.objs.set k (some y)).set o (some .dead), B.ban⟩ i'' z' := by
      intro i' z' hz' i'' hm
      cases z' with
      | box t x lk =>
        obtain ⟨b, fr, u, h1, h2, h3, h6, h7⟩ := hS.objs.at_ i' _ hz'
        exact ⟨b, fr, u, hm.trans h1, h2, h3, Rep.step hs h6, h7⟩
      | buf t sz l lk =>
        obtain ⟨h0, h1⟩ := hS.objs.at_ i' _ hz'
        exact ⟨h0, h1.imp (fun h => ⟨hm.trans h.1, h.2⟩) fun ⟨b, c, fr, c1, c2, h1, h2, h3, h6, h7⟩ => ⟨b, c, fr, c1, c2, hm.trans h1, h2, h3, h6, RepR.stepC hs.toStepC _ _ _ h7⟩⟩
      | dead => trivial
    rcases hget i z h with ⟨rfl, rfl⟩ | ⟨rfl, rfl⟩ | ⟨h4, h5, h6⟩
    · exact at_ o _ ho _ (if_pos rfl)
    · trivial
    · exact at_ i _ h6 _ (if_neg h4)
  · rcases hget i z h with ⟨rfl, rfl⟩ | ⟨rfl, rfl⟩ | ⟨h4, h5, h6⟩
    · rcases hget i' z' h' with ⟨rfl, rfl⟩ | ⟨rfl, rfl⟩ | ⟨g4, g5, g6⟩
      · rfl
      · exact absurd rfl hz'
      · have e1 : μ o = some b := by simpa using hb
        have e2 : μ i' = some b := by simpa [g4] using hb'
        exact absurd (hS.objs.inj i' o z' z b g6 ho hz' hy e2 e1) g5
    · exact absurd rfl hz
    · rcases hget i' z' h' with ⟨rfl, rfl⟩ | ⟨rfl, rfl⟩ | ⟨g4, g5, g6⟩
      · have e1 : μ o = some b := by simpa using hb'
        have e2 : μ i = some b := by simpa [h4] using hb
        exact absurd (hS.objs.inj i o z z' b h6 ho hz hy e2 e1) h5
      · exact absurd rfl hz'
      · exact hS.objs.inj i i' z z' b h6 g6 hz hz' (by simpa [h4] using hb) (by simpa [g4] using hb')
  · rcases hget i z h with ⟨rfl, rfl⟩ | ⟨rfl, rfl⟩ | ⟨h4, h5, h6⟩
    · exact hS.fresh o z b ho hz (by simpa using hb)
    · exact absurd rfl hz
    · exact hS.fresh i z b h6 hz (by simpa [h4] using hb)
def lookX (s : T) (look : Nat → Option Own) : Nat → Option Own := fun i => match s with
  | .rsl o _ _ _ => if i = o then none else look i
  | _ => none
theorem lookX_le {s : T} {look : Nat → Option Own} {i : Nat} {x : Own} (h : lookX s look i = some x) : look i = some x := by
  unfold lookX at h
  cases s with
  | rsl o a b c =>
    have h : (if i = o then none else look i) = some x := h
    by_cases e : i = o
    · rw [if_pos e] at h; cases h
    · rw [if_neg e] at h; exact h
  | _ => cases h
def appendS (P : Program) (k : Nat) (sT xT : TypeId) (s x : T) (look : Nat → Option Own) (K : T → Eff → Prop) : Prop :=
  match P.underlying sT with
  | some (.slice e) => okT P e = true ∧ szOf P e ≠ 0 ∧ (zeroOf P e).cells.length = szOf P e ∧ (∀ i, P.info? e = some i → i.bytes ≤ 256) ∧ newsW P xT x (lookX s look) fun sz xs => (sz = szOf P e ∨ xs = []) ∧ (match s with
    | .rsl o szs off len => (match look o with
      | some (.buf bt sz' l lk) => off = 0 ∧ szs = szOf P e ∧ sz' = szOf P e ∧ bt = e ∧ len ≤ l.length ∧ lk ≤ len ∧ len + xs.length ≤ 549755813888 ∧ K (.rsl k (szOf P e) 0 (len + xs.length)) (.shift o (.buf e (szOf P e) (l.take len ++ xs) (len + xs.length)))
      | _ => False)
    | _ => False)
  | _ => False
theorem newsW_look {xT : TypeId} {x : T} {look look' : Nat → Option Own} {K : Nat → List T → Prop} (h : newsW P xT x look K) (hk : ∀ i y, look i = some y → look' i = some y) : newsW P xT x look' K := by
  unfold newsW at h ⊢
  split at h
  · exact h
  · unfold elemsW at h ⊢
    split at h
    · exact h
    · split at h
      · rename_i hh
        rw [hk _ _ hh]; exact h
      · exact h.elim
    · exact h.elim
  · exact h.elim
theorem newsW_mono {xT : TypeId} {x : T} {look : Nat → Option Own} {K K' : Nat → List T → Prop} (h : newsW P xT x look K) (hK : ∀ sz l, K sz l → K' sz l) : newsW P xT x look K' := by
  unfold newsW at h ⊢
  split at h
  · exact hK _ _ h
  · unfold elemsW at h ⊢
    split at h
    · exact hK _ _ h
    · split at h
      · first | exact hK _ _ h | exact ⟨h.1, hK _ _ h.2⟩ | exact ⟨h.1, h.2.1, hK _ _ h.2.2⟩ | exact ⟨h.1, h.2.1, h.2.2.1, hK _ _ h.2.2.2⟩
      · exact h.elim
    · exact h.elim
  · exact h.elim
theorem appendS_sound (hS : Sat B S a w μ) (hk : S.objs[k]? = some none) {k2 : Nat} (hk2 : S.objs[k2]? = some none) (hkk : k2 ≠ k) {sT xT ty : TypeId} {s x : T} {u v : Value} {look : Nat → Option Own} {K : T → Eff → Prop} (h : appendS P k sT xT s x look K)
    (hs : Rep ⟨w, μ, S.objs, B.ban⟩ false s u) (hx : Rep ⟨w, μ, S.objs, B.ban⟩ false x v) (hl : ∀ i x, look i = some x → S.objs[i]? = some (some x)) :
    ∃ r eff q w', K r eff ∧ (Builtin.append_ #[sT, xT] ty #[u, v]).run P w = .ok q w' ∧ Post B S a k eff r q w' := by
  unfold appendS at h
  split at h
  case h_2 => exact h.elim
  rename_i e ht
  obtain ⟨ho, hz0, hzl, hby, h0⟩ := h
  -- the row
  obtain ⟨o, szs, off, len, rfl, bt, sz', l, lk, hlk, h0⟩ : ∃ o szs off len, s = .rsl o szs off len ∧ ∃ bt sz' l lk, look o = some (.buf bt sz' l lk) ∧ newsW P xT x (fun i => if i = o then none else look i) fun sz xs => (sz = szOf P e ∨ xs = []) ∧ (off = 0 ∧ szs = szOf P e ∧ sz' = szOf P e ∧ bt = e ∧ len ≤ l.length ∧ lk ≤ len ∧ len + xs.length ≤ 549755813888 ∧ K (.rsl k (szOf P e) 0 (len + xs.length)) (.shift o (.buf e (szOf P e) (l.take len ++ xs) (len + xs.length)))) := by
    have hne : ∃ sz xs, (sz = szOf P e ∨ xs = []) ∧ (match s with
      | .rsl o szs off len => (match look o with
        | some (.buf bt sz' l lk) => off = 0 ∧ szs = szOf P e ∧ sz' = szOf P e ∧ bt = e ∧ len ≤ l.length ∧ lk ≤ len ∧ len + xs.length ≤ 549755813888 ∧ K (.rsl k (szOf P e) 0 (len + xs.length)) (.shift o (.buf e (szOf P e) (l.take len ++ xs) (len + xs.length)))
        | _ => False)
      | _ => False) := by
      obtain ⟨sz, xs, c, h1, _⟩ := news_sound h0 hx hS (fun i x h => hl i x (lookX_le h))
      exact ⟨sz, xs, h1⟩
    obtain ⟨sz, xs, _, h2⟩ := hne
    split at h2
    · rename_i o szs off len
      split at h2
      · rename_i bt sz' l lk hlk
        refine ⟨o, szs, off, len, rfl, bt, sz', l, lk, hlk, newsW_mono h0 fun sz xs h => ⟨h.1, ?_⟩⟩
        have := h.2
        simp only [hlk] at this
        exact this
      · exact h2.elim
    · exact h2.elim
  have hoo := hl _ _ hlk
  have hko : k ≠ o := fun e => by subst e; rw [hk] at hoo; cases hoo
  have hk2o : k2 ≠ o := fun e => by subst e; rw [hk2] at hoo; cases hoo
  have hklt : k < S.objs.length := (List.getElem?_eq_some_iff.1 hk).1
  have holt : o < S.objs.length := (List.getElem?_eq_some_iff.1 hoo).1
  obtain ⟨hS1, hst⟩ := hS.renew hk hoo (by simp)
  have hk2' : ((S.objs.set k (some (.buf bt sz' l lk))).set o (some .dead))[k2]? = some none := by
    rw [List.getElem?_set, if_neg (fun e => hk2o e.symm), List.getElem?_set, if_neg (fun e => hkk e.symm)]; exact hk2
  have hkk' : ((S.objs.set k (some (.buf bt sz' l lk))).set o (some .dead))[k]? = some (some (.buf bt sz' l lk)) := by
    rw [List.getElem?_set, if_neg (fun e => hko e.symm), List.getElem?_set, if_pos rfl, if_pos hklt]
  have hs1 : Rep ⟨w, fun i => if i = k then μ o else μ i, (S.objs.set k (some (.buf bt sz' l lk))).set o (some .dead), B.ban⟩ false (.rsl k szs off len) u := by
    simp only [Rep] at hs ⊢
    refine ⟨trivial, ⟨_, hkk'⟩, ?_⟩
    simp only [if_true]
    exact hs.2.2
  obtain ⟨r, eff, q, w', ⟨L', n', hL', rfl, rfl, hK⟩, hrun, μ', hP1, hP2⟩ := append_sound (P := P) (ty := ty) (k := k2) (look := fun i => if i = k then some (.buf bt sz' l lk) else if i = o then none else look i) (K := fun r eff => ∃ (L' : List T) (n' : Nat), L'.length = n' ∧ eff = .move [k] k (.buf e (szOf P e) L' lk) ∧ r = .rsl k (szOf P e) 0 n' ∧ K (.rsl k (szOf P e) 0 n') (.shift o (.buf e (szOf P e) L' n'))) hS1 hk2' (by
      unfold appendW
      rw [ht]
      refine ⟨ho, hz0, hzl, hby, newsW_look (newsW_mono h0 fun sz xs h => ⟨h.1, ?_⟩) (fun i y hy => by
        by_cases e1 : i = o
        · rw [if_pos e1] at hy; cases hy
        · rw [if_neg e1] at hy
          have hne : i ≠ k := fun e2 => by subst e2; have := hl _ _ hy; rw [hk] at this; cases this
          rw [if_neg hne, if_neg e1]; exact hy)⟩
      obtain ⟨_, g1, g2, g3, g4, g5, g6, g7, g8⟩ := h
      simp only [if_pos]
      exact ⟨g1, g2, g3, g4, g5, g6, g7, _, _, by rw [List.length_append, List.length_take]; omega, rfl, rfl, g8⟩) hs1 (Rep.step hst hx) (fun i x h => by
      by_cases e : i = k
      · subst e; rw [if_pos rfl] at h; injection h with h; subst h; exact hkk'
      · rw [if_neg e] at h
        by_cases e2 : i = o
        · rw [if_pos e2] at h; cases h
        · rw [if_neg e2] at h
          rw [List.getElem?_set, if_neg (fun q => e2 q.symm), List.getElem?_set, if_neg (fun q => e q.symm)]
          exact hl _ _ h)
  have hnk : ¬ (⟨w, μ, S.objs, B.ban⟩ : Env).has k := by
    rintro ⟨z, hz⟩
    have hz : S.objs[k]? = some (some z) := hz
    rw [hk] at hz; cases hz
  have e1 : killL [k] S.tmps = S.tmps := killL_free hnk _ _ _ hS.tmps
  have e2 : (((S.objs.set k (some (.buf bt sz' l lk))).set o (some .dead)).map (Option.map (Own.kill [k]))).set k (some (.buf e (szOf P e) L' lk)) = (S.objs.set k (some (.buf e (szOf P e) L' lk))).set o (some .dead) := by
    apply List.ext_getElem?
    intro i
    rw [List.getElem?_set, List.getElem?_set]
    by_cases i1 : k = i
    · subst i1
      rw [if_pos rfl, if_pos (by simpa using hklt), if_neg (fun e => hko e.symm), List.getElem?_set, if_pos rfl, if_pos hklt]
    · rw [if_neg i1, List.getElem?_map, List.getElem?_set]
      by_cases i2 : o = i
      · subst i2
        rw [if_pos rfl, if_pos (by simpa using holt), if_pos rfl, if_pos (by simpa using holt)]; rfl
      · rw [if_neg i2, if_neg i2, List.getElem?_set, if_neg i1, List.getElem?_set, if_neg i1]
        cases hz : S.objs[i]? with
        | none => rfl
        | some z =>
          cases z with
          | none => rfl
          | some z =>
            have := hS.objs.at_ i z hz
            cases z with
            | box t x lk' =>
              obtain ⟨b, fr, u', h1, h2, h3, h6, h7⟩ := this
              simp only [Option.map_some, Own.kill, kill_free hnk x _ _ h6]
            | buf t sz l' lk' => rfl
            | dead => rfl
  have hP1' : Sat B ⟨killL [k] S.tmps, (((S.objs.set k (some (.buf bt sz' l lk))).set o (some .dead)).map (Option.map (Own.kill [k]))).set k (some (.buf e (szOf P e) L' lk))⟩ a w' μ' := hP1
  have hP2' : Rep ⟨w', μ', (((S.objs.set k (some (.buf bt sz' l lk))).set o (some .dead)).map (Option.map (Own.kill [k]))).set k (some (.buf e (szOf P e) L' lk)), B.ban⟩ false (.rsl k (szOf P e) 0 n') q := hP2
  rw [e1, e2] at hP1'
  rw [e2] at hP2'
  have hlkL : lk ≤ L'.length := by
    have := hP1'.objs.at_ k (.buf e (szOf P e) L' lk) (by
      show ((S.objs.set k (some (.buf e (szOf P e) L' lk))).set o (some .dead))[k]? = _
      rw [List.getElem?_set, if_neg (fun e => hko e.symm), List.getElem?_set, if_pos rfl, if_pos hklt])
    exact this.1
  have hfin := hP1'.relock (objs' := (S.objs.set k (some (.buf e (szOf P e) L' n'))).set o (some .dead)) (fun i => by
    have g : ∀ (z : Own), ((S.objs.set k (some z)).set o (some .dead))[i]? = if o = i then some (some .dead) else if k = i then some (some z) else S.objs[i]? := by
      intro z
      rw [List.getElem?_set]
      by_cases i2 : o = i
      · rw [if_pos i2, if_pos i2, if_pos (by simpa using holt)]
      · rw [if_neg i2, if_neg i2, List.getElem?_set]
        by_cases i1 : k = i
        · rw [if_pos i1, if_pos i1, if_pos hklt]
        · rw [if_neg i1, if_neg i1]
    show RL ((S.objs.set k (some (.buf e (szOf P e) L' lk))).set o (some .dead))[i]? _
    rw [g, g]
    by_cases i2 : o = i
    · rw [if_pos i2, if_pos i2]; exact RL.refl _
    · rw [if_neg i2, if_neg i2]
      by_cases i1 : k = i
      · rw [if_pos i1, if_pos i1]
        exact RL.buf (by omega) (fun _ => by omega)
      · rw [if_neg i1, if_neg i1]; exact RL.refl _)
  refine ⟨.rsl k (szOf P e) 0 n', .shift o (.buf e (szOf P e) L' n'), q, w', hK, hrun, μ', hfin, ?_⟩
  simp only [Rep] at hP2' ⊢
  refine ⟨trivial, ⟨.buf e (szOf P e) L' n', ?_⟩, hP2'.2.2⟩
  show ((S.objs.set k (some (.buf e (szOf P e) L' n'))).set o (some .dead))[k]? = _
  rw [List.getElem?_set, if_neg (fun e => hko e.symm), List.getElem?_set, if_pos rfl, if_pos hklt]
end
def shiftW (P : Program) (k : Nat) (op : Op) (ρ : Operand → T) (look : Nat → Option Own) (K : T → Eff → Prop) : Prop :=
  match op with
  | .call ⟨.builtin .append, ⟨[s, x]⟩, ⟨[t, u]⟩⟩ => appendS P k t u (ρ s) (ρ x) look K
  | _ => False
def opX (P : Program) (k : Nat) (op : Op) (ρ : Operand → T) (look : Nat → Option Own) (K : T → Eff → Prop) : Prop := opW P k op ρ look K ∨ shiftW P k op ρ look K
theorem opX_sound {P : Program} {B : Base} {S : St} {a : Act} {w : World} {μ : Nat → Option Nat} {k k2 : Nat} {o : Oper} {ρ : Operand → T} {look : Nat → Option Own} {K : T → Eff → Prop} (h : opX P k o.op ρ look K) (hS : Sat B S a w μ) (hρ : ∀ x, x ∈ o.op.operands.toList → evalT S x = ρ x) (hl : ∀ i x, look i = some x → S.objs[i]? = some (some x)) (hk : S.objs[k]? = some none) (hk2 : S.objs[k2]? = some none) (hkk : k2 ≠ k) :
    ∃ v eff, K v eff ∧ Yields P o a w (Post B S a k eff v) := by
  rcases h with h | h
  · exact op_sound h hS hρ hl hk
  · unfold shiftW at h
    split at h
    · rename_i s x t u hop
      have hA := repL_map (o := o) (fun y hy => by have := hS.eval y; rwa [hρ y hy] at this) [s, x] (by rw [hop]; intro y hy; simp [Op.operands, Call.operands]; simpa using hy)
      simp only [List.map_cons, List.map_nil, RepL] at hA
      obtain ⟨v1, vs1, e1, hx1, v2, vs2, e2, hx2, e3⟩ := hA
      subst e3 e2
      obtain ⟨cs0, hexec⟩ : ∃ cs0, execOp a.eval o = (do
          let d ← (pure { target := .builtin .append ⟨[t, u]⟩ o.type cs0, args := Array.map a.eval ⟨[s, x]⟩ } : Sem Deferred)
          invoke d.target d.args) := ⟨_, by unfold execOp; simp only [hop, resolve]; rfl⟩
      obtain ⟨r, eff, q, w', h1, h2, h3⟩ := appendS_sound (P := P) (ty := o.type) hS hk hk2 hkk h hx1 hx2 hl
      refine ⟨r, eff, h1, yields_value (v := q) ?_ h3⟩
      have ets : (⟨[t, u]⟩ : Array TypeId) = #[t, u] := rfl
      have eargs : Array.map a.eval ⟨[s, x]⟩ = #[v1, v2] := by
        rw [← Array.toArray_toList (xs := Array.map a.eval ⟨[s, x]⟩), Array.toList_map]
        exact congrArg List.toArray e1
      rw [hexec, run_bind (show (pure _ : Sem Deferred).run P w = .ok _ w from rfl)]
      simp only [invoke, builtin, ets, eargs]
      rw [run_bind h2]; rfl
    · exact h.elim
end Go.Proofs.YtdaojihnaajfeaaX

/- Regions that draw their order, where some operations that only compute are bound to no write. Of no program. -/
set_option linter.unusedVariables false
set_option linter.unusedSimpArgs false
namespace Go.Proofs.YtdaojihnaajfeaaX
open Go Go.RowKit
def nkE : Eff → Bool
  | .move .. => false
  | .many .. => false
  | _ => true
def objsE (k : Nat) : Res → List (Option Own) → List (Option Own)
  | some (_, .new x), l => l.set k (some x)
  | some (_, .put o x), l => l.set o (some x)
  | some (_, .shift o x), l => (l.set k (some x)).set o (some .dead)
  | _, l => l
theorem applyR_nk {k : Nat} {dst : Option Tmp} {r : Res} {S : St} (h : ∀ v e, r = some (v, e) → nkE e = true) : applyR k dst r S = ⟨(match dst with | some d => S.tmps.set d (valR r) | none => S.tmps), objsE k r S.objs⟩ := by
  cases r with
  | none => cases dst <;> rfl
  | some p =>
    obtain ⟨v, e⟩ := p
    have hq := h v e rfl
    cases e <;> first | (cases dst <;> rfl) | cases hq
theorem objsE_len (k : Nat) (r : Res) (o : List (Option Own)) : (objsE k r o).length = o.length := by
  cases r with
  | none => rfl
  | some p => obtain ⟨v, e⟩ := p; cases e <;> simp [objsE]
theorem objsE_at {k : Nat} {r : Res} {o o' : List (Option Own)} {q : Nat} (hl : o.length = o'.length) (h : o[q]? = o'[q]?) : (objsE k r o)[q]? = (objsE k r o')[q]? := by
  cases r with
  | none => exact h
  | some p => obtain ⟨v, e⟩ := p; cases e <;> simp only [objsE, List.getElem?_set, List.length_set, hl, h]
section
variable (ops : Array Oper) (n0 : Nat) (R : Nat → Res)
def stT (j : Nat) (t : List T) : List T := match dstOf ops j with
  | some d => t.set d (valR (R j))
  | none => t
def tF (D : Nat → Bool) (l : List Nat) (t : List T) : List T := l.foldl (fun t j => if D j then stT ops R j t else t) t
def oF (D : Nat → Bool) (l : List Nat) (o : List (Option Own)) : List (Option Own) := l.foldl (fun o j => if D j then objsE (n0 + j) (R j) o else o) o
variable {ops n0 R}
theorem foldD_nk {D : Nat → Bool} : ∀ (l : List Nat) (S : St), (∀ j ∈ l, ∀ v e, R j = some (v, e) → nkE e = true) → foldD ops n0 R D l S = ⟨tF ops R D l S.tmps, oF n0 R D l S.objs⟩
  | [], S, _ => rfl
  | j :: l, S, h => by
    show foldD ops n0 R D l _ = _
    rw [foldD_nk l _ fun k hk => h k (by simp [hk])]
    show _ = St.mk (tF ops R D l _) (oF n0 R D l _)
    by_cases hD : D j = true
    · simp only [hD, if_true]
      unfold stepR
      rw [applyR_nk (h j (by simp))]
      rfl
    · simp only [hD, if_false, Bool.false_eq_true]
theorem stT_len (j : Nat) (t : List T) : (stT ops R j t).length = t.length := by
  unfold stT; cases dstOf ops j <;> simp
theorem stT_get {j t : Nat} {tm : List T} (h : dstOf ops j ≠ some t) : (stT ops R j tm).getD t .junk = tm.getD t .junk := by
  unfold stT
  cases hd : dstOf ops j with
  | none => rfl
  | some d =>
    have : d ≠ t := fun e => h (by rw [hd, e])
    simp only [List.getD_eq_getElem?_getD, List.getElem?_set, if_neg this]
theorem tF_get {t : Tmp} {D D' : Nat → Bool} : ∀ (l : List Nat) (tm tm' : List T), tm.length = tm'.length → tm.getD t .junk = tm'.getD t .junk → (∀ j ∈ l, dstOf ops j = some t → D j = D' j) →
    (tF ops R D l tm).getD t .junk = (tF ops R D' l tm').getD t .junk
  | [], tm, tm', _, h, _ => h
  | j :: l, tm, tm', hl, h, hj => by
    show (tF ops R D l _).getD t .junk = (tF ops R D' l _).getD t .junk
    refine tF_get l _ _ ?_ ?_ fun k hk => hj k (by simp [hk])
    · by_cases h1 : D j = true <;> by_cases h2 : D' j = true <;> simp [h1, h2, stT_len, hl]
    · by_cases e : dstOf ops j = some t
      · have hD := hj j (by simp) e
        by_cases h1 : D j = true
        · have h2 : D' j = true := hD ▸ h1
          simp only [h1, h2, if_true]
          unfold stT
          rw [e]
          simp only [List.getD_eq_getElem?_getD, List.getElem?_set, if_true, hl]
        · have h2 : ¬ D' j = true := hD ▸ h1
          simp only [h1, h2, if_false, Bool.false_eq_true]; exact h
      · by_cases h1 : D j = true <;> by_cases h2 : D' j = true <;> simp only [h1, h2, if_true, if_false, Bool.false_eq_true, stT_get e] <;> exact h
section
variable (hdd : ∀ (i j : Nat) (d : Tmp), i ≠ j → dstOf ops i = some d → dstOf ops j ≠ some d)
include hdd
theorem stT_comm {i j : Nat} (h : i ≠ j) (t : List T) : stT ops R i (stT ops R j t) = stT ops R j (stT ops R i t) := by
  unfold stT
  cases hi : dstOf ops i with
  | none => rfl
  | some d =>
    cases hj : dstOf ops j with
    | none => rfl
    | some d' => exact List.set_comm _ _ (fun e => hdd i j d h hi (by rw [hj, e]))
theorem tF_out {D : Nat → Bool} {i : Nat} : ∀ (l : List Nat) (t : List T), i ∉ l → tF ops R D l (stT ops R i t) = stT ops R i (tF ops R D l t)
  | [], t, _ => rfl
  | j :: l, t, h => by
    simp only [List.mem_cons, not_or] at h
    show tF ops R D l _ = stT ops R i (tF ops R D l _)
    by_cases hD : D j = true
    · simp only [hD, if_true]
      rw [stT_comm hdd (fun e => h.1 e.symm), tF_out l _ h.2]
    · simp only [hD, if_false, Bool.false_eq_true]
      exact tF_out l _ h.2
end
theorem tF_same {D : Nat → Bool} {i : Nat} : ∀ (l : List Nat) (t : List T), i ∉ l → tF ops R (fun j => D j || j == i) l t = tF ops R D l t
  | [], t, _ => rfl
  | k :: l, t, h => by
    simp only [List.mem_cons, not_or] at h
    show tF ops R _ l _ = tF ops R D l _
    have : (k == i) = false := by simpa using fun e => h.1 e.symm
    simp only [this, Bool.or_false]
    exact tF_same l _ h.2
theorem oF_same {D : Nat → Bool} {i : Nat} : ∀ (l : List Nat) (o : List (Option Own)), i ∉ l → oF n0 R (fun j => D j || j == i) l o = oF n0 R D l o
  | [], t, _ => rfl
  | k :: l, t, h => by
    simp only [List.mem_cons, not_or] at h
    show oF n0 R _ l _ = oF n0 R D l _
    have : (k == i) = false := by simpa using fun e => h.1 e.symm
    simp only [this, Bool.or_false]
    exact oF_same l _ h.2
theorem tF_add (hdd : ∀ (i j : Nat) (d : Tmp), i ≠ j → dstOf ops i = some d → dstOf ops j ≠ some d) {D : Nat → Bool} {i : Nat} (hi : D i = false) : ∀ (l : List Nat) (t : List T), l.Nodup → i ∈ l → tF ops R (fun j => D j || j == i) l t = stT ops R i (tF ops R D l t)
  | [], t, _, h => by cases h
  | j :: l, t, hn, h => by
    rw [List.nodup_cons] at hn
    by_cases e : j = i
    · subst e
      show tF ops R _ l _ = stT ops R j (tF ops R D l _)
      simp only [beq_self_eq_true, Bool.or_true, if_true, hi, Bool.false_eq_true, if_false]
      rw [tF_same l _ hn.1, tF_out hdd l t hn.1]
    · show tF ops R _ l _ = stT ops R i (tF ops R D l _)
      have : (j == i) = false := by simpa using e
      simp only [this, Bool.or_false]
      exact tF_add hdd hi l _ hn.2 (by rcases List.mem_cons.1 h with h | h; exact absurd h.symm e; exact h)
theorem oF_out {D : Nat → Bool} {i : Nat} : ∀ (l : List Nat) (o : List (Option Own)), (∀ j ∈ l, D j = true → ∀ o, objsE (n0 + i) (R i) (objsE (n0 + j) (R j) o) = objsE (n0 + j) (R j) (objsE (n0 + i) (R i) o)) → oF n0 R D l (objsE (n0 + i) (R i) o) = objsE (n0 + i) (R i) (oF n0 R D l o)
  | [], o, _ => rfl
  | j :: l, o, h => by
    show oF n0 R D l _ = objsE _ _ (oF n0 R D l _)
    by_cases hD : D j = true
    · simp only [hD, if_true]
      rw [← h j (by simp) hD, oF_out l _ fun k hk => h k (by simp [hk])]
    · simp only [hD, if_false, Bool.false_eq_true]
      exact oF_out l _ fun k hk => h k (by simp [hk])
theorem oF_add {D : Nat → Bool} {i : Nat} (hi : D i = false) : ∀ (l : List Nat) (o : List (Option Own)), l.Pairwise (· < ·) → i ∈ l → (∀ j ∈ l, D j = true → i < j → ∀ o, objsE (n0 + i) (R i) (objsE (n0 + j) (R j) o) = objsE (n0 + j) (R j) (objsE (n0 + i) (R i) o)) → oF n0 R (fun j => D j || j == i) l o = objsE (n0 + i) (R i) (oF n0 R D l o)
  | [], o, _, h, _ => by cases h
  | j :: l, o, hn, h, hc => by
    rw [List.pairwise_cons] at hn
    by_cases e : j = i
    · subst e
      have hni : j ∉ l := fun hm => Nat.lt_irrefl _ (hn.1 j hm)
      show oF n0 R _ l _ = objsE _ _ (oF n0 R D l _)
      simp only [beq_self_eq_true, Bool.or_true, if_true, hi, Bool.false_eq_true, if_false]
      rw [oF_same l _ hni, oF_out l o fun k hk hD => hc k (by simp [hk]) hD (hn.1 k hk)]
    · show oF n0 R _ l _ = objsE _ _ (oF n0 R D l _)
      have : (j == i) = false := by simpa using e
      simp only [this, Bool.or_false]
      exact oF_add hi l _ hn.2 (by rcases List.mem_cons.1 h with h | h; exact absurd h.symm e; exact h) fun k hk => hc k (by simp [hk])
theorem oF_get {q : Nat} {D D' : Nat → Bool} : ∀ (l : List Nat) (o o' : List (Option Own)), o.length = o'.length → o[q]? = o'[q]? → (∀ j ∈ l, D j = D' j ∨ ∀ o, (objsE (n0 + j) (R j) o)[q]? = o[q]?) → (oF n0 R D l o)[q]? = (oF n0 R D' l o')[q]?
  | [], o, o', _, h, _ => h
  | j :: l, o, o', hl, h, hj => by
    show (oF n0 R D l _)[q]? = (oF n0 R D' l _)[q]?
    refine oF_get l _ _ ?_ ?_ fun k hk => hj k (by simp [hk])
    · by_cases h1 : D j = true <;> by_cases h2 : D' j = true <;> simp [h1, h2, objsE_len, hl]
    · rcases hj j (by simp) with e | e
      · by_cases h1 : D j = true
        · have h2 : D' j = true := e ▸ h1
          simp only [h1, h2, if_true]; exact objsE_at hl h
        · have h2 : ¬ D' j = true := e ▸ h1
          simp only [h1, h2, if_false, Bool.false_eq_true]; exact h
      · by_cases h1 : D j = true <;> by_cases h2 : D' j = true <;> simp only [h1, h2, if_true, if_false, Bool.false_eq_true, e] <;> exact h
end
def okE2 (k : Nat) (op : Op) (S : St) : Eff → Prop
  | .none => True
  | .new _ => True
  | .put o _ => eOp op = true ∧ o < k ∧ (lookS S o).isSome = true
  | .move .. => False
  | .shift o _ => eOp op = true ∧ o < k ∧ (lookS S o).isSome = true
  | .many .. => False
def drawW2 (P : Program) (ops : Array Oper) (lt : Nat → Bool) (n0 : Nat) : List Oper → Nat → Nat → St → (St → Prop) → Prop
  | [], _, _, S, K => K S
  | o :: rest, i, b, S, K => guardW ops S o
      (∃ v eff, (if lt i = true then opW P (n0 + ops.size) o.op (evalT S) (fun _ => none) (fun v' e' => v' = v ∧ e' = eff) ∧ eff = .none else opX P (n0 + i) o.op (evalT S) (fun q => if eOp o.op = true ∨ q < b then lookS S q else none) (fun v' e' => v' = v ∧ e' = eff) ∧ okE2 (n0 + i) o.op S eff) ∧
        drawW2 P ops lt n0 rest (i + 1) (if eOp o.op = true then n0 + i + 1 else b) ((S.eff (n0 + i) eff).put o.dst v) K)
      (drawW2 P ops lt n0 rest (i + 1) (if eOp o.op = true then n0 + i + 1 else b) (S.put o.dst (.tup [])) K)
def totOk2 (lt : Nat → Bool) (ms : List Nat) (n e : Nat) : Bool := (List.range n).all fun j => j == e || lt j || (if j < e then (ms.getD e 0).testBit j else (ms.getD j 0).testBit e)
def drawOk2 (ops : Array Oper) (lt : Nat → Bool) : Bool :=
  (let ms := masks ops.toList []; ops.toList.zipIdx.all fun p => !eOp p.1.op || (!lt p.2 && totOk2 lt ms ops.size p.2)) &&
  (ops.toList.zipIdx.all fun p => (afterOf p.1).all (· < p.2)) && ops.toList.zipIdx.all fun p => ops.toList.zipIdx.all fun q => pairOk ops p.2 q.2 p.1 q.1
def Good2 (P : Program) (ops : Array Oper) (lt : Nat → Bool) (n0 : Nat) (i : Nat) (r : Res) (S : St) (o : Oper) : Prop :=
  match r with
  | some (v, e) => guardW ops S o True False ∧ (if lt i = true then opW P (n0 + ops.size) o.op (evalT S) (fun _ => none) (fun v' e' => v' = v ∧ e' = e) ∧ e = .none else opX P (n0 + i) o.op (evalT S) (lookB S o (bOf ops n0 i)) (fun v' e' => v' = v ∧ e' = e) ∧ okE2 (n0 + i) o.op S e)
  | none => guardW ops S o False True
theorem draw2_extract {P : Program} {ops : Array Oper} {lt : Nat → Bool} {n0 : Nat} {K : St → Prop} : ∀ (l : List Oper) (i : Nat) (S : St), (∀ j, l[j]? = ops[i + j]?) → drawW2 P ops lt n0 l i (bOf ops n0 i) S K →
    ∃ R : Nat → Res, K (runR ops n0 R (List.range' i l.length) S) ∧ ∀ j o, l[j]? = some o → Good2 P ops lt n0 (i + j) (R (i + j)) (runR ops n0 R (List.range' i j) S) o
  | [], i, S, hl, h => ⟨fun _ => none, h, fun j o h => by simp at h⟩
  | o :: l, i, S, hl, h => by
    have h0 : ops[i]? = some o := by simpa using (hl 0).symm
    have hdst : dstOf ops i = o.dst := by simp [dstOf, h0]
    have hl' : ∀ j, l[j]? = ops[i + 1 + j]? := fun j => by have := hl (j + 1); simpa [Nat.add_assoc, Nat.add_comm 1 j] using this
    have hb : (if eOp o.op = true then n0 + i + 1 else bOf ops n0 i) = bOf ops n0 (i + 1) := by simp only [bOf, h0]
    unfold drawW2 at h
    rw [hb] at h
    have fin : ∀ (r : Res), Good2 P ops lt n0 i r S o → drawW2 P ops lt n0 l (i + 1) (bOf ops n0 (i + 1)) (applyR (n0 + i) o.dst r S) K →
        ∃ R : Nat → Res, K (runR ops n0 R (List.range' i (o :: l).length) S) ∧ ∀ j o', (o :: l)[j]? = some o' → Good2 P ops lt n0 (i + j) (R (i + j)) (runR ops n0 R (List.range' i j) S) o' := by
      intro r hgood hrest
      obtain ⟨R, h2, h3⟩ := draw2_extract l (i + 1) _ hl' hrest
      have hstep : ∀ (R' : Nat → Res) (m : Nat) (S : St), (∀ j, i + 1 ≤ j → R' j = R j) → runR ops n0 R' (List.range' (i + 1) m) S = runR ops n0 R (List.range' (i + 1) m) S := by
        intro R' m S hR
        unfold runR
        have : ∀ (l : List Nat) (S : St), (∀ j ∈ l, i + 1 ≤ j) → l.foldl (fun S j => stepR ops n0 R' j S) S = l.foldl (fun S j => stepR ops n0 R j S) S := by
          intro l
          induction l with
          | nil => intro S _; rfl
          | cons j l ih =>
            intro S hj
            simp only [List.foldl_cons]
            have e : stepR ops n0 R' j S = stepR ops n0 R j S := by unfold stepR; rw [hR j (hj j (by simp))]
            rw [e]; exact ih _ fun k hk => hj k (by simp [hk])
        exact this _ _ fun j hj => by rw [List.mem_range'_1] at hj; omega
      let R' : Nat → Res := fun j => if j = i then r else R j
      have hR'i : R' i = r := if_pos rfl
      have hR' : ∀ j, i + 1 ≤ j → R' j = R j := fun j hj => if_neg (by omega)
      have hfirst : ∀ S, stepR ops n0 R' i S = applyR (n0 + i) o.dst r S := fun S => by unfold stepR; rw [hR'i, hdst]
      refine ⟨R', ?_, fun j o' hj => ?_⟩
      · rw [List.length_cons, List.range'_succ]
        show K (runR ops n0 R' (List.range' (i + 1) l.length) (stepR ops n0 R' i S))
        rw [hstep R' _ _ hR', hfirst]; exact h2
      · cases j with
        | zero =>
          simp only [List.getElem?_cons_zero, Option.some.injEq] at hj
          subst hj
          rw [Nat.add_zero, hR'i]
          exact hgood
        | succ j =>
          have := h3 j o' (by simpa using hj)
          rw [show i + (j + 1) = i + 1 + j by omega, hR' _ (by omega), List.range'_succ]
          show Good2 P ops lt n0 _ _ (runR ops n0 R' (List.range' (i + 1) j) (stepR ops n0 R' i S)) o'
          rw [hstep R' _ _ hR', hfirst]; exact this
    rcases guard_cases h with ⟨hg, v, e, hop, hrest⟩ | ⟨hg, hrest⟩
    · exact fin (some (v, e)) ⟨hg, hop⟩ hrest
    · exact fin none hg hrest
theorem drawOk2_out {ops : Array Oper} {lt : Nat → Bool} (h : drawOk2 ops lt = true) : (∀ (i : Nat) (o : Oper), ops[i]? = some o → ∀ a ∈ afterOf o, a < i) ∧ (∀ (i j : Nat) (oi oj : Oper), ops[i]? = some oi → ops[j]? = some oj → pairOk ops i j oi oj = true) ∧
    ∀ e, isE ops e → lt e = false ∧ totOk2 lt (masks ops.toList []) ops.size e = true := by
  unfold drawOk2 at h
  rw [Bool.and_eq_true, Bool.and_eq_true] at h
  have hm : ∀ (i : Nat) (o : Oper), ops[i]? = some o → (o, i) ∈ ops.toList.zipIdx := fun i o ho => by
    rw [List.mk_mem_zipIdx_iff_getElem?, Array.getElem?_toList]; exact ho
  refine ⟨fun i o ho a ha => ?_, fun i j oi oj hi hj => ?_, fun e ⟨o, ho, he⟩ => ?_⟩
  · have := List.all_eq_true.1 h.1.2 (o, i) (hm i o ho)
    have := List.all_eq_true.1 this a ha
    simpa using this
  · have := List.all_eq_true.1 h.2 (oi, i) (hm i oi hi)
    exact List.all_eq_true.1 this (oj, j) (hm j oj hj)
  · have := List.all_eq_true.1 h.1.1 (o, e) (hm e o ho)
    simpa [he] using this
theorem runR_fold {ops : Array Oper} {n0 : Nat} {R : Nat → Res} {n i : Nat} (h : i ≤ n) (S : St) : runR ops n0 R (List.range' 0 i) S = foldD ops n0 R (fun j => decide (j < i)) (List.range n) S := (prefix_eq h S).symm
end Go.Proofs.YtdaojihnaajfeaaX

/- .. that it is so. Of no program. -/
set_option linter.unusedVariables false
set_option linter.unusedSimpArgs false
namespace Go.Proofs.YtdaojihnaajfeaaX
open Go Go.RowKit
theorem bOf_le {ops : Array Oper} {n0 : Nat} : ∀ (i j : Nat), j ≤ i → (∀ p, j ≤ p → p < i → ¬ isE ops p) → bOf ops n0 i ≤ n0 + j
  | 0, j, hj, _ => Nat.le_add_right _ _
  | i + 1, j, hj, h => by
    by_cases e : j = i + 1
    · subst e
      simp only [bOf]
      split
      · split
        · omega
        · exact Nat.le_trans (bOf_le i i (Nat.le_refl _) fun p h1 h2 => by omega) (by omega)
      · exact Nat.le_trans (bOf_le i i (Nat.le_refl _) fun p h1 h2 => by omega) (by omega)
    · have ih : bOf ops n0 i ≤ n0 + j := bOf_le i j (by omega) fun p h1 h2 => h p h1 (by omega)
      simp only [bOf]
      split
      · rename_i o ho
        split
        · rename_i he; exact absurd ⟨o, ho, he⟩ (h i (by omega) (by omega))
        · exact ih
      · exact ih
theorem draw2_sound {P : Program} {B : Base} {S0 : St} {a : Act} {w : World} {μ : Nat → Option Nat} {id : Nat} {ops : Array Oper} {lt : Nat → Bool} {Q : Exit → St → Prop} (hm : P.follows .mixedOrders = true) (hok : drawOk2 ops lt = true)
    (h : drawW2 P ops lt S0.objs.length ops.toList 0 S0.objs.length ⟨S0.tmps, S0.objs ++ List.replicate (ops.size + 1) none⟩ (fun S => Q .normal ⟨S.tmps, trims S.objs⟩)) (hS : Sat B S0 a w μ) : (Code.region id ops true).wp P (SatQ B Q) a w := by
  obtain ⟨hafter, hpair, htot⟩ := drawOk2_out hok
  obtain ⟨R, hK, hgood'⟩ := draw2_extract (n0 := S0.objs.length) ops.toList 0 _ (fun j => by rw [Nat.zero_add, Array.getElem?_toList]) h
  let n0 := S0.objs.length
  let n := ops.size
  let S00 : St := ⟨S0.tmps, S0.objs ++ List.replicate (ops.size + 1) none⟩
  have hgood : ∀ (j : Nat) (o : Oper), ops[j]? = some o → Good2 P ops lt n0 j (R j) (runR ops n0 R (List.range' 0 j) S00) o := fun j o ho => by
    have := hgood' j o (by rw [Array.getElem?_toList]; exact ho)
    rwa [Nat.zero_add] at this
  have hfree00 : ∀ q, n0 ≤ q → q < n0 + n + 1 → S00.objs[q]? = some none := fun q h1 h2 => by
    show (S0.objs ++ List.replicate (ops.size + 1) none)[q]? = some none
    rw [List.getElem?_append_right h1, List.getElem?_replicate, if_pos (by show q - S0.objs.length < ops.size + 1; have : n0 = S0.objs.length := rfl; have : n = ops.size := rfl; omega)]
  have hdd : ∀ (i j : Nat) (d : Tmp), i ≠ j → dstOf ops i = some d → dstOf ops j ≠ some d := by
    intro i j d hij hi hj
    unfold dstOf at hi hj
    cases hoi : ops[i]? with
    | none => rw [hoi] at hi; cases hi
    | some oi =>
      cases hoj : ops[j]? with
      | none => rw [hoj] at hj; cases hj
      | some oj =>
        rw [hoi] at hi; rw [hoj] at hj
        have hi : oi.dst = some d := hi
        have hj : oj.dst = some d := hj
        have := hpair i j oi oj hoi hoj
        unfold pairOk at this
        rw [hj] at this
        simp [hij, hi] at this
  have hsame : ∀ (i : Nat) (x : Own), S00.objs[i]? = some (some x) ↔ S0.objs[i]? = some (some x) := by
    intro i x
    show (S0.objs ++ List.replicate (ops.size + 1) none)[i]? = _ ↔ _
    by_cases hi : i < S0.objs.length
    · rw [List.getElem?_append_left hi]
    · rw [List.getElem?_append_right (by omega), List.getElem?_eq_none (l := S0.objs) (by omega), List.getElem?_replicate]
      split <;> simp
  have hopj : ∀ j, j < n → ∃ o, ops[j]? = some o := fun j hj => ⟨_, Array.getElem?_eq_getElem hj⟩
  -- what each comes to
  have hlate : ∀ j, j < n → lt j = true → ∀ o, objsE (n0 + j) (R j) o = o := by
    intro j hj hl o
    obtain ⟨oj, hoj⟩ := hopj j hj
    have hG := hgood j oj hoj
    cases hr : R j with
    | none => rfl
    | some p =>
      obtain ⟨v, e⟩ := p
      rw [hr] at hG
      have := hG.2
      rw [if_pos hl] at this
      rw [this.2]; rfl
  have hnk : ∀ j, j < n → ∀ v e, R j = some (v, e) → nkE e = true := by
    intro j hj v e hr
    obtain ⟨oj, hoj⟩ := hopj j hj
    have hG := hgood j oj hoj
    rw [hr] at hG
    have h2 := hG.2
    by_cases hl : lt j = true
    · rw [if_pos hl] at h2; rw [h2.2]; rfl
    · rw [if_neg hl] at h2
      have := h2.2
      cases e <;> first | rfl | exact this.elim
  -- where it may touch rows
  have htouch : ∀ j, j < n → lt j = false → (¬ isE ops j → ∀ o, objsE (n0 + j) (R j) o = o ∨ ∃ x, ∀ o, objsE (n0 + j) (R j) o = o.set (n0 + j) x) := by
    intro j hj hl hE o
    obtain ⟨oj, hoj⟩ := hopj j hj
    have hG := hgood j oj hoj
    cases hr : R j with
    | none => exact .inl rfl
    | some p =>
      obtain ⟨v, e⟩ := p
      rw [hr] at hG
      have h2 := hG.2
      rw [if_neg (by simp [hl])] at h2
      have h3 := h2.2
      cases e with
      | none => exact .inl rfl
      | new x => exact .inr ⟨some x, fun _ => rfl⟩
      | put o' x => exact absurd ⟨oj, hoj, h3.1⟩ hE
      | move => exact h3.elim
      | many => exact h3.elim
      | shift o' x => exact absurd ⟨oj, hoj, h3.1⟩ hE
  have hall : ∀ j, j < n → ∀ q, q ≠ n0 + j → (isE ops j → n0 + j ≤ q) → ∀ o, (objsE (n0 + j) (R j) o)[q]? = o[q]? := by
    intro j hj q hq hEq o
    obtain ⟨oj, hoj⟩ := hopj j hj
    have hG := hgood j oj hoj
    cases hr : R j with
    | none => rfl
    | some p =>
      obtain ⟨v, e⟩ := p
      rw [hr] at hG
      have h2 := hG.2
      by_cases hl : lt j = true
      · rw [if_pos hl] at h2; rw [h2.2]; rfl
      · rw [if_neg hl] at h2
        have h3 := h2.2
        cases e with
        | none => rfl
        | new x => show (o.set (n0 + j) (some x))[q]? = _; rw [List.getElem?_set, if_neg (by omega)]
        | put o' x =>
          have := hEq ⟨oj, hoj, h3.1⟩
          have hlt := h3.2.1
          show (o.set o' (some x))[q]? = _
          rw [List.getElem?_set, if_neg (by omega)]
        | move => rfl
        | many => rfl
        | shift o' x =>
          have := hEq ⟨oj, hoj, h3.1⟩
          have hlt := h3.2.1
          show ((o.set (n0 + j) (some x)).set o' (some .dead))[q]? = _
          rw [List.getElem?_set, if_neg (by omega), List.getElem?_set, if_neg (by omega)]
  refine wp_region_any hm ?_
  have hrange : ∀ j ∈ List.range n, j < n := fun j hj => List.mem_range.1 hj
  have hnkr : ∀ j ∈ List.range n, ∀ v e, R j = some (v, e) → nkE e = true := fun j hj => hnk j (hrange j hj)
  have key : ∀ (fuel : Nat) (L : Array Bool) (a : Act) (w : World) (μ : Nat → Option Nat), L.size = n → (L.toList.filter (! ·)).length = fuel →
      (∀ (j : Nat) (o : Oper), L.getD j false = true → ops[j]? = some o → ∀ b ∈ afterOf o, L.getD b false = true) →
      Sat B (foldD ops n0 R (fun j => L.getD j false) (List.range n) S00) a w μ → wpAny P .any ops (SatQ B Q) fuel L a w := by
    intro fuel
    induction fuel with
    | zero =>
      intro L a w μ hL hf hcl hSL
      have hall : ∀ j, j < n → L.getD j false = true := by
        intro j hj
        have h0 : L.toList.filter (! ·) = [] := List.eq_nil_of_length_eq_zero hf
        have := List.filter_eq_nil_iff.1 h0 (L[j]'(by omega)) (by simp)
        simpa [Array.getD_eq_getD_getElem?, show j < L.size by omega] using this
      refine ⟨?_, ?_⟩
      · unfold Region.ready
        rw [List.filter_eq_nil_iff]
        intro j hj
        rw [List.mem_range] at hj
        have := hall j hj
        have e : L.getD j true = true := by
          rw [Array.getD_eq_getD_getElem?] at this ⊢
          rw [Array.getElem?_eq_getElem (by omega)] at this ⊢
          exact this
        simp [e]
      · have ee : foldD ops n0 R (fun j => L.getD j false) (List.range n) S00 = runR ops n0 R (List.range' 0 ops.toList.length) S00 := by
          rw [List.range_eq_range', runR_eq _ _ _ (fun j hj => hall j (by rw [List.mem_range'_1] at hj; omega)), Array.length_toList]
        rw [ee] at hSL
        exact ⟨_, μ, hK, hSL.same fun i x => trims_get _ i x⟩
    | succ fuel ih =>
      intro L a w μ hL hf hcl hSL
      refine ⟨fun hr => ?_, fun i hi => ?_⟩
      · exfalso
        have hex : ∃ i, i < n ∧ L.getD i false = false := by
          have hne : L.toList.filter (! ·) ≠ [] := fun e => by rw [e] at hf; simp at hf
          obtain ⟨b, hb⟩ := List.exists_mem_of_ne_nil _ hne
          rw [List.mem_filter] at hb
          obtain ⟨i, hi, e⟩ := List.getElem_of_mem hb.1
          refine ⟨i, by simpa [hL] using hi, ?_⟩
          rw [Array.getD_eq_getD_getElem?, Array.getElem?_eq_getElem (by simpa using hi)]
          simp at e
          rw [e]
          simpa using hb.2
        obtain ⟨i, hin, hif, hmin⟩ : ∃ i, i < n ∧ L.getD i false = false ∧ ∀ j, j < i → L.getD j false = true := by
          obtain ⟨i, h1, h2⟩ := hex
          induction i using Nat.strongRecOn with
          | _ i ih2 =>
            by_cases hj : ∃ j, j < i ∧ L.getD j false = false
            · obtain ⟨j, h3, h4⟩ := hj
              exact ih2 j h3 (by omega) h4
            · exact ⟨i, h1, h2, fun j h3 => by
                cases h4 : L.getD j false with
                | true => rfl
                | false => exact absurd ⟨j, h3, h4⟩ hj⟩
        have hin' : i < ops.size := hin
        have hmem : i ∈ Region.ready .any ops L := by
          unfold Region.ready
          rw [List.mem_filter, List.mem_range]
          refine ⟨hin', ?_⟩
          have e : L.getD i true = false := by
            rw [Array.getD_eq_getD_getElem?] at hif ⊢
            rw [Array.getElem?_eq_getElem (by omega)] at hif ⊢
            exact hif
          rw [e, Array.getElem?_eq_getElem hin']
          simp only [Bool.not_false, Option.map_some, Option.getD_some, Bool.true_and]
          rw [← Array.all_toList]
          refine List.all_eq_true.2 fun e he => ?_
          by_cases hb : Region.binds .any e = true
          · have : e.on ∈ afterOf ops[i] := List.mem_map.2 ⟨e, List.mem_filter.2 ⟨he, hb⟩, rfl⟩
            rw [hmin _ (hafter i _ (Array.getElem?_eq_getElem hin') _ this)]; simp
          · simp [hb]
        rw [hr] at hmem
        cases hmem
      · unfold Region.ready at hi
        rw [List.mem_filter, List.mem_range] at hi
        obtain ⟨hin, hi⟩ := hi
        rw [Bool.and_eq_true] at hi
        obtain ⟨hif, hia⟩ := hi
        have hin2 : i < n := hin
        have hoi : ops[i]? = some ops[i] := Array.getElem?_eq_getElem hin
        generalize ho : ops[i] = o at hoi
        rw [hoi] at hia
        have hDi : L.getD i false = false := by
          rw [Array.getD_eq_getD_getElem?] at hif ⊢
          rw [Array.getElem?_eq_getElem (by omega)] at hif ⊢
          simpa using hif
        have hla : ∀ b ∈ afterOf o, L.getD b false = true := by
          intro b hb
          obtain ⟨e, he, rfl⟩ := List.mem_map.1 hb
          rw [List.mem_filter] at he
          simp only [Option.map_some, Option.getD_some] at hia
          rw [← Array.all_toList] at hia
          have := List.all_eq_true.1 hia e he.1
          simpa [he.2] using this
        have hcount : (L.toList.filter (! ·)).length = ((L.setIfInBounds i true).toList.filter (! ·)).length + 1 := by
          rw [Array.toList_setIfInBounds]
          refine count_set _ _ ?_
          rw [Array.getElem?_toList, Array.getElem?_eq_getElem (by omega)]
          rw [Array.getD_eq_getD_getElem?, Array.getElem?_eq_getElem (by omega)] at hDi
          simpa using hDi
        have hLget : ∀ j, (L.setIfInBounds i true).getD j false = (L.getD j false || j == i) := by
          intro j
          simp only [Array.getD_eq_getD_getElem?, Array.getElem?_setIfInBounds]
          by_cases hij : i = j
          · subst hij
            rw [if_pos rfl, if_pos (show i < L.size by omega)]; simp
          · have : (j == i) = false := by simpa using fun e => hij e.symm
            rw [if_neg hij, this, Bool.or_false]
        have hcl' : ∀ (j : Nat) (oj : Oper), (L.setIfInBounds i true).getD j false = true → ops[j]? = some oj → ∀ b ∈ afterOf oj, (L.setIfInBounds i true).getD b false = true := by
          intro j oj hj hoj b hb
          rw [hLget] at hj ⊢
          by_cases hij : j = i
          · subst hij
            rw [hoi] at hoj; cases hoj
            rw [hla b hb]; rfl
          · have hLj : L.getD j false = true := by
              have : (j == i) = false := by simpa using hij
              rwa [this, Bool.or_false] at hj
            rw [hcl j oj hLj hoj b hb]; rfl
        -- what is bound to what
        have ahead : ∀ j, ((masks ops.toList []).getD i 0).testBit j = true → L.getD j false = true := fun j hj => mask_listed hafter hcl i o hoi hla j hj
        have behind : ∀ j, j < n → L.getD j false = true → ∀ k, ((masks ops.toList []).getD j 0).testBit k = true → L.getD k false = true := by
          intro j hj hLj k hk
          obtain ⟨oj, hoj⟩ := hopj j hj
          exact mask_listed hafter hcl j oj hoj (fun b hb => hcl j oj hLj hoj b hb) k hk
        have tot : ∀ e j, e < n → j < n → isE ops e → lt j = false → j ≠ e → (if j < e then ((masks ops.toList []).getD e 0).testBit j = true else ((masks ops.toList []).getD j 0).testBit e = true) := by
          intro e j he hj hE hl hne
          have ht := (htot e hE).2
          unfold totOk2 at ht
          have := List.all_eq_true.1 ht j (List.mem_range.2 hj)
          have e1 : (j == e) = false := by simpa using hne
          rw [e1, hl, Bool.false_or, Bool.false_or] at this
          split
          · rename_i hlt; rw [if_pos hlt] at this; exact this
          · rename_i hlt; rw [if_neg hlt] at this; exact this
        have hG := hgood i o hoi
        have htext := runR_fold (ops := ops) (n0 := n0) (R := R) (n := n) (Nat.le_of_lt hin2) S00
        have hSt := foldD_nk (ops := ops) (n0 := n0) (R := R) (D := fun j => L.getD j false) (List.range n) S00 hnkr
        have hTx := foldD_nk (ops := ops) (n0 := n0) (R := R) (D := fun j => decide (j < i)) (List.range n) S00 hnkr
        have hagree : ∀ t, t ∈ tmpsOf o ++ guardT ops o → (foldD ops n0 R (fun j => L.getD j false) (List.range n) S00).tmps.getD t .junk = (runR ops n0 R (List.range' 0 i) S00).tmps.getD t .junk := by
          intro t ht
          rw [htext, hSt, hTx]
          refine tF_get _ _ _ rfl rfl fun j hj hdj => ?_
          have hj' : j < ops.size := hrange j hj
          by_cases hij : j = i
          · subst hij; simpa using hDi
          · have hp := hpair i j o ops[j] hoi (Array.getElem?_eq_getElem hj')
            have hdj' : ops[j].dst = some t := by
              unfold dstOf at hdj
              rw [Array.getElem?_eq_getElem hj'] at hdj
              exact hdj
            unfold pairOk at hp
            rw [hdj'] at hp
            have e1 : (i == j) = false := by simpa using fun e => hij e.symm
            have e2 : (tmpsOf o ++ guardT ops o).contains t = true := by simpa using ht
            simp only [e1, e2, Bool.false_or, Bool.not_true, Bool.and_eq_true] at hp
            have hp2 := hp.2
            by_cases hlt : j < i
            · rw [if_pos hlt] at hp2
              simp [hlt, hla j (by simpa using hp2)]
            · rw [if_neg hlt] at hp2
              have : L.getD j false = false := by
                cases hLj : L.getD j false with
                | false => rfl
                | true =>
                  have := hcl j _ hLj (Array.getElem?_eq_getElem hj') i (by simpa using hp2)
                  rw [hDi] at this; cases this
              simp [hlt, this]
        have hnew : ∀ r : Res, R i = r → foldD ops n0 R (fun j => (L.setIfInBounds i true).getD j false) (List.range n) S00 = applyR (n0 + i) o.dst r (foldD ops n0 R (fun j => L.getD j false) (List.range n) S00) := by
          intro r hr
          have ee : (fun j => (L.setIfInBounds i true).getD j false) = fun j => L.getD j false || j == i := funext hLget
          rw [ee, foldD_nk _ _ hnkr, hSt, applyR_nk (by rw [← hr]; exact hnk i hin2)]
          have hdi : dstOf ops i = o.dst := by simp [dstOf, hoi]
          rw [tF_add hdd hDi _ _ List.nodup_range (List.mem_range.2 hin2), oF_add hDi _ _ List.pairwise_lt_range (List.mem_range.2 hin2), hr]
          · unfold stT
            rw [hdi, hr]
          · intro j hj hLj hij o'
            have hjn := hrange j hj
            by_cases hli : lt i = true
            · rw [hlate i hin2 hli, hlate i hin2 hli]
            · by_cases hlj : lt j = true
              · rw [hlate j hjn hlj, hlate j hjn hlj]
              · have hli : lt i = false := by simpa using hli
                have hlj : lt j = false := by simpa using hlj
                by_cases hEj : isE ops j
                · have := tot j i hjn hin2 hEj hli (by omega)
                  rw [if_pos hij] at this
                  have := behind j hjn hLj i this
                  rw [hDi] at this; cases this
                · by_cases hEi : isE ops i
                  · have := tot i j hin2 hjn hEi hlj (by omega)
                    rw [if_neg (by omega)] at this
                    have := behind j hjn hLj i this
                    rw [hDi] at this; cases this
                  · rcases htouch i hin2 hli hEi o' with h1 | ⟨x, h1⟩
                    · rcases htouch j hjn hlj hEj o' with h2 | ⟨y, h2⟩
                      · rw [h2, h1, h2]
                      · rcases htouch i hin2 hli hEi (objsE (n0 + j) (R j) o') with h3 | ⟨x, h3⟩
                        · rw [h3, h1]
                        · rw [h3, h2, h3, h2]; exact List.set_comm _ _ (by omega)
                    · rcases htouch j hjn hlj hEj o' with h2 | ⟨y, h2⟩
                      · rcases htouch j hjn hlj hEj (objsE (n0 + i) (R i) o') with h3 | ⟨y, h3⟩
                        · rw [h2, h3]
                        · rw [h1, h3, h1, h3]; exact List.set_comm _ _ (by omega)
                      · rw [h1, h2, h1, h2]; exact List.set_comm _ _ (by omega)
        have hnext : ∀ (a' : Act) (w' : World) (μ' : Nat → Option Nat), Sat B (foldD ops n0 R (fun j => (L.setIfInBounds i true).getD j false) (List.range n) S00) a' w' μ' → wpAny P .any ops (SatQ B Q) fuel (L.setIfInBounds i true) a' w' :=
          fun a' w' μ' hS' => ih _ a' w' μ' (by simp [hL]) (by omega) hcl' hS'
        unfold wpOp
        rw [hoi]
        dsimp only
        cases hr : R i with
        | none =>
          rw [hr] at hG
          have hG : guardW ops (runR ops n0 R (List.range' 0 i) S00) o False True := hG
          have hg := guard_agree hG (fun d hd => hagree d (by simp [hd]))
          rcases guard_wanted hSL hg with ⟨_, h⟩ | ⟨hw, _⟩
          · exact h.elim
          · rw [if_neg (by simp [hw])]
            refine hnext _ _ μ ?_
            rw [hnew none hr]
            exact hSL.put (by simp only [Rep, RepL]; exact ⟨#[], rfl, rfl⟩) o.dst
        | some p =>
          obtain ⟨v, ef⟩ := p
          rw [hr] at hG
          obtain ⟨hG, hop⟩ := hG
          have hg := guard_agree hG (fun d hd => hagree d (by simp [hd]))
          rcases guard_wanted hSL hg with ⟨hw, _⟩ | ⟨_, h⟩
          · rw [if_pos hw]
            have hρ : ∀ x, x ∈ o.op.operands.toList → evalT (foldD ops n0 R (fun j => L.getD j false) (List.range n) S00) x = evalT (runR ops n0 R (List.range' 0 i) S00) x := fun x hx => by
              cases x with
              | tmp t => exact hagree t (by
                  have : t ∈ tmpsOf o := List.mem_filterMap.2 ⟨_, hx, rfl⟩
                  simp [this])
              | _ => rfl
            by_cases hli : lt i = true
            · rw [if_pos hli] at hop
              obtain ⟨hop, rfl⟩ := hop
              have hk : (foldD ops n0 R (fun j => L.getD j false) (List.range n) S00).objs[n0 + ops.size]? = some none := by
                rw [hSt]
                have := oF_get (n0 := n0) (R := R) (q := n0 + ops.size) (D := fun j => L.getD j false) (D' := fun _ => false) (List.range n) S00.objs S00.objs rfl rfl fun j hj => .inr (hall j (hrange j hj) _ (by have := hrange j hj; omega) (fun _ => by have := hrange j hj; omega))
                rw [show (St.mk _ (oF n0 R (fun j => L.getD j false) (List.range n) S00.objs)).objs = oF n0 R (fun j => L.getD j false) (List.range n) S00.objs from rfl, this]
                have e0 : ∀ l (o : List (Option Own)), oF n0 R (fun _ => false) l o = o := by
                  intro l
                  induction l with
                  | nil => intro o; rfl
                  | cons j l ih => intro o; exact ih o
                rw [e0]
                exact hfree00 _ (by omega) (by omega)
              obtain ⟨v', e', ⟨rfl, rfl⟩, hY⟩ := op_sound (k := n0 + ops.size) hop hSL hρ (fun q x hx => by cases hx) hk
              refine .inl (hY _ _ fun u w' ⟨μ', h1, h2⟩ => hnext _ _ μ' ?_)
              rw [hnew _ hr]
              exact Sat.put (S := foldD ops n0 R (fun j => L.getD j false) (List.range n) S00) h1 h2 o.dst
            · have hli : lt i = false := by simpa using hli
              rw [if_neg (by simp [hli])] at hop
              obtain ⟨hop, hoke⟩ := hop
              have hobj : ∀ q, (isE ops i ∨ q < bOf ops n0 i) → (foldD ops n0 R (fun j => L.getD j false) (List.range n) S00).objs[q]? = (runR ops n0 R (List.range' 0 i) S00).objs[q]? := by
                intro q hq
                rw [htext, hSt, hTx]
                refine oF_get _ _ _ rfl rfl fun j hj => ?_
                have hjn := hrange j hj
                by_cases hij : j = i
                · subst hij; exact .inl (by simpa using hDi)
                by_cases hlj : lt j = true
                · exact .inr fun o => by rw [hlate j hjn hlj]
                have hlj : lt j = false := by simpa using hlj
                by_cases hlt : j < i
                · cases hLj : L.getD j false with
                  | true => exact .inl (by simp [hlt])
                  | false =>
                    have hEj : ¬ isE ops j := fun hE => by
                      have := tot j i hjn hin2 hE hli (by omega)
                      rw [if_neg (by omega)] at this
                      have := ahead j this
                      rw [hLj] at this; cases this
                    rcases hq with hEi | hq
                    · have := tot i j hin2 hjn hEi hlj hij
                      rw [if_pos hlt] at this
                      have := ahead j this
                      rw [hLj] at this; cases this
                    · have hb := bOf_le (ops := ops) (n0 := n0) i j (Nat.le_of_lt hlt) fun p h1 h2 hE => by
                        by_cases hpj : p = j
                        · subst hpj; exact hEj hE
                        · have hpn : p < n := by omega
                          have hLp : L.getD p false = true := by
                            have := tot p i hpn hin2 hE hli (by omega)
                            rw [if_neg (by omega)] at this
                            exact ahead p this
                          have := tot p j hpn hjn hE hlj (by omega)
                          rw [if_pos (by omega)] at this
                          have := behind p hpn hLp j this
                          rw [hLj] at this; cases this
                      exact .inr (hall j hjn q (by omega) fun hE => absurd hE hEj)
                · cases hLj : L.getD j false with
                  | false => exact .inl (by simp [hlt])
                  | true =>
                    have hEj : ¬ isE ops j := fun hE => by
                      have := tot j i hjn hin2 hE hli (by omega)
                      rw [if_pos (by omega)] at this
                      have := behind j hjn hLj i this
                      rw [hDi] at this; cases this
                    rcases hq with hEi | hq
                    · have := tot i j hin2 hjn hEi hlj hij
                      rw [if_neg (by omega)] at this
                      have := behind j hjn hLj i this
                      rw [hDi] at this; cases this
                    · have hb := bOf_le (ops := ops) (n0 := n0) i i (Nat.le_refl _) fun p h1 h2 => by omega
                      exact .inr (hall j hjn q (by omega) fun hE => absurd hE hEj)
              have hk : (foldD ops n0 R (fun j => L.getD j false) (List.range n) S00).objs[n0 + i]? = some none := by
                rw [hSt]
                have := oF_get (n0 := n0) (R := R) (q := n0 + i) (D := fun j => L.getD j false) (D' := fun _ => false) (List.range n) S00.objs S00.objs rfl rfl fun j hj => by
                  have hjn := hrange j hj
                  cases hLj : L.getD j false with
                  | false => exact .inl rfl
                  | true =>
                    have hne : j ≠ i := fun e => by subst e; rw [hDi] at hLj; cases hLj
                    refine .inr (hall j hjn _ (by omega) fun hE => ?_)
                    by_cases hlt : i < j
                    · have := tot j i hjn hin2 hE hli (by omega)
                      rw [if_pos hlt] at this
                      have := behind j hjn hLj i this
                      rw [hDi] at this; cases this
                    · omega
                rw [show (St.mk _ (oF n0 R (fun j => L.getD j false) (List.range n) S00.objs)).objs = oF n0 R (fun j => L.getD j false) (List.range n) S00.objs from rfl, this]
                have e0 : ∀ l (o : List (Option Own)), oF n0 R (fun _ => false) l o = o := by
                  intro l
                  induction l with
                  | nil => intro o; rfl
                  | cons j l ih => intro o; exact ih o
                rw [e0]
                exact hfree00 _ (by omega) (by omega)
              have hk2 : (foldD ops n0 R (fun j => L.getD j false) (List.range n) S00).objs[n0 + ops.size]? = some none := by
                rw [hSt]
                have := oF_get (n0 := n0) (R := R) (q := n0 + ops.size) (D := fun j => L.getD j false) (D' := fun _ => false) (List.range n) S00.objs S00.objs rfl rfl fun j hj => .inr (hall j (hrange j hj) _ (by have := hrange j hj; omega) (fun _ => by have := hrange j hj; omega))
                rw [show (St.mk _ (oF n0 R (fun j => L.getD j false) (List.range n) S00.objs)).objs = oF n0 R (fun j => L.getD j false) (List.range n) S00.objs from rfl, this]
                have e0 : ∀ l (o : List (Option Own)), oF n0 R (fun _ => false) l o = o := by
                  intro l
                  induction l with
                  | nil => intro o; rfl
                  | cons j l ih => intro o; exact ih o
                rw [e0]
                exact hfree00 _ (by omega) (by omega)
              obtain ⟨v', e', ⟨rfl, rfl⟩, hY⟩ := opX_sound (k := n0 + i) (k2 := n0 + ops.size) hop hSL hρ (fun q x hx => by
                unfold lookB at hx
                by_cases hqb : eOp o.op = true ∨ q < bOf ops n0 i
                · rw [if_pos hqb] at hx
                  rw [hobj q (hqb.imp (fun h => ⟨o, hoi, h⟩) fun h => h)]
                  exact lookS_some hx
                · rw [if_neg hqb] at hx; cases hx) hk hk2 (by omega)
              refine .inl (hY _ _ fun u w' ⟨μ', h1, h2⟩ => hnext _ _ μ' ?_)
              rw [hnew _ hr]
              exact h1.put h2 o.dst
          · exact h.elim
  refine key _ _ _ _ μ (by simp [n]) (by simp) (fun j o hj => by rw [getD_replicate] at hj; cases hj) ?_
  rw [foldD_none _ _ (fun j _ => getD_replicate _ _)]
  exact (hS.same hsame).below ⟨rfl, rfl, rfl, Nat.le_refl _, fun _ _ => rfl⟩
end Go.Proofs.YtdaojihnaajfeaaX

/- .. as a run. Of no program. -/
set_option linter.unusedVariables false
set_option linter.unusedSimpArgs false
namespace Go.Proofs.YtdaojihnaajfeaaX
open Go Go.RowKit
abbrev LOp := Op × Option Tmp × Option (Option Tmp × Bool) × Bool
def liteL2 (ds : List (Option Tmp)) (lt : Nat → Bool) : List Oper → Nat → List LOp
  | [], _ => []
  | o :: l, i => (o.op, o.dst, gL ds o.guard, lt i) :: liteL2 ds lt l (i + 1)
def drawL2 (P : Program) (N : Nat) : List LOp → Nat → Nat → St → (St → Prop) → Prop
  | [], _, _, S, K => K S
  | (op, dst, g, l) :: rest, b, n, S, K => guardL S g
      (fun S => ∃ v eff, (if l = true then opW P N op (evalT S) (fun _ => none) (fun v' e' => v' = v ∧ e' = eff) ∧ eff = .none else opX P n op (evalT S) (fun q => if eOp op = true ∨ q < b then lookS S q else none) (fun v' e' => v' = v ∧ e' = eff) ∧ okE2 n op S eff) ∧
        drawL2 P N rest (if eOp op = true then n + 1 else b) (n + 1) ((S.eff n eff).put dst v) K)
      (fun S => drawL2 P N rest (if eOp op = true then n + 1 else b) (n + 1) (S.put dst (.tup [])) K)
theorem drawL2_eq (P : Program) (ops : Array Oper) (lt : Nat → Bool) (n0 : Nat) : ∀ (l : List Oper) (i b : Nat) (S : St) (K : St → Prop), drawW2 P ops lt n0 l i b S K = drawL2 P (n0 + ops.size) (liteL2 (dstsL ops.toList) lt l i) b (n0 + i) S K
  | [], i, b, S, K => rfl
  | o :: l, i, b, S, K => by
    unfold drawW2
    simp only [liteL2, drawL2, drawL2_eq P ops lt n0 l]
    exact guardL_eq ops S o (fun S => ∃ v eff, (if lt i = true then opW P (n0 + ops.size) o.op (evalT S) (fun _ => none) (fun v' e' => v' = v ∧ e' = eff) ∧ eff = .none else opX P (n0 + i) o.op (evalT S) (fun q => if eOp o.op = true ∨ q < b then lookS S q else none) (fun v' e' => v' = v ∧ e' = eff) ∧ okE2 (n0 + i) o.op S eff) ∧ drawL2 P (n0 + ops.size) (liteL2 (dstsL ops.toList) lt l (i + 1)) (if eOp o.op = true then n0 + i + 1 else b) (n0 + (i + 1)) ((S.eff (n0 + i) eff).put o.dst v) K) (fun S => drawL2 P (n0 + ops.size) (liteL2 (dstsL ops.toList) lt l (i + 1)) (if eOp o.op = true then n0 + i + 1 else b) (n0 + (i + 1)) (S.put o.dst (.tup [])) K)
def drawK2 (P : Program) (Q : Exit → St → Prop) (N : Nat) (l : List LOp) (b n : Nat) (S : St) : Prop := drawL2 P N l b n S fun S => Q .normal ⟨S.tmps, trims S.objs⟩
section
variable (P : Program) (Q : Exit → St → Prop) (N b n : Nat) (S : St) (op : Op) (dst : Option Tmp) (d : Tmp) (w l : Bool) (rest : List LOp)
theorem drawK2_nil : drawK2 P Q N [] b n S = Q .normal ⟨S.tmps, trims S.objs⟩ := rfl
def isApp : Op → Bool
  | .call ⟨.builtin .append, _, _⟩ => true
  | _ => false
theorem shiftW_no {k : Nat} {ρ : Operand → T} {look : Nat → Option Own} {K : T → Eff → Prop} (h : isApp op = false) : ¬ shiftW P k op ρ look K := by
  unfold shiftW
  split
  · cases h
  · exact fun h => h
theorem drawK2_cons (ha : isApp op = false) : drawK2 P Q N ((op, dst, none, false) :: rest) b n S = opW P n op (evalT S) (fun q => if eOp op = true ∨ q < b then lookS S q else none) fun v eff => okE2 n op S eff ∧ drawK2 P Q N rest (if eOp op = true then n + 1 else b) (n + 1) ((S.eff n eff).put dst v) := by
  refine propext ⟨fun h => ?_, fun h => ?_⟩
  · obtain ⟨v, eff, h1, h3⟩ := h
    rw [if_neg (by decide)] at h1
    obtain ⟨v', e', ⟨rfl, rfl⟩, h4⟩ := opW_split _ _ _ _ _ (h1.1.resolve_right (shiftW_no P op ha))
    exact h4 _ ⟨h1.2, h3⟩
  · obtain ⟨v, eff, ⟨h1, h2⟩, h3⟩ := opW_split _ _ _ _ _ h
    exact ⟨v, eff, by rw [if_neg (by decide)]; exact ⟨.inl (h3 _ ⟨rfl, rfl⟩), h1⟩, h2⟩
theorem appendS_split {P : Program} {k : Nat} {sT xT : TypeId} {s x : T} {look : Nat → Option Own} {K : T → Eff → Prop} (h : appendS P k sT xT s x look K) : ∃ v eff, K v eff ∧ appendS P k sT xT s x look fun v' e' => v' = v ∧ e' = eff := by
  unfold appendS at h
  split at h
  case h_2 => exact h.elim
  rename_i e ht
  obtain ⟨h1, h2, h3, h4, h5⟩ := h
  obtain ⟨sz, xs, ⟨h6, h7⟩, h8⟩ := newsW_split _ _ _ _ h5
  split at h7
  · rename_i o szs off len
    split at h7
    · rename_i bt sz' l lk hlk
      obtain ⟨g1, g2, g3, g4, g5, g6, g7, g8⟩ := h7
      refine ⟨_, _, g8, ?_⟩
      unfold appendS
      rw [ht]
      refine ⟨h1, h2, h3, h4, h8 _ ⟨h6, ?_⟩⟩
      simp only [hlk]
      exact ⟨g1, g2, g3, g4, g5, g6, g7, by first | exact ⟨rfl, rfl⟩ | trivial | simp⟩
    · exact h7.elim
  · exact h7.elim
theorem drawK2_mv {P : Program} {Q : Exit → St → Prop} {N b n : Nat} {S : St} {dst : Option Tmp} {rest : List LOp} {s x : Operand} {t u : TypeId}
    (h : appendW P n t u (evalT S s) (evalT S x) (lookS S) fun v eff => okE2 n (.call ⟨.builtin .append, #[s, x], #[t, u]⟩) S eff ∧ drawK2 P Q N rest (n + 1) (n + 1) ((S.eff n eff).put dst v)) : drawK2 P Q N ((.call ⟨.builtin .append, #[s, x], #[t, u]⟩, dst, none, false) :: rest) b n S := by
  have h' : opW P n (.call ⟨.builtin .append, #[s, x], #[t, u]⟩) (evalT S) (lookS S) fun v eff => okE2 n (.call ⟨.builtin .append, #[s, x], #[t, u]⟩) S eff ∧ drawK2 P Q N rest (n + 1) (n + 1) ((S.eff n eff).put dst v) := h
  obtain ⟨v, eff, ⟨h1, h2⟩, h3⟩ := opW_split _ _ _ _ _ h'
  refine ⟨v, eff, ?_, h2⟩
  rw [if_neg (by decide)]
  refine ⟨.inl ?_, h1⟩
  have hlk : (fun q => if eOp (.call ⟨.builtin .append, #[s, x], #[t, u]⟩) = true ∨ q < b then lookS S q else none) = lookS S := funext fun q => if_pos (Or.inl rfl)
  rw [hlk]
  exact h3 _ ⟨rfl, rfl⟩
theorem drawK2_sh {P : Program} {Q : Exit → St → Prop} {N b n : Nat} {S : St} {dst : Option Tmp} {rest : List LOp} {s x : Operand} {t u : TypeId}
    (h : appendS P n t u (evalT S s) (evalT S x) (lookS S) fun v eff => okE2 n (.call ⟨.builtin .append, #[s, x], #[t, u]⟩) S eff ∧ drawK2 P Q N rest (n + 1) (n + 1) ((S.eff n eff).put dst v)) : drawK2 P Q N ((.call ⟨.builtin .append, #[s, x], #[t, u]⟩, dst, none, false) :: rest) b n S := by
  obtain ⟨v, eff, ⟨h1, h2⟩, h3⟩ := appendS_split h
  refine ⟨v, eff, ?_, h2⟩
  have hlk : (fun q => if eOp (.call ⟨.builtin .append, #[s, x], #[t, u]⟩) = true ∨ q < b then lookS S q else none) = lookS S := funext fun q => if_pos (Or.inl rfl)
  rw [if_neg (by decide), hlk]
  exact ⟨.inr h3, h1⟩
theorem drawK2_late : drawK2 P Q N ((op, dst, none, true) :: rest) b n S = opW P N op (evalT S) (fun _ => none) fun v eff => eff = .none ∧ drawK2 P Q N rest (if eOp op = true then n + 1 else b) (n + 1) ((S.eff n eff).put dst v) := by
  refine propext ⟨fun h => ?_, fun h => ?_⟩
  · obtain ⟨v, eff, h1, h3⟩ := h
    rw [if_pos rfl] at h1
    obtain ⟨v', e', ⟨rfl, rfl⟩, h4⟩ := opW_split _ _ _ _ _ h1.1
    exact h4 _ ⟨h1.2, h3⟩
  · obtain ⟨v, eff, ⟨h1, h2⟩, h3⟩ := opW_split _ _ _ _ _ h
    exact ⟨v, eff, by rw [if_pos rfl]; exact ⟨h3 _ ⟨rfl, rfl⟩, h1⟩, h2⟩
end
section
variable {P : Program} {Q : Exit → St → Prop} {N b n : Nat} {S S1 : St} {k : Kn} {op : Op} {dst : Option Tmp} {d : Tmp} {w l c : Bool} {rest : List LOp}
end
section
variable {P : Program} {Q : Exit → St → Prop} {S S1 : St} {k : Kn}
theorem runX_regionC {id : Nat} {l : List Oper} (h : ∀ C, contX P Q k = C → runK P C (.region id ⟨l⟩ false) S .q) : runX P Q (.region id ⟨l⟩ false) S k := by
  have h3 := h _ rfl
  exact fun B a w μ hS => WP.region h3 B a w μ (hS.roots _)
theorem runX_drawC (hm : P.follows .mixedOrders = true) {id : Nat} {l : List Oper} (hok : drawOk ⟨l⟩ = true) (h : ∀ C, contX P Q k = C → runK P C (.region id ⟨l⟩ true) S .q) : runX P Q (.region id ⟨l⟩ true) S k :=
  wpC_sound hm (.region id ⟨l⟩ true) S _ hok (h _ rfl)
theorem runX_draw2C (hm : P.follows .mixedOrders = true) (lt : List Nat) {id : Nat} {l : List Oper} (hok : drawOk2 ⟨l⟩ (fun j => lt.contains j) = true)
    (h : ∀ C, contX P Q k = C → drawK2 P C ((rootsK S (rootsOf l)).objs.length + l.length) (liteL2 (dstsL l) (fun j => lt.contains j) l 0) (rootsK S (rootsOf l)).objs.length (rootsK S (rootsOf l)).objs.length ⟨(rootsK S (rootsOf l)).tmps, (rootsK S (rootsOf l)).objs ++ List.replicate (l.length + 1) none⟩) : runX P Q (.region id ⟨l⟩ true) S k := by
  have h3 := h _ rfl
  intro B a w μ hS
  have hS' : Sat B (rootsK S (rootsOf l)) a w μ := hS.roots l
  have h4 : drawW2 P ⟨l⟩ (fun j => lt.contains j) (rootsK S (rootsOf l)).objs.length l 0 (rootsK S (rootsOf l)).objs.length ⟨(rootsK S (rootsOf l)).tmps, (rootsK S (rootsOf l)).objs ++ List.replicate (l.length + 1) none⟩ (fun S' => contX P Q k .normal ⟨S'.tmps, trims S'.objs⟩) := by
    rw [drawL2_eq]; exact h3
  exact draw2_sound (id := id) (Q := contX P Q k) hm hok h4 hS'
theorem toEnd {C : Exit → St → Prop} (hC : contX P Q k = C) (h : endX P Q .normal S k) : C .normal S := hC ▸ h
end
attribute [go_sem] lookX isApp drawK2_nil drawK2_cons drawK2_late liteL2 okE2
end Go.Proofs.YtdaojihnaajfeaaX
