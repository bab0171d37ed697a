/- Part of the proof of QueryTells: walks and plain words, merged. -/
import Derived.Calls
import Derived.Tactics
import Derived.Below
import Derived.Laws.BytesString
import Derived.Laws.IdiomStrings
import Derived.Laws.AppendOwn
import Derived.Laws.MakeOwn
import Derived.Laws.OwnMore
import Derived.Deep.Draws
import Derived.Laws.StructEq
set_option linter.unusedVariables false
set_option linter.unusedSimpArgs false

/- Trees for values, the memory that a call owns, and when a tree stands for a value. Of no program. -/
set_option linter.unusedVariables false
set_option linter.unusedSimpArgs false
namespace Go.Proofs.YtdaojihnaajfeaaX
open Go Go.RowKit
inductive T where
  | imm (v : Value)
  | agg (l : List T)
  | sl (sz : Nat) (full : Bool) (l : List T)
  | pp (x : T)
  | ref (o sz i c : Nat)
  | rsl (o sz off len : Nat)
  | fn (f : FuncId) (caps : List T)
  | ifc (t : TypeId) (x : T)
  | tup (l : List T)
  | junk
instance : Inhabited T := ⟨.junk⟩
def T.cells : T → List T
  | .agg l => l
  | x => [x]
inductive Own where
  | box (t : TypeId) (x : T) (lk : Bool)
  | buf (t : TypeId) (sz : Nat) (l : List T) (lk : Nat)
  | dead
def Own.lock : Own → Option Nat
  | .box _ x lk => some (if lk then x.cells.length else 0)
  | .buf _ sz _ lk => some (lk * sz)
  | .dead => none
structure Ban where
  cell : Nat → Nat → Prop
  pin : Nat → Nat → Prop
instance : CoeFun Ban (fun _ => Nat → Nat → Prop) := ⟨Ban.cell⟩
abbrev tagM : Nat := 4294967296
structure Env where
  w : World
  μ : Nat → Option Nat
  objs : List (Option Own)
  ban : Ban
def Env.own (E : Env) (b lk : Nat) : Prop := ∃ o x, E.objs[o]? = some (some x) ∧ E.μ o = some b ∧ x.lock = some lk
def Env.pc (E : Env) (b j : Nat) (v : Value) : Prop := E.w.cell? ⟨b, j, none⟩ = some v ∧ (∀ lk, E.own b lk → j < lk) ∧ ¬ E.ban b j
def Env.atA (E : Env) (a : Option Addr) (c : List Value) : Prop := ∀ j v, c[j]? = some v → ∃ b o, a = some ⟨b, o, none⟩ ∧ E.pc b (o + j) v
def Env.has (E : Env) (o : Nat) : Prop := ∃ x, E.objs[o]? = some (some x)
def flat : Value → Bool
  | .bool _ | .int _ _ | .float _ _ | .string _ | .pointer none | .nilFunc | .nilIface | .map none | .slice none 0 0 => true
  | _ => false
def leaf : Value → Bool
  | .agg _ | .tuple _ => false
  | _ => true
def leafU (u : Value) : Prop := ∀ v ∈ u.cells.toList, leaf v = true
def okA (E : Env) (a : Option Addr) : Prop := ∀ x, a = some x → ∃ (c : Array Value) (t : TypeId) (fr : Nat × Nat), E.w.heap[x.block]? = some (Go.Obj.cells c t fr)
abbrev NilA (E : Env) := {a : Option Addr // okA E a}
mutual
def Rep (E : Env) (cl : Bool) : T → Value → Prop
  | .imm u, v => v = u ∧ flat u = true
  | .agg l, v => ∃ cs : Array Value, v = .agg cs ∧ RepL E cl l cs.toList
  | .sl sz full l, v => ∃ a cap c, v = .slice a l.length cap ∧ l.length ≤ cap ∧ (full = true → cap = l.length ∧ (l = [] → okA E a)) ∧ RepR E sz l c ∧ E.atA a c
  | .pp x, v => ∃ b o u, v = .pointer (some ⟨b, o, none⟩) ∧ Rep E true x u ∧ E.atA (some ⟨b, o, none⟩) u.cells.toList
  | .ref o sz i c, v => cl = false ∧ E.has o ∧ ∃ b, E.μ o = some b ∧ v = .pointer (some ⟨b, i * sz + c, none⟩)
  | .rsl o sz off len, v => cl = false ∧ E.has o ∧ ((E.μ o = none ∧ len = 0 ∧ off = 0 ∧ ∃ a : NilA E, v = .slice a.1 0 0) ∨
      ∃ b p cap c t fr, E.μ o = some b ∧ v = .slice (some ⟨b, p, none⟩) len cap ∧ len ≤ cap ∧ (cap = 0 ∨ p = off * sz) ∧ E.w.heap[b]? = some (Go.Obj.cells c t fr) ∧ (off + cap) * sz ≤ c.size)
  | .fn f caps, v => ∃ cs : Array Value, v = .func (.func f) #[] cs ∧ RepL E cl caps cs.toList
  | .ifc t x, v => ∃ u, v = .iface t u ∧ Rep E cl x u
  | .tup l, v => ∃ cs : Array Value, v = .tuple cs ∧ RepL E cl l cs.toList
  | .junk, _ => True
def RepL (E : Env) (cl : Bool) : List T → List Value → Prop
  | [], vs => vs = []
  | x :: l, vs => ∃ v vs', vs = v :: vs' ∧ Rep E cl x v ∧ RepL E cl l vs'
def RepR (E : Env) (sz : Nat) : List T → List Value → Prop
  | [], c => c = []
  | x :: l, c => ∃ u c', c = u.cells.toList ++ c' ∧ (u.cells.size = sz ∧ leafU u) ∧ Rep E true x u ∧ RepR E sz l c'
end
mutual
def kill (ks : List Nat) : T → T
  | .imm v => .imm v
  | .agg l => .agg (killL ks l)
  | .sl sz full l => .sl sz full l
  | .pp x => .pp x
  | .ref o sz i c => if ks.contains o then .junk else .ref o sz i c
  | .rsl o sz off len => if ks.contains o then .junk else .rsl o sz off len
  | .fn f caps => .fn f (killL ks caps)
  | .ifc t x => .ifc t (kill ks x)
  | .tup l => .tup (killL ks l)
  | .junk => .junk
def killL (ks : List Nat) : List T → List T
  | [] => []
  | x :: l => kill ks x :: killL ks l
end
mutual
theorem kill_nil : ∀ x : T, kill [] x = x
  | .imm v => rfl
  | .agg l => by rw [kill, killL_nil l]
  | .sl sz full l => rfl
  | .pp x => rfl
  | .ref o sz i c => rfl
  | .rsl o sz off len => rfl
  | .fn f caps => by rw [kill, killL_nil caps]
  | .ifc t x => by rw [kill, kill_nil x]
  | .tup l => by rw [kill, killL_nil l]
  | .junk => rfl
theorem killL_nil : ∀ l : List T, killL [] l = l
  | [] => rfl
  | x :: l => by rw [killL, kill_nil x, killL_nil l]
end
theorem killL_eq (ks : List Nat) : ∀ l : List T, killL ks l = l.map (kill ks)
  | [] => rfl
  | x :: l => by rw [killL, killL_eq ks l]; rfl
theorem killL_length (ks : List Nat) (l : List T) : (killL ks l).length = l.length := by rw [killL_eq]; simp
def Own.kill (ks : List Nat) : Own → Own
  | .box t x lk => .box t (Go.Proofs.YtdaojihnaajfeaaX.kill ks x) lk
  | .buf t sz l lk => .buf t sz l lk
  | .dead => .dead
theorem cells_kill (ks : List Nat) (x : T) : (kill ks x).cells.length = x.cells.length := by
  cases x with
  | agg l => simp only [kill, T.cells, killL_length]
  | ref o sz i c => rw [kill]; by_cases h : ks.contains o = true <;> simp only [h, if_true, if_false, T.cells] <;> rfl
  | rsl o sz i c => rw [kill]; by_cases h : ks.contains o = true <;> simp only [h, if_true, if_false, T.cells] <;> rfl
  | _ => rfl
theorem Own.kill_lock (ks : List Nat) (x : Own) : (x.kill ks).lock = x.lock := by
  cases x <;> simp only [Own.kill, Own.lock, cells_kill]
theorem Own.kill_nil (x : Own) : x.kill [] = x := by cases x <;> simp only [Own.kill, Go.Proofs.YtdaojihnaajfeaaX.kill_nil]
structure StepC (E E' : Env) : Prop where
  pc : ∀ b j v, E.pc b j v → E'.pc b j v
  sz : ∀ (b : Nat) (c : Array Value) (t : TypeId) (fr : Nat × Nat), E.w.heap[b]? = some (Go.Obj.cells c t fr) → ∃ c' fr', E'.w.heap[b]? = some (Go.Obj.cells c' t fr') ∧ c'.size = c.size
structure Step (ks : List Nat) (E E' : Env) : Prop extends StepC E E' where
  n : ∀ o, E.has o → ks.contains o = false → E'.has o
  mu : ∀ o, E.has o → ks.contains o = false → E'.μ o = E.μ o
theorem okA.step {E E' : Env} (h : StepC E E') {a : Option Addr} (k : okA E a) : okA E' a := fun x hx => by
  obtain ⟨c, t, fr, h1⟩ := k x hx
  obtain ⟨c', fr', h2, _⟩ := h.sz _ _ _ _ h1
  exact ⟨c', t, fr', h2⟩
theorem Env.atA.step {E E' : Env} (h : StepC E E') {a : Option Addr} {c : List Value} (k : E.atA a c) : E'.atA a c := fun j v hj => by
  obtain ⟨b, o, h1, h2⟩ := k j v hj
  exact ⟨b, o, h1, h.pc _ _ _ h2⟩
mutual
theorem Rep.stepC {E E' : Env} (h : StepC E E') : ∀ (x : T) (v : Value), Rep E true x v → Rep E' true x v
  | .imm u, v, k => by simpa only [Rep] using k
  | .agg l, v, k => by
    simp only [Rep] at k ⊢
    obtain ⟨cs, h1, h2⟩ := k
    exact ⟨cs, h1, RepL.stepC h l _ h2⟩
  | .sl sz full l, v, k => by
    simp only [Rep] at k ⊢
    obtain ⟨a, cap, c, h1, h2, h3, h4, h5⟩ := k
    exact ⟨a, cap, c, h1, h2, (fun hf => ⟨(h3 hf).1, fun e => ((h3 hf).2 e).step h⟩), RepR.stepC h l sz c h4, h5.step h⟩
  | .pp x, v, k => by
    simp only [Rep] at k ⊢
    obtain ⟨b, o, u, h1, h2, h3⟩ := k
    exact ⟨b, o, u, h1, Rep.stepC h x u h2, h3.step h⟩
  | .ref o sz i c, v, k => by simp only [Rep] at k; exact absurd k.1 (by decide)
  | .rsl o sz off len, v, k => by simp only [Rep] at k; exact absurd k.1 (by decide)
  | .fn f caps, v, k => by
    simp only [Rep] at k ⊢
    obtain ⟨cs, h1, h2⟩ := k
    exact ⟨cs, h1, RepL.stepC h caps _ h2⟩
  | .ifc t x, v, k => by
    simp only [Rep] at k ⊢
    obtain ⟨u, h1, h2⟩ := k
    exact ⟨u, h1, Rep.stepC h x u h2⟩
  | .tup l, v, k => by
    simp only [Rep] at k ⊢
    obtain ⟨cs, h1, h2⟩ := k
    exact ⟨cs, h1, RepL.stepC h l _ h2⟩
  | .junk, v, k => by simp only [Rep]
theorem RepL.stepC {E E' : Env} (h : StepC E E') : ∀ (l : List T) (vs : List Value), RepL E true l vs → RepL E' true l vs
  | [], vs, k => by simpa only [RepL] using k
  | x :: l, vs, k => by
    simp only [RepL] at k ⊢
    obtain ⟨v, vs', h1, h2, h3⟩ := k
    exact ⟨v, vs', h1, Rep.stepC h x v h2, RepL.stepC h l vs' h3⟩
theorem RepR.stepC {E E' : Env} (h : StepC E E') : ∀ (l : List T) (sz : Nat) (c : List Value), RepR E sz l c → RepR E' sz l c
  | [], sz, c, k => by simpa only [RepR] using k
  | x :: l, sz, c, k => by
    simp only [RepR] at k ⊢
    obtain ⟨u, c', h1, h2, h3, h4⟩ := k
    exact ⟨u, c', h1, h2, Rep.stepC h x u h3, RepR.stepC h l sz c' h4⟩
end
mutual
theorem Rep.kill {ks : List Nat} {E E' : Env} (h : Step ks E E') : ∀ (x : T) (cl : Bool) (v : Value), Rep E cl x v → Rep E' cl (Go.Proofs.YtdaojihnaajfeaaX.kill ks x) v
  | .imm u, cl, v, k => by simpa only [Go.Proofs.YtdaojihnaajfeaaX.kill, Rep] using k
  | .agg l, cl, v, k => by
    simp only [Go.Proofs.YtdaojihnaajfeaaX.kill, Rep] at k ⊢
    obtain ⟨cs, h1, h2⟩ := k
    exact ⟨cs, h1, RepL.kill h l cl _ h2⟩
  | .sl sz full l, cl, v, k => by
    simp only [Go.Proofs.YtdaojihnaajfeaaX.kill, Rep] at k ⊢
    obtain ⟨a, cap, c, h1, h2, h3, h4, h5⟩ := k
    exact ⟨a, cap, c, h1, h2, (fun hf => ⟨(h3 hf).1, fun e => ((h3 hf).2 e).step h.toStepC⟩), RepR.stepC h.toStepC l sz c h4, h5.step h.toStepC⟩
  | .pp x, cl, v, k => by
    simp only [Go.Proofs.YtdaojihnaajfeaaX.kill, Rep] at k ⊢
    obtain ⟨b, o, u, h1, h2, h3⟩ := k
    exact ⟨b, o, u, h1, Rep.stepC h.toStepC x u h2, h3.step h.toStepC⟩
  | .ref o sz i c, cl, v, k => by
    simp only [Go.Proofs.YtdaojihnaajfeaaX.kill]
    by_cases hk : ks.contains o = true
    · rw [if_pos hk]; simp only [Rep]
    · rw [if_neg hk]
      simp only [Rep] at k ⊢
      obtain ⟨h1, h2, b, h3, h4⟩ := k
      exact ⟨h1, h.n o h2 (by simpa using hk), b, (h.mu o h2 (by simpa using hk)).trans h3, h4⟩
  | .rsl o sz off len, cl, v, k => by
    simp only [Go.Proofs.YtdaojihnaajfeaaX.kill]
    by_cases hk : ks.contains o = true
    · rw [if_pos hk]; simp only [Rep]
    · rw [if_neg hk]
      simp only [Rep] at k ⊢
      obtain ⟨h1, h2, h3⟩ := k
      have hm := h.mu o h2 (by simpa using hk)
      refine ⟨h1, h.n o h2 (by simpa using hk), ?_⟩
      rcases h3 with ⟨h3, h4⟩ | ⟨b, p, cap, c, t, fr, h3, h4, h5, h6, h7, h8⟩
      · exact .inl ⟨hm.trans h3, h4.1, h4.2.1, by obtain ⟨_, _, A, e⟩ := h4; exact ⟨⟨A.1, A.2.step h.toStepC⟩, e⟩⟩
      · obtain ⟨c', fr', h9, h10⟩ := h.sz _ _ _ _ h7
        exact .inr ⟨b, p, cap, c', t, fr', hm.trans h3, h4, h5, h6, h9, h10 ▸ h8⟩
  | .fn f caps, cl, v, k => by
    simp only [Go.Proofs.YtdaojihnaajfeaaX.kill, Rep] at k ⊢
    obtain ⟨cs, h1, h2⟩ := k
    exact ⟨cs, h1, RepL.kill h caps cl _ h2⟩
  | .ifc t x, cl, v, k => by
    simp only [Go.Proofs.YtdaojihnaajfeaaX.kill, Rep] at k ⊢
    obtain ⟨u, h1, h2⟩ := k
    exact ⟨u, h1, Rep.kill h x cl u h2⟩
  | .tup l, cl, v, k => by
    simp only [Go.Proofs.YtdaojihnaajfeaaX.kill, Rep] at k ⊢
    obtain ⟨cs, h1, h2⟩ := k
    exact ⟨cs, h1, RepL.kill h l cl _ h2⟩
  | .junk, cl, v, k => by simp only [Go.Proofs.YtdaojihnaajfeaaX.kill, Rep]
theorem RepL.kill {ks : List Nat} {E E' : Env} (h : Step ks E E') : ∀ (l : List T) (cl : Bool) (vs : List Value), RepL E cl l vs → RepL E' cl (killL ks l) vs
  | [], cl, vs, k => by simpa only [killL, RepL] using k
  | x :: l, cl, vs, k => by
    simp only [killL, RepL] at k ⊢
    obtain ⟨v, vs', h1, h2, h3⟩ := k
    exact ⟨v, vs', h1, Rep.kill h x cl v h2, RepL.kill h l cl vs' h3⟩
end
theorem Rep.step {E E' : Env} (h : Step [] E E') {x : T} {cl : Bool} {v : Value} (k : Rep E cl x v) : Rep E' cl x v := by
  have := Rep.kill h x cl v k; rwa [kill_nil] at this
theorem RepL.step {E E' : Env} (h : Step [] E E') {l : List T} {cl : Bool} {v : List Value} (k : RepL E cl l v) : RepL E' cl l v := by
  have := RepL.kill h l cl v k; rwa [killL_nil] at this
mutual
theorem Rep.open {E : Env} : ∀ (x : T) (cl : Bool) (v : Value), Rep E true x v → Rep E cl x v
  | .imm u, cl, v, k => by simpa only [Rep] using k
  | .agg l, cl, v, k => by
    simp only [Rep] at k ⊢
    obtain ⟨cs, h1, h2⟩ := k
    exact ⟨cs, h1, RepL.open l cl _ h2⟩
  | .sl sz full l, cl, v, k => by simpa only [Rep] using k
  | .pp x, cl, v, k => by simpa only [Rep] using k
  | .ref o sz i c, cl, v, k => by simp only [Rep] at k; exact absurd k.1 (by decide)
  | .rsl o sz off len, cl, v, k => by simp only [Rep] at k; exact absurd k.1 (by decide)
  | .fn f caps, cl, v, k => by
    simp only [Rep] at k ⊢
    obtain ⟨cs, h1, h2⟩ := k
    exact ⟨cs, h1, RepL.open caps cl _ h2⟩
  | .ifc t x, cl, v, k => by
    simp only [Rep] at k ⊢
    obtain ⟨u, h1, h2⟩ := k
    exact ⟨u, h1, Rep.open x cl u h2⟩
  | .tup l, cl, v, k => by
    simp only [Rep] at k ⊢
    obtain ⟨cs, h1, h2⟩ := k
    exact ⟨cs, h1, RepL.open l cl _ h2⟩
  | .junk, cl, v, k => by simp only [Rep]
theorem RepL.open {E : Env} : ∀ (l : List T) (cl : Bool) (vs : List Value), RepL E true l vs → RepL E cl l vs
  | [], cl, vs, k => by simpa only [RepL] using k
  | x :: l, cl, vs, k => by
    simp only [RepL] at k ⊢
    obtain ⟨v, vs', h1, h2, h3⟩ := k
    exact ⟨v, vs', h1, Rep.open x cl v h2, RepL.open l cl vs' h3⟩
end
/-! ### Lists -/
theorem RepL.length {E : Env} {cl : Bool} : ∀ {l : List T} {vs : List Value}, RepL E cl l vs → vs.length = l.length
  | [], vs, k => by simp only [RepL] at k; subst k; rfl
  | x :: l, vs, k => by
    simp only [RepL] at k
    obtain ⟨v, vs', rfl, _, h3⟩ := k
    simp [RepL.length h3]
theorem RepL.get {E : Env} {cl : Bool} : ∀ {l : List T} {vs : List Value}, RepL E cl l vs → ∀ (i : Nat) (d : Value), Rep E cl (l.getD i .junk) (vs.getD i d)
  | [], vs, k, i, d => by simp [Rep]
  | x :: l, vs, k, i, d => by
    simp only [RepL] at k
    obtain ⟨v, vs', rfl, h2, h3⟩ := k
    cases i with
    | zero => simpa using h2
    | succ i => simpa using RepL.get h3 i d
theorem RepL.set {E : Env} {cl : Bool} : ∀ {l : List T} {vs : List Value}, RepL E cl l vs → ∀ (i : Nat) {x : T} {v : Value}, Rep E cl x v → RepL E cl (l.set i x) (vs.set i v)
  | [], vs, k, i, x, v, hx => by simp only [RepL] at k; subst k; simp [RepL]
  | y :: l, vs, k, i, x, v, hx => by
    simp only [RepL] at k
    obtain ⟨u, vs', rfl, h2, h3⟩ := k
    cases i with
    | zero => simp only [List.set_cons_zero, RepL]; exact ⟨v, vs', rfl, hx, h3⟩
    | succ i => simp only [List.set_cons_succ, RepL]; exact ⟨u, _, rfl, h2, RepL.set h3 i hx⟩
theorem RepL.append {E : Env} {cl : Bool} : ∀ {l l' : List T} {vs vs' : List Value}, RepL E cl l vs → RepL E cl l' vs' → RepL E cl (l ++ l') (vs ++ vs')
  | [], l', vs, vs', k, k' => by simp only [RepL] at k; subst k; simpa using k'
  | x :: l, l', vs, vs', k, k' => by
    simp only [RepL] at k
    obtain ⟨v, us, rfl, h2, h3⟩ := k
    simp only [List.cons_append, RepL]
    exact ⟨v, _, rfl, h2, RepL.append h3 k'⟩
theorem RepL.take {E : Env} {cl : Bool} : ∀ {l : List T} {vs : List Value}, RepL E cl l vs → ∀ i, RepL E cl (l.take i) (vs.take i)
  | [], vs, k, i => by simp only [RepL] at k; subst k; simp [RepL]
  | x :: l, vs, k, i => by
    simp only [RepL] at k
    obtain ⟨v, us, rfl, h2, h3⟩ := k
    cases i with
    | zero => simp [RepL]
    | succ i => simp only [List.take_succ_cons, RepL]; exact ⟨v, _, rfl, h2, RepL.take h3 i⟩
theorem RepL.drop {E : Env} {cl : Bool} : ∀ {l : List T} {vs : List Value}, RepL E cl l vs → ∀ i, RepL E cl (l.drop i) (vs.drop i)
  | [], vs, k, i => by simp only [RepL] at k; subst k; simp [RepL]
  | x :: l, vs, k, i => by
    have k0 := k
    simp only [RepL] at k
    obtain ⟨v, us, rfl, h2, h3⟩ := k
    cases i with
    | zero => simpa using k0
    | succ i => simpa using RepL.drop h3 i
theorem RepR.length {E : Env} {sz : Nat} : ∀ {l : List T} {c : List Value}, RepR E sz l c → c.length = l.length * sz
  | [], c, k => by simp only [RepR] at k; subst k; simp
  | x :: l, c, k => by
    simp only [RepR] at k
    obtain ⟨u, c', rfl, h2, _, h4⟩ := k
    rw [List.length_append, Array.length_toList, h2.1, RepR.length h4, List.length_cons, Nat.succ_mul, Nat.add_comm]
theorem RepR.leafs {E : Env} {sz : Nat} : ∀ {l : List T} {c : List Value}, RepR E sz l c → ∀ v ∈ c, leaf v = true
  | [], c, k, v, hv => by simp only [RepR] at k; subst k; simp at hv
  | x :: l, c, k, v, hv => by
    simp only [RepR] at k
    obtain ⟨u, c', rfl, h2, h3, h4⟩ := k
    rcases List.mem_append.1 hv with h | h
    · exact h2.2 v h
    · exact RepR.leafs h4 v h
theorem RepR.get {E : Env} {sz : Nat} : ∀ {l : List T} {c : List Value}, RepR E sz l c → ∀ (i : Nat), i < l.length → ∃ u, Rep E true (l.getD i .junk) u ∧ u.cells.size = sz ∧ (∀ j v, u.cells[j]? = some v → c[i * sz + j]? = some v) ∧ leafU u
  | [], c, k, i, hi => by simp at hi
  | x :: l, c, k, i, hi => by
    simp only [RepR] at k
    obtain ⟨u, c', rfl, h2, h3, h4⟩ := k
    cases i with
    | zero =>
      refine ⟨u, by simpa using h3, h2.1, fun j v hj => ?_, h2.2⟩
      have hlt : j < u.cells.size := (Array.getElem?_eq_some_iff.1 hj).1
      rw [Nat.zero_mul, Nat.zero_add, List.getElem?_append_left (by simpa using hlt), Array.getElem?_toList]; exact hj
    | succ i =>
      obtain ⟨u', a1, a2, a3, a4⟩ := RepR.get h4 i (by simpa using hi)
      refine ⟨u', by simpa using a1, a2, fun j v hj => ?_, a4⟩
      rw [show (i + 1) * sz + j = u.cells.toList.length + (i * sz + j) by rw [Array.length_toList, h2.1, Nat.succ_mul]; omega, List.getElem?_append_right (by omega), Nat.add_sub_cancel_left]
      exact a3 j v hj
theorem RepR.append {E : Env} {sz : Nat} : ∀ {l l' : List T} {c c' : List Value}, RepR E sz l c → RepR E sz l' c' → RepR E sz (l ++ l') (c ++ c')
  | [], l', c, c', k, k' => by simp only [RepR] at k; subst k; simpa using k'
  | x :: l, l', c, c', k, k' => by
    simp only [RepR] at k
    obtain ⟨u, c1, rfl, h2, h3, h4⟩ := k
    simp only [List.cons_append, RepR, List.append_assoc]
    exact ⟨u, _, rfl, h2, h3, RepR.append h4 k'⟩
theorem RepR.take {E : Env} {sz : Nat} : ∀ {l : List T} {c : List Value}, RepR E sz l c → ∀ i, RepR E sz (l.take i) (c.take (i * sz))
  | [], c, k, i => by simp only [RepR] at k; subst k; simp [RepR]
  | x :: l, c, k, i => by
    simp only [RepR] at k
    obtain ⟨u, c1, rfl, h2, h3, h4⟩ := k
    cases i with
    | zero => simp [RepR]
    | succ i =>
      simp only [List.take_succ_cons, RepR]
      refine ⟨u, c1.take (i * sz), ?_, h2, h3, RepR.take h4 i⟩
      rw [List.take_append, List.take_of_length_le (by rw [Array.length_toList, h2.1, Nat.succ_mul]; omega), Array.length_toList, h2.1, Nat.succ_mul, Nat.add_sub_cancel]
theorem RepR.drop {E : Env} {sz : Nat} : ∀ {l : List T} {c : List Value}, RepR E sz l c → ∀ i, RepR E sz (l.drop i) (c.drop (i * sz))
  | [], c, k, i => by simp only [RepR] at k; subst k; simp [RepR]
  | x :: l, c, k, i => by
    have k0 := k
    simp only [RepR] at k
    obtain ⟨u, c1, rfl, h2, h3, h4⟩ := k
    cases i with
    | zero => simpa using k0
    | succ i =>
      simp only [List.drop_succ_cons]
      have e : (u.cells.toList ++ c1).drop ((i + 1) * sz) = c1.drop (i * sz) := by
        rw [List.drop_append, List.drop_of_length_le (l := u.cells.toList) (by rw [Array.length_toList, h2.1, Nat.succ_mul]; omega), Array.length_toList, h2.1, Nat.succ_mul, Nat.add_sub_cancel, List.nil_append]
      rw [e]
      exact RepR.drop h4 i
def globsI : List Nat := [0]
def GI (w : World) : Prop := ∀ g ∈ globsI, ∃ m : Int, w.cell? ⟨g, 0, none⟩ = some (.int .i64 m)
end Go.Proofs.YtdaojihnaajfeaaX

/- The state of a symbolic run, when it holds of an activation, and how it goes on. Of no program. -/
set_option linter.unusedVariables false
set_option linter.unusedSimpArgs false
namespace Go.Proofs.YtdaojihnaajfeaaX
open Go Go.RowKit
structure St where
  tmps : List T
  objs : List (Option Own)
structure Base where
  w : World
  own : Nat → Nat → Prop
  lt : ∀ k lk, own k lk → k < w.heap.size
  one : ∀ k lk lk', own k lk → own k lk' → lk = lk'
  zero : ∀ k lk, own k lk → lk = 0
  ban : Ban
  banlt : ∀ b j, ban b j → b < w.heap.size
  banown : ∀ b lk, own b lk → ∀ j, ¬ ban b j
  gi : GI w
  giown : ∀ g ∈ globsI, ∀ lk, ¬ own g lk
structure Kept (B : Base) (w : World) : Prop where
  os : w.os = B.w.os
  tape : w.tape = B.w.tape
  output : w.output = B.w.output
  size : B.w.heap.size ≤ w.heap.size
  block : ∀ k, k < B.w.heap.size → (∀ lk, ¬ B.own k lk) → w.heap[k]? = B.w.heap[k]?
  lock : ∀ k lk, B.own k lk → ∀ j, j < lk → w.cell? ⟨k, j, none⟩ = B.w.cell? ⟨k, j, none⟩
  rows : ∀ k lk, B.own k lk → ∀ (c : Array Value) (t : TypeId) (fr : Nat × Nat), B.w.heap[k]? = some (Go.Obj.cells c t fr) → ∃ c' fr', w.heap[k]? = some (Go.Obj.cells c' t fr') ∧ c'.size = c.size
def Unf (fr : Nat × Nat) (n : Nat) : Prop := fr.1 = fr.2 ∨ n ≤ fr.1
theorem Unf.out {fr : Nat × Nat} {n : Nat} (h : Unf fr n) {j : Nat} (hj : j < n) : ¬ (fr.1 ≤ j ∧ j < fr.2) := by
  rcases h with h | h <;> omega
def OwnAt (E : Env) (o : Nat) : Own → Prop
  | .box t x lk => ∃ (b : Nat) (fr : Nat × Nat) (u : Value), E.μ o = some b ∧ E.w.heap[b]? = some (Go.Obj.cells u.cells (t % tagM) fr) ∧ Unf fr u.cells.size ∧ Rep E false x u ∧ x.cells.length = u.cells.size ∧ (tagM ≤ t → E.ban.pin t b)
  | .buf t sz l lk => lk ≤ l.length ∧ ((E.μ o = none ∧ l = []) ∨ ∃ (b : Nat) (c : Array Value) (fr : Nat × Nat) (c1 c2 : List Value),
      E.μ o = some b ∧ E.w.heap[b]? = some (Go.Obj.cells c t fr) ∧ Unf fr c.size ∧ c.toList = c1 ++ c2 ∧ RepR E sz l c1)
  | .dead => True
structure Objs (E : Env) : Prop where
  at_ : ∀ o x, E.objs[o]? = some (some x) → OwnAt E o x
  inj : ∀ o o' x x' b, E.objs[o]? = some (some x) → E.objs[o']? = some (some x') → x ≠ .dead → x' ≠ .dead → E.μ o = some b → E.μ o' = some b → o = o'
structure Sat (B : Base) (S : St) (a : Act) (w : World) (μ : Nat → Option Nat) : Prop where
  tmps : RepL ⟨w, μ, S.objs, B.ban⟩ false S.tmps a.tmps.toList
  defers : a.defers = []
  objs : Objs ⟨w, μ, S.objs, B.ban⟩
  fresh : ∀ o x b, S.objs[o]? = some (some x) → x ≠ .dead → μ o = some b → B.w.heap.size ≤ b ∨ ∃ lk lk', B.own b lk ∧ x.lock = some lk' ∧ lk ≤ lk'
  kept : Kept B w
/-! ### Steps of the world -/
theorem cell_lt {w : World} {b j : Nat} {v : Value} (h : w.cell? ⟨b, j, none⟩ = some v) : b < w.heap.size := World.block_lt_of_cell? w ⟨b, j, none⟩ h
theorem cell_of_block {w w' : World} {b j : Nat} (h : w'.heap[b]? = w.heap[b]?) : w'.cell? ⟨b, j, none⟩ = w.cell? ⟨b, j, none⟩ := World.cell?_of_block (w := w) h
theorem Kept.gi {B : Base} {w : World} (hk : Kept B w) : GI w := by
  intro g hg
  obtain ⟨m, hm⟩ := B.gi g hg
  exact ⟨m, (cell_of_block (hk.block g (cell_lt hm) (fun lk => B.giown g hg lk))).trans hm⟩
theorem Step.of_below {w w' : World} {μ : Nat → Option Nat} {objs : List (Option Own)} {ban : Ban} (h : Below w.heap.size w w') : Step [] ⟨w, μ, objs, ban⟩ ⟨w', μ, objs, ban⟩ :=
  ⟨⟨fun b j v hv => ⟨(cell_of_block (h.block b (cell_lt hv.1))).trans hv.1, hv.2⟩,
    fun b c t fr hb => ⟨c, fr, (h.block b (Array.getElem?_eq_some_iff.1 hb).1).trans hb, rfl⟩⟩, fun _ h _ => h, fun _ _ _ => rfl⟩
theorem OwnAt.below {w w' : World} {μ : Nat → Option Nat} {objs objs' : List (Option Own)} {ban : Ban} (h : Below w.heap.size w w') (hs : Step [] ⟨w, μ, objs, ban⟩ ⟨w', μ, objs', ban⟩) {o : Nat} : ∀ {x : Own}, OwnAt ⟨w, μ, objs, ban⟩ o x → OwnAt ⟨w', μ, objs', ban⟩ o x
  | .box t x lk, ⟨b, fr, u, h1, h2, h3, h4, h5⟩ => ⟨b, fr, u, h1, (h.block b (Array.getElem?_eq_some_iff.1 h2).1).trans h2, h3, Rep.step hs h4, h5⟩
  | .buf t sz l lk, ⟨h0, h1⟩ => ⟨h0, h1.imp id fun ⟨b, c, fr, c1, c2, h1, h2, h3, h4, h5⟩ => ⟨b, c, fr, c1, c2, h1, (h.block b (Array.getElem?_eq_some_iff.1 h2).1).trans h2, h3, h4, RepR.stepC hs.toStepC _ _ _ h5⟩⟩
  | .dead, _ => trivial
theorem Kept.below {B : Base} {w w' : World} (hk : Kept B w) (h : Below w.heap.size w w') : Kept B w' :=
  have hB : ∀ k lk, B.own k lk → k < w.heap.size := fun k lk h => Nat.lt_of_lt_of_le (B.lt k lk h) hk.size
  ⟨h.os.trans hk.os, h.tape.trans hk.tape, h.output.trans hk.output, Nat.le_trans hk.size h.size,
   fun k h1 h2 => (h.block k (Nat.lt_of_lt_of_le h1 hk.size)).trans (hk.block k h1 h2),
   fun k lk h1 j hj => (cell_of_block (h.block k (hB k lk h1))).trans (hk.lock k lk h1 j hj),
   fun k lk h1 c t fr hb => by
     obtain ⟨c', fr', h2, h3⟩ := hk.rows k lk h1 c t fr hb
     exact ⟨c', fr', (h.block k (hB k lk h1)).trans h2, h3⟩⟩
theorem Sat.below {B : Base} {S : St} {a : Act} {w w' : World} {μ : Nat → Option Nat} (hS : Sat B S a w μ) (h : Below w.heap.size w w') : Sat B S a w' μ :=
  have hs := Step.of_below (μ := μ) (objs := S.objs) (ban := B.ban) h
  ⟨RepL.step hs hS.tmps, hS.defers, ⟨fun o x hx => OwnAt.below h hs (hS.objs.at_ o x hx), hS.objs.inj⟩, hS.fresh, hS.kept.below h⟩
def St.put (S : St) (dst : Option Tmp) (v : T) : St :=
  match dst with
  | some d => { S with tmps := S.tmps.set d v }
  | none => S
theorem Sat.put {B : Base} {S : St} {a : Act} {w : World} {μ : Nat → Option Nat} (hS : Sat B S a w μ) {v : T} {u : Value} (hv : Rep ⟨w, μ, S.objs, B.ban⟩ false v u) (dst : Option Tmp) : Sat B (S.put dst v) (a.put dst u) w μ := by
  cases dst with
  | none => exact hS
  | some d =>
    refine ⟨?_, hS.defers, hS.objs, hS.fresh, hS.kept⟩
    have := RepL.set hS.tmps d hv
    simpa [St.put, Act.put] using this
mutual
def ofVal : Value → T
  | .bool b => .imm (.bool b)
  | .int k n => .imm (.int k n)
  | .string s => .imm (.string s)
  | .pointer none => .imm (.pointer none)
  | .nilFunc => .imm .nilFunc
  | .nilIface => .imm .nilIface
  | .slice none 0 0 => .sl 0 true []
  | .agg cs => .agg (ofVals cs.toList)
  | _ => .junk
def ofVals : List Value → List T
  | [] => []
  | v :: l => ofVal v :: ofVals l
end
theorem ofVal_rep {E : Env} {cl : Bool} : ∀ v : Value, Rep E cl (ofVal v) v := by
  have leaf : ∀ v : Value, Rep E cl .junk v := fun v => by simp only [Rep]
  suffices h : ∀ n, ∀ v : Value, SizeOf.sizeOf v < n → Rep E cl (ofVal v) v from fun v => h _ v (Nat.lt_succ_self _)
  intro n
  induction n with
  | zero => intro v hv; omega
  | succ n ih =>
    intro v hv
    have hl : ∀ l : List Value, SizeOf.sizeOf l < n → RepL E cl (ofVals l) l := by
      intro l
      induction l with
      | nil => intro _; simp [ofVals, RepL]
      | cons x l ih2 =>
        intro hlt
        simp only [ofVals, RepL]
        have e : SizeOf.sizeOf (x :: l) = 1 + SizeOf.sizeOf x + SizeOf.sizeOf l := rfl
        exact ⟨x, l, rfl, ih x (by omega), ih2 (by omega)⟩
    unfold ofVal
    split <;> (try simp only [Rep, flat, and_true]) <;> (try trivial)
    · exact ⟨none, 0, [], rfl, Nat.le_refl _, fun _ => ⟨rfl, fun _ _ h => by cases h⟩, by simp [RepR], fun j v hj => by simp at hj⟩
    · rename_i cs
      refine ⟨cs, rfl, hl _ ?_⟩
      cases cs
      simp at hv ⊢
      omega
def evalT (S : St) : Operand → T
  | .tmp t => S.tmps.getD t .junk
  | .const v => ofVal v
  | .global _ => .junk
  | .func f => .fn f []
theorem Sat.eval {B : Base} {S : St} {a : Act} {w : World} {μ : Nat → Option Nat} (hS : Sat B S a w μ) (x : Operand) : Rep ⟨w, μ, S.objs, B.ban⟩ false (evalT S x) (a.eval x) := by
  cases x with
  | tmp t =>
    have := RepL.get hS.tmps t undef
    simpa [evalT, Act.eval] using this
  | const v => exact ofVal_rep v
  | global g => simp only [evalT, Rep]
  | func f => simp only [evalT, Rep, Act.eval]; exact ⟨#[], rfl, by simp [RepL]⟩
theorem Own.lt {B : Base} {S : St} {a : Act} {w : World} {μ : Nat → Option Nat} (hS : Sat B S a w μ) {o b : Nat} {x : Own} (h : S.objs[o]? = some (some x)) (hd : x ≠ .dead) (hb : μ o = some b) : b < w.heap.size := by
  have h1 := hS.objs.at_ o x h
  cases x with
  | box t x lk => obtain ⟨b', fr, u, h1, h2, _⟩ := h1; have h1' : μ o = some b' := h1; rw [hb] at h1'; cases h1'; exact (Array.getElem?_eq_some_iff.1 h2).1
  | buf t sz l lk =>
    rcases h1.2 with ⟨h1, _⟩ | ⟨b', c, fr, c1, c2, h1, h2, _⟩
    · have h1' : μ o = none := h1; rw [hb] at h1'; cases h1'
    · have h1' : μ o = some b' := h1; rw [hb] at h1'; cases h1'; exact (Array.getElem?_eq_some_iff.1 h2).1
  | dead => exact absurd rfl hd
theorem Sat.go {B : Base} {S : St} {a : Act} {w w' : World} {μ μ' : Nat → Option Nat} {ks : List Nat} {objs' : List (Option Own)} (hS : Sat B S a w μ) (hs : Step ks ⟨w, μ, S.objs, B.ban⟩ ⟨w', μ', objs', B.ban⟩)
    (ho : Objs ⟨w', μ', objs', B.ban⟩) (hf : ∀ o x b, objs'[o]? = some (some x) → x ≠ .dead → μ' o = some b → B.w.heap.size ≤ b ∨ ∃ lk lk', B.own b lk ∧ x.lock = some lk' ∧ lk ≤ lk') (hk : Kept B w') : Sat B ⟨killL ks S.tmps, objs'⟩ a w' μ' :=
  ⟨RepL.kill hs _ _ _ hS.tmps, hS.defers, ho, hf, hk⟩
theorem Sat.new {B : Base} {S : St} {a : Act} {w : World} {μ : Nat → Option Nat} (hS : Sat B S a w μ) {k : Nat} (hk : S.objs[k]? = some none) (c : Array Value) (t : TypeId) (fr : Nat × Nat) (x : Own) (hx : x ≠ .dead)
    (hat : ∀ E : Env, Step [] ⟨w, μ, S.objs, B.ban⟩ E → E.μ k = some w.heap.size → E.w.heap[w.heap.size]? = some (Go.Obj.cells c t fr) → OwnAt E k x) :
    Sat B ⟨S.tmps, S.objs.set k (some x)⟩ a (w.alloc (.cells c t fr)) (fun o => if o = k then some w.heap.size else μ o) := by
  have hfree : ∀ (o : Nat) (y : Own), S.objs[o]? = some (some y) → o ≠ k := fun o y h e => by subst e; rw [hk] at h; cases h
  have hbel : Below w.heap.size w (w.alloc (.cells c t fr)) := (Below.refl _ _).alloc (Nat.le_refl _) _
  have hnew : (w.alloc (.cells c t fr)).heap[w.heap.size]? = some (Go.Obj.cells c t fr) := heap_alloc_new w _
  have hget : ∀ (o : Nat) (y : Own), (S.objs.set k (some x))[o]? = some (some y) → (o = k ∧ y = x) ∨ (o ≠ k ∧ S.objs[o]? = some (some y)) := by
    intro o y h
    rw [List.getElem?_set] at h
    by_cases e : k = o
    · subst e
      rw [if_pos rfl] at h
      split at h
      · injection h with h; injection h with h; exact .inl ⟨rfl, h.symm⟩
      · cases h
    · rw [if_neg e] at h; exact .inr ⟨fun e' => e e'.symm, h⟩
  have hkeep : ∀ (o : Nat) (y : Own), S.objs[o]? = some (some y) → (S.objs.set k (some x))[o]? = some (some y) := by
    intro o y h
    rw [List.getElem?_set, if_neg (fun e => hfree o y h e.symm)]; exact h
  have hs : Step [] ⟨w, μ, S.objs, B.ban⟩ ⟨w.alloc (.cells c t fr), fun o => if o = k then some w.heap.size else μ o, S.objs.set k (some x), B.ban⟩ := by
    refine ⟨⟨fun b j v hv => ⟨(cell_of_block (hbel.block b (cell_lt hv.1))).trans hv.1, fun lk ⟨o, y, h1, h2, h3⟩ => ?_, hv.2.2⟩, fun b c t fr hb => ⟨c, fr, (hbel.block b (Array.getElem?_eq_some_iff.1 hb).1).trans hb, rfl⟩⟩,
      fun o ⟨y, h⟩ _ => ⟨y, hkeep o y h⟩, fun o ⟨y, h⟩ _ => if_neg (hfree o y h)⟩
    rcases hget o y h1 with ⟨rfl, rfl⟩ | ⟨h4, h5⟩
    · have h2' : some w.heap.size = some b := by simpa using h2
      injection h2' with h2'
      have := cell_lt hv.1
      subst h2'
      exact absurd this (Nat.lt_irrefl _)
    · exact hv.2.1 lk ⟨o, y, h5, by simpa [h4] using h2, h3⟩
  have := hS.go hs ?_ ?_ (hS.kept.below hbel)
  · rwa [killL_nil] at this
  · refine ⟨fun o y h => ?_, fun o o' y y' b h h' hy hy' hb hb' => ?_⟩
    · rcases hget o y h with ⟨rfl, rfl⟩ | ⟨h4, h5⟩
      · exact hat _ hs (by simp) hnew
      · have := OwnAt.below hbel (Step.of_below hbel) (hS.objs.at_ o y h5)
        cases y with
        | box t x lk => obtain ⟨b, fr, u, h1, h2, h3, h6, h7⟩ := hS.objs.at_ o _ h5; exact ⟨b, fr, u, (if_neg h4).trans h1, (hbel.block b (Array.getElem?_eq_some_iff.1 h2).1).trans h2, h3, Rep.step hs h6, h7⟩
        | buf t sz l lk =>
          obtain ⟨h0, h1⟩ := hS.objs.at_ o _ h5
          refine ⟨h0, h1.imp (fun h => ⟨(if_neg h4).trans h.1, h.2⟩) fun ⟨b, c, fr, c1, c2, h1, h2, h3, h6, h7⟩ => ⟨b, c, fr, c1, c2, (if_neg h4).trans h1, (hbel.block b (Array.getElem?_eq_some_iff.1 h2).1).trans h2, h3, h6, RepR.stepC hs.toStepC _ _ _ h7⟩⟩
        | dead => trivial
    · rcases hget o y h with ⟨rfl, rfl⟩ | ⟨h4, h5⟩ <;> rcases hget o' y' h' with ⟨rfl, rfl⟩ | ⟨h6, h7⟩
      · rfl
      · have e1 : some w.heap.size = some b := by simpa using hb
        have e2 : μ o' = some b := by simpa [h6] using hb'
        injection e1 with e1
        have := Own.lt hS h7 hy' e2
        omega
      · have e1 : some w.heap.size = some b := by simpa using hb'
        have e2 : μ o = some b := by simpa [h4] using hb
        injection e1 with e1
        have := Own.lt hS h5 hy e2
        omega
      · exact hS.objs.inj o o' y y' b h5 h7 hy hy' (by simpa [h4] using hb) (by simpa [h6] using hb')
  · intro o y b h hy hb
    rcases hget o y h with ⟨rfl, rfl⟩ | ⟨h4, h5⟩
    · have e1 : some w.heap.size = some b := by simpa using hb
      injection e1 with e1
      exact .inl (e1 ▸ hS.kept.size)
    · exact hS.fresh o y b h5 hy (by simpa [h4] using hb)
end Go.Proofs.YtdaojihnaajfeaaX

/- What one operation yields of trees, and that it does. Of no program. -/
set_option linter.unusedVariables false
set_option linter.unusedSimpArgs false
namespace Go.Proofs.YtdaojihnaajfeaaX
open Go Go.RowKit
inductive Eff where
  | none
  | new (x : Own)
  | put (o : Nat) (x : Own)
  | move (ks : List Nat) (o : Nat) (x : Own)
  | shift (o : Nat) (x : Own)
  | many (ks : List Nat) (l : List (Nat × Own))
def St.upd (S : St) (ks : List Nat) (o : Nat) (y : Own) : St := ⟨killL ks S.tmps, (S.objs.map (Option.map (Own.kill ks))).set o (some y)⟩
def setsO : List (Nat × Own) → List (Option Own) → List (Option Own)
  | [], o => o
  | (i, x) :: l, o => setsO l (o.set i (some x))
def St.eff (S : St) (k : Nat) : Eff → St
  | .none => S
  | .new x => ⟨S.tmps, S.objs.set k (some x)⟩
  | .put o x => ⟨S.tmps, S.objs.set o (some x)⟩
  | .move ks o x => S.upd ks o x
  | .shift o x => ⟨S.tmps, (S.objs.set k (some x)).set o (some .dead)⟩
  | .many ks l => ⟨killL ks S.tmps, setsO l (S.objs.map (Option.map (Own.kill ks)))⟩
def Yields (P : Program) (o : Oper) (a : Act) (w : World) (R : Value → World → Prop) : Prop :=
  ∀ (next : Act → World → Prop) (Q : Exit → Act → World → Prop), (∀ v w', R v w' → next (a.put o.dst v) w') → o.wp P a w next Q
section
variable {P : Program} {o : Oper} {a : Act} {w w' : World} {R : Value → World → Prop}
theorem yields_value {v : Value} (h : (execOp a.eval o).run P w = .ok (.value v) w') (hR : R v w') : Yields P o a w R := fun next Q hn => by
  unfold Oper.wp; rw [h]; exact hn v w' hR
theorem yields_skip (h : (execOp a.eval o).run P w = .ok .skip w') (hR : R undef w') : Yields P o a w R := fun next Q hn => by
  unfold Oper.wp; rw [h]; exact hn undef w' hR
theorem yields_enter {f : FuncId} {args : Array Value} (h : (execOp a.eval o).run P w = .ok (.enter f args) w') (hR : Calls P f args w' fun e w'' => ∃ v, e = .returned v ∧ R v w'') : Yields P o a w R := fun next Q hn => by
  unfold Oper.wp; rw [h]
  exact hR.mono fun e w'' ⟨v, he, hv⟩ => by subst he; exact hn v w'' hv
theorem Yields.mono {R' : Value → World → Prop} (h : Yields P o a w R) (hr : ∀ v w', R v w' → R' v w') : Yields P o a w R' := fun next Q hn => h next Q fun v w' hv => hn v w' (hr v w' hv)
end
def byteAt (s : ByteArray) (i : Int) : Int := if h : i.toNat < s.size then ((s[i.toNat]'h).toNat : Int) else 0
def bAnd (k : IntKind) (x y : Int) : Int := ((BitVec.ofInt k.bits x &&& BitVec.ofInt k.bits y).toNat : Int)
def bOr (k : IntKind) (x y : Int) : Int := ((BitVec.ofInt k.bits x ||| BitVec.ofInt k.bits y).toNat : Int)
def bXor (k : IntKind) (x y : Int) : Int := ((BitVec.ofInt k.bits x ^^^ BitVec.ofInt k.bits y).toNat : Int)
def bAndNot (k : IntKind) (x y : Int) : Int := ((BitVec.ofInt k.bits x &&& ~~~BitVec.ofInt k.bits y).toNat : Int)
def bShl (k : IntKind) (x : Int) (n : Nat) : Int := x * 2 ^ min n k.bits
def bShr (k : IntKind) (x : Int) (n : Nat) : Int := x.fdiv (2 ^ min n k.bits)
def bNot (k : IntKind) (n : Int) : Int := ((BitVec.ofInt k.bits (if k.signed then -1 else k.max) ^^^ BitVec.ofInt k.bits n).toNat : Int)
def intW (op : BinOp) (k : IntKind) (x y : Int) (K : T → Prop) : Prop :=
  match op with
  | .add => K (.imm (.int k (k.wrap (x + y))))
  | .sub => K (.imm (.int k (k.wrap (x - y))))
  | .mul => K (.imm (.int k (k.wrap (x * y))))
  | .quo => y ≠ 0 ∧ K (.imm (.int k (k.wrap (x.tdiv y))))
  | .rem => y ≠ 0 ∧ K (.imm (.int k (x.tmod y)))
  | .and => K (.imm (.int k (k.wrap (bAnd k x y))))
  | .or => K (.imm (.int k (k.wrap (bOr k x y))))
  | .xor => K (.imm (.int k (k.wrap (bXor k x y))))
  | .andNot => K (.imm (.int k (k.wrap (bAndNot k x y))))
  | .eql => K (.imm (.bool (x == y)))
  | .neq => K (.imm (.bool (x != y)))
  | .lss => K (.imm (.bool (decide (x < y))))
  | .leq => K (.imm (.bool (decide (x ≤ y))))
  | .gtr => K (.imm (.bool (decide (x > y))))
  | .geq => K (.imm (.bool (decide (x ≥ y))))
  | _ => False
def strW (op : BinOp) (x y : ByteArray) (K : T → Prop) : Prop :=
  match op with
  | .add => x.size + y.size ≤ 9223372036854775807 ∧ K (.imm (.string (x ++ y)))
  | .eql => K (.imm (.bool (x.toList == y.toList)))
  | .neq => K (.imm (.bool (!(x.toList == y.toList))))
  | .lss => K (.imm (.bool (Op.bytesLess x.toList y.toList)))
  | .leq => K (.imm (.bool (Op.bytesLess x.toList y.toList || x.toList == y.toList)))
  | .gtr => K (.imm (.bool (!(Op.bytesLess x.toList y.toList || x.toList == y.toList))))
  | .geq => K (.imm (.bool (!Op.bytesLess x.toList y.toList)))
  | _ => False
def binV (P : Program) (t : TypeId) (op : BinOp) (p q : Value) (K : T → Prop) : Prop :=
  match p, q with
  | .int k x, .int k' y => (match op with
    | .shl => 0 ≤ y ∧ K (.imm (.int k (k.wrap (bShl k x y.toNat))))
    | .shr => 0 ≤ y ∧ K (.imm (.int k (bShr k x y.toNat)))
    | op => k = k' ∧ intW op k x y K)
  | .string x, .string y => strW op x y K
  | .bool x, .bool y => P.underlying t = some .bool ∧ (match op with
    | .eql => K (.imm (.bool (x == y)))
    | .neq => K (.imm (.bool (!(x == y))))
    | _ => False)
  | _, _ => False
def binW (P : Program) (t : TypeId) (op : BinOp) (x y : T) (K : T → Prop) : Prop :=
  match x, y with
  | .imm p, .imm q => binV P t op p q K
  | _, _ => False
theorem int_sound {P : Program} {w : World} {t : TypeId} {op : BinOp} {k : IntKind} {x y : Int} {K : T → Prop} (h : intW op k x y K) :
    ∃ q, K (.imm q) ∧ flat q = true ∧ (binOp op t (.int k x) (.int k y)).run P w = .ok q w := by
  unfold intW at h
  cases op <;> simp only at h <;> first
    | exact h.elim
    | exact ⟨_, h, rfl, by simp [binOp, Op.intArith, Op.intBits, Op.intCmp, bAnd, bOr, bXor, bAndNot, go_sem]⟩
    | exact ⟨_, h.2, rfl, by simp [binOp, Op.intDiv, go_sem, h.1]⟩
theorem str_sound {P : Program} {w : World} {t : TypeId} {op : BinOp} {x y : ByteArray} {K : T → Prop} (h : strW op x y K) :
    ∃ q, K (.imm q) ∧ flat q = true ∧ (binOp op t (.string x) (.string y)).run P w = .ok q w := by
  unfold strW at h
  cases op <;> simp only at h <;> first
    | exact h.elim
    | exact ⟨_, h, rfl, by simp [binOp, Op.stringOp, go_sem]⟩
    | exact ⟨_, h.2, rfl, by
        have h1 := h.1
        have : ¬ ((x.size + y.size : Nat) : Int) > IntKind.i64.max := by
          have e : IntKind.i64.max = 9223372036854775807 := rfl
          rw [e]; omega
        simp only [binOp, Op.stringOp, this, if_false]; rfl⟩
theorem shift_ok {P : Program} {w : World} {op : BinOp} {k k' : IntKind} {x y : Int} (h : 0 ≤ y) : (Op.shift .shl k x k' y).run P w = .ok (.int k (k.wrap (bShl k x y.toNat))) w ∧ (Op.shift .shr k x k' y).run P w = .ok (.int k (bShr k x y.toNat)) w := by
  have hy : ¬ y < 0 := by omega
  constructor <;> (unfold Op.shift; rw [if_neg hy]; rfl)
theorem run_bind {α β : Type} {P : Program} {s : Sem α} {f : α → Sem β} {w w' : World} {x : α} (h : s.run P w = .ok x w') : (s >>= f).run P w = (f x).run P w' := by
  rw [Sem.run_bind, h]; rfl
theorem run_underlying {P : Program} {w : World} {t : TypeId} {d : TypeDesc} (h : P.underlying t = some d) : (underlying t).run P w = .ok d w := by
  simp [underlying, go_sem, h]
theorem equal_bool {P : Program} {w : World} {t : TypeId} {a b : Bool} (h : P.underlying t = some .bool) : (Op.equal t (.bool a) (.bool b)).run P w = .ok (a == b) w := by
  unfold Op.equal
  rw [show Op.maxDepth = 9999 + 1 from rfl, Op.equalIn, run_bind (run_underlying h)]
  rfl
theorem bin_sound {P : Program} {w : World} {op : BinOp} {t : TypeId} {x y : Operand} {a b : T} {u v : Value} {E : Env} {K : T → Prop} (h : binW P t op a b K) (ha : Rep E false a u) (hb : Rep E false b v) :
    ∃ r q, K r ∧ (do eqGuard op t x y u v; binOp op t u v : Sem Value).run P w = .ok q w ∧ Rep E false r q := by
  cases a <;> cases b <;> try exact h.elim
  rename_i p q
  replace h : binV P t op p q K := h
  simp only [Rep] at ha hb
  obtain ⟨rfl, ha⟩ := ha
  obtain ⟨rfl, hb⟩ := hb
  have main : ∃ q, K (.imm q) ∧ flat q = true ∧ (binOp op t u v).run P w = .ok q w := by
    cases u <;> cases v <;> try exact h.elim
    · rename_i b1 b2
      obtain ⟨ht, h⟩ := h
      cases op <;> first
        | exact h.elim
        | exact ⟨_, h, rfl, run_bind (equal_bool ht)⟩
    · rename_i k x' k' y'
      cases op <;> simp only [binV] at h <;> first
        | exact ⟨_, h.2, rfl, by have := (shift_ok (P := P) (w := w) (op := .shl) (k := k) (k' := k') (x := x') h.1).1; simpa only [binOp] using this⟩
        | exact ⟨_, h.2, rfl, by have := (shift_ok (P := P) (w := w) (op := .shl) (k := k) (k' := k') (x := x') h.1).2; simpa only [binOp] using this⟩
        | (obtain ⟨rfl, h⟩ := h; exact int_sound h)
    · exact str_sound h
  obtain ⟨q, h1, h2, h3⟩ := main
  refine ⟨_, q, h1, ?_, by simp only [Rep, h2, and_true]⟩
  have g : (eqGuard op t x y u v) = pure () := by
    cases u <;> cases v <;> first | exact h.elim | (cases op <;> rfl)
  rw [g]
  exact h3
end Go.Proofs.YtdaojihnaajfeaaX

/- Cells read and written, types, parts. Of no program. -/
set_option linter.unusedVariables false
set_option linter.unusedSimpArgs false
namespace Go.Proofs.YtdaojihnaajfeaaX
open Go Go.RowKit
theorem add_at (b o n : Nat) : (⟨b, o, none⟩ : Addr).add n = ⟨b, o + n, none⟩ := by
  unfold Addr.add; split
  · rename_i h; subst h; rfl
  · rfl
section
variable {P : Program} {w : World}
theorem run_load {a : Addr} {v : Value} (h : w.cell? a = some v) : (load a).run P w = .ok v w := by
  simp only [load, Sem.run, h]
theorem run_loadCellsFrom {b o : Nat} : ∀ (n i : Nat) (acc : Array Value) (c : List Value), c.length = n → (∀ j v, c[j]? = some v → w.cell? ⟨b, o + i + j, none⟩ = some v) →
    (loadCellsFrom ⟨b, o, none⟩ i n acc).run P w = .ok (acc ++ c.toArray) w
  | 0, i, acc, c, hn, h => by
    have : c = [] := List.length_eq_zero_iff.1 hn
    subst this
    simp [loadCellsFrom]
  | n + 1, i, acc, c, hn, h => by
    cases c with
    | nil => simp at hn
    | cons v c =>
      rw [loadCellsFrom, run_bind (run_load (a := (⟨b, o, none⟩ : Addr).add i) (v := v) (by rw [add_at]; simpa using h 0 v rfl))]
      rw [run_loadCellsFrom n (i + 1) (acc.push v) c (by simpa using hn) (fun j u hj => by
        have := h (j + 1) u (by simpa using hj)
        rw [← this]; congr 2; omega)]
      simp
theorem run_loadCells {b o n : Nat} {c : List Value} (hn : c.length = n) (h : ∀ j v, c[j]? = some v → w.cell? ⟨b, o + j, none⟩ = some v) : (loadCells ⟨b, o, none⟩ n).run P w = .ok c.toArray w := by
  unfold loadCells
  rw [run_loadCellsFrom n 0 #[] c hn (by simpa using h)]; simp
theorem run_program : (program).run P w = .ok P w := rfl
theorem run_typeInfo {t : TypeId} {i : TypeInfo} (h : P.info? t = some i) : (typeInfo t).run P w = .ok i w := by
  simp [typeInfo, go_sem, h]
theorem run_sizeOf {t : TypeId} {i : TypeInfo} (h : P.info? t = some i) : (Go.sizeOf t).run P w = .ok i.size w := by
  unfold Go.sizeOf; rw [run_bind (run_typeInfo h)]; rfl
theorem run_zeroValue {t : TypeId} {i : TypeInfo} {z : Value} (h : P.info? t = some i) (hz : i.zero = some z) : (zeroValue t).run P w = .ok z w := by
  unfold zeroValue; rw [run_bind (run_typeInfo h), hz]; rfl
def aggD : TypeDesc → Bool
  | .struct _ | .array _ _ => true
  | _ => false
theorem run_isAgg {t : TypeId} {d : TypeDesc} (h : P.underlying t = some d) : (isAgg t).run P w = .ok (aggD d) w := by
  unfold isAgg; rw [run_bind (run_underlying h)]; cases d <;> rfl
theorem run_store {a : Addr} {v u : Value} (h : w.cell? a = some u) (hf : w.frozen? a = false) (hv : leaf v = true) : (store a v).run P w = .ok () (w.setCell a v) := by
  cases v <;> first | (simp [leaf] at hv; done) | simp only [store, Sem.run, h, hf, if_false, Bool.false_eq_true]
def patch (c : List Value) (o : Nat) (vs : List Value) : List Value := c.take o ++ vs ++ c.drop (o + vs.length)
theorem run_storeCells {b o : Nat} {t : TypeId} {fr : Nat × Nat} : ∀ (vs : List Value) (i : Nat) (w : World) (c : Array Value), w.heap[b]? = some (Go.Obj.cells c t fr) → o + i + vs.length ≤ c.size → Unf fr c.size → (∀ v ∈ vs, leaf v = true) →
    ∃ w', (storeCells ⟨b, o, none⟩ vs i).run P w = .ok () w' ∧ w'.heap[b]? = some (Go.Obj.cells (patch c.toList (o + i) vs).toArray t fr) ∧ (∀ k, k ≠ b → w'.heap[k]? = w.heap[k]?) ∧ w'.heap.size = w.heap.size ∧ w'.os = w.os ∧ w'.tape = w.tape ∧ w'.output = w.output
  | [], i, w, c, h, hn, hf, hv => ⟨w, rfl, by rw [h]; simp [patch], fun _ _ => rfl, rfl, rfl, rfl, rfl⟩
  | v :: vs, i, w, c, h, hn, hf, hv => by
    have hlt : o + i < c.size := by simp at hn; omega
    have hc : w.cell? ⟨b, o + i, none⟩ = some c[o + i] := by
      simp [World.cell?, h, Array.getElem?_eq_getElem hlt]
    have hfr : w.frozen? ⟨b, o + i, none⟩ = false := by
      have := hf.out hlt
      simp only [World.frozen?, h]
      simpa using this
    have h1 := run_store (P := P) hc hfr (hv v (by simp))
    have h2 : (w.setCell ⟨b, o + i, none⟩ v).heap[b]? = some (Go.Obj.cells (c.setIfInBounds (o + i) v) t fr) := by
      simp only [World.setCell, Array.getElem?_modify, h]; simp
    obtain ⟨w', a1, a2, a3, a4, a5, a6, a7⟩ := run_storeCells (o := o) vs (i + 1) (w.setCell ⟨b, o + i, none⟩ v) (c.setIfInBounds (o + i) v) h2 (by simp at hn ⊢; omega) (by simpa using hf) (fun u hu => hv u (by simp [hu]))
    refine ⟨w', ?_, ?_, fun k hk => ?_, ?_, a5, a6, a7⟩
    · rw [storeCells, add_at, run_bind h1]; exact a1
    · rw [a2]
      congr 2
      have e : (c.setIfInBounds (o + i) v).toList = c.toList.set (o + i) v := by simp
      unfold patch
      rw [e, List.take_set, List.drop_set, if_pos (by omega)]
      rw [show (v :: vs).length = vs.length + 1 from rfl]
      have e2 : (c.toList.take (o + (i + 1))).set (o + i) v = c.toList.take (o + i) ++ [v] := by
        rw [show o + (i + 1) = o + i + 1 by omega, List.take_succ_eq_append_getElem (by simpa using hlt)]
        rw [List.set_append_right _ _ (by simp; omega)]
        simp [show min (o + i) c.size = o + i by omega]
      rw [e2]
      simp [List.append_assoc, show o + (i + 1) + vs.length = o + i + (vs.length + 1) by omega]
    · rw [a3 k hk]; exact Below.heap_setCell _ _ _ _ hk
    · rw [a4]; simp [World.setCell]
end
/-! ### Types -/
def szOf (P : Program) (t : TypeId) : Nat := match P.info? t with | some i => i.size | none => 0
def zeroOf (P : Program) (t : TypeId) : T := match P.info? t with | some i => (match i.zero with | some z => ofVal z | none => .junk) | none => .junk
def okT (P : Program) (t : TypeId) : Bool := match P.info? t with | some i => i.zero.isSome && decide (t < tagM) | none => false
theorem okT_out {P : Program} {t : TypeId} (h : okT P t = true) : ∃ i z, P.info? t = some i ∧ i.zero = some z ∧ szOf P t = i.size ∧ zeroOf P t = ofVal z := by
  unfold okT at h
  split at h
  · rename_i i hi
    rw [Bool.and_eq_true] at h
    obtain ⟨z, hz⟩ := Option.isSome_iff_exists.1 h.1
    exact ⟨i, z, hi, hz, by simp [szOf, hi], by simp [zeroOf, hi, hz]⟩
  · cases h
theorem okT_lt {P : Program} {t : TypeId} (h : okT P t = true) : t < tagM := by
  unfold okT at h
  split at h
  · rw [Bool.and_eq_true] at h; exact of_decide_eq_true h.2
  · cases h
def partW (P : Program) (t : TypeId) (l : List T) (off : Nat) (K : T → Prop) : Prop :=
  okT P t = true ∧ match P.underlying t with
  | some d => if aggD d = true then K (.agg ((l.drop off).take (szOf P t))) else off < l.length ∧ K (l.getD off .junk)
  | none => False
theorem part_sound {P : Program} {w : World} {t : TypeId} {l : List T} {off : Nat} {K : T → Prop} {E : Env} {cl : Bool} {cs : Array Value} (h : partW P t l off K) (hr : RepL E cl l cs.toList) :
    ∃ x q, K x ∧ (part t cs off).run P w = .ok q w ∧ Rep E cl x q := by
  obtain ⟨ho, h⟩ := h
  obtain ⟨i, z, hi, hz, hs, _⟩ := okT_out ho
  split at h
  · rename_i d hd
    by_cases ha : aggD d = true
    · rw [if_pos ha] at h
      refine ⟨_, .agg (cs.extract off (off + i.size)), h, ?_, ?_⟩
      · unfold part; rw [run_bind (run_isAgg hd), ha, if_pos rfl, run_bind (run_sizeOf hi)]; rfl
      · simp only [Rep]
        refine ⟨_, rfl, ?_⟩
        rw [hs]
        have := (hr.drop off).take i.size
        have e : (cs.extract off (off + i.size)).toList = (cs.toList.drop off).take i.size := by simp [List.extract_eq_take_drop]
        rwa [e]
    · rw [if_neg ha] at h
      have hl := hr.length
      have hlt : off < cs.size := by rw [← Array.length_toList, hl]; exact h.1
      refine ⟨_, cs[off], h.2, ?_, ?_⟩
      · unfold part; rw [run_bind (run_isAgg hd), if_neg ha, Array.getElem?_eq_getElem hlt]; rfl
      · have := hr.get off undef
        have e : cs.toList.getD off undef = cs[off] := by rw [List.getD_eq_getElem?_getD, Array.getElem?_toList, Array.getElem?_eq_getElem hlt]; rfl
        rwa [e] at this
  · exact h.elim
end Go.Proofs.YtdaojihnaajfeaaX

/- Operations that only compute or read. Of no program. -/
set_option linter.unusedVariables false
set_option linter.unusedSimpArgs false
namespace Go.Proofs.YtdaojihnaajfeaaX
open Go Go.RowKit
section
variable {P : Program} {w : World} {E : Env}
def fieldW (P : Program) (t : TypeId) (x : T) (f : Nat) (K : T → Prop) : Prop :=
  match P.underlying t, x with
  | some (.struct fs), .agg l => (match fs[f]? with | some fd => partW P fd.type l fd.offset K | none => False)
  | _, _ => False
theorem field_sound {t : TypeId} {x : T} {f : Nat} {K : T → Prop} {u : Value} {cl : Bool} (h : fieldW P t x f K) (hu : Rep E cl x u) :
    ∃ r q, K r ∧ (Instr.field t u f).run P w = .ok q w ∧ Rep E cl r q := by
  unfold fieldW at h
  split at h
  · rename_i fs l ht
    split at h
    · rename_i fd hf
      simp only [Rep] at hu
      obtain ⟨cs, rfl, hl⟩ := hu
      obtain ⟨r, q, h1, h2, h3⟩ := part_sound (P := P) (w := w) h hl
      refine ⟨r, q, h1, ?_, h3⟩
      unfold Instr.field
      rw [run_bind (run_underlying ht)]
      simp only [hf]
      exact h2
    · exact h.elim
  · exact h.elim
def indexW (P : Program) (t : TypeId) (x i : T) (K : T → Prop) : Prop :=
  match x, i with
  | .imm (.string s), .imm (.int _ n) => P.underlying t = some .string ∧ 0 ≤ n ∧ n < (s.size : Int) ∧ K (.imm (.int .u8 (byteAt s n)))
  | .agg l, .imm (.int _ n) => (match P.underlying t with
    | some (.array len e) => okT P e = true ∧ 0 ≤ n ∧ n < (len : Int) ∧ partW P e l (n.toNat * szOf P e) K
    | _ => False)
  | _, _ => False
theorem index_sound {t : TypeId} {x i : T} {K : T → Prop} {u v : Value} {cl cl' : Bool} (h : indexW P t x i K) (hu : Rep E cl x u) (hv : Rep E cl' i v) :
    ∃ r q, K r ∧ (Instr.index t u v).run P w = .ok q w ∧ Rep E cl r q := by
  unfold indexW at h
  split at h
  · rename_i s k n
    simp only [Rep, flat, and_true] at hu hv
    subst hu hv
    obtain ⟨ht, h0, h1, hK⟩ := h
    refine ⟨_, .int .u8 (byteAt s n), hK, ?_, by simp only [Rep, flat, and_true]⟩
    have hlt : n.toNat < s.size := by omega
    unfold Instr.index
    rw [run_bind (show (asIntOf (.int k n)).run P w = .ok (k, n) w from rfl)]
    dsimp only
    rw [run_bind (run_underlying ht)]
    have e : s[n.toNat]? = some (s[n.toNat]'hlt) := by simp [hlt]
    dsimp only
    rw [if_pos h0, e]
    simp [byteAt, hlt]
  · rename_i l k n
    split at h
    · rename_i len e ht
      obtain ⟨ho, h0, h1, hp⟩ := h
      simp only [Rep, flat, and_true] at hu hv
      subst hv
      obtain ⟨cs, rfl, hl⟩ := hu
      obtain ⟨inf, z, hi, hz, hs, _⟩ := okT_out ho
      rw [hs] at hp
      obtain ⟨r, q, k1, k2, k3⟩ := part_sound (P := P) (w := w) hp hl
      refine ⟨r, q, k1, ?_, k3⟩
      unfold Instr.index
      rw [run_bind (show (asIntOf (.int k n)).run P w = .ok (k, n) w from rfl)]
      dsimp only
      rw [run_bind (run_underlying ht)]
      dsimp only
      rw [if_pos ⟨h0, h1⟩, run_bind (run_sizeOf hi)]
      exact k2
    · exact h.elim
  · exact h.elim
def extractW (x : T) (i : Nat) (K : T → Prop) : Prop :=
  match x with
  | .tup l => i < l.length ∧ K (l.getD i .junk)
  | _ => False
theorem extract_sound {x : T} {i : Nat} {K : T → Prop} {u : Value} {cl : Bool} (h : extractW x i K) (hu : Rep E cl x u) :
    ∃ r q, K r ∧ (Instr.extract u i).run P w = .ok q w ∧ Rep E cl r q := by
  unfold extractW at h
  split at h
  · rename_i l
    simp only [Rep] at hu
    obtain ⟨cs, rfl, hl⟩ := hu
    have hlen := hl.length
    have hlt : i < cs.size := by rw [← Array.length_toList, hlen]; exact h.1
    refine ⟨_, cs[i], h.2, ?_, ?_⟩
    · simp only [Instr.extract, Array.getElem?_eq_getElem hlt]; rfl
    · have := hl.get i undef
      have e : cs.toList.getD i undef = cs[i] := by rw [List.getD_eq_getElem?_getD, Array.getElem?_toList, Array.getElem?_eq_getElem hlt]; rfl
      rwa [e] at this
  · exact h.elim
def unW (op : UnOp) (x : T) (K : T → Prop) : Prop :=
  match op, x with
  | .neg, .imm (.int k n) => K (.imm (.int k (k.wrap (0 - n))))
  | .xor, .imm (.int k n) => K (.imm (.int k (k.wrap (bNot k n))))
  | .not, .imm (.bool b) => K (.imm (.bool (!b)))
  | _, _ => False
theorem un_sound {op : UnOp} {x : T} {K : T → Prop} {u : Value} {cl : Bool} (h : unW op x K) (hu : Rep E cl x u) :
    ∃ r q, K r ∧ (Op.unary op u).run P w = .ok q w ∧ Rep E cl r q := by
  unfold unW at h
  split at h
  · simp only [Rep, flat, and_true] at hu; subst hu; exact ⟨_, _, h, rfl, by simp only [Rep, flat, and_true]⟩
  · simp only [Rep, flat, and_true] at hu; subst hu; exact ⟨_, _, h, rfl, by simp only [Rep, flat, and_true, bNot]⟩
  · simp only [Rep, flat, and_true] at hu; subst hu; exact ⟨_, _, h, rfl, by simp only [Rep, flat, and_true]⟩
  · exact h.elim
def loadP (P : Program) (t : TypeId) (x : T) (c : Nat) (K : T → Prop) : Prop :=
  okT P t = true ∧ match P.underlying t with
  | some d => if aggD d = true then c + szOf P t ≤ x.cells.length ∧ K (.agg ((x.cells.drop c).take (szOf P t))) else c < x.cells.length ∧ K (x.cells.getD c .junk)
  | none => False
theorem isAgg_cells {cl : Bool} {x : T} {u : Value} (h : Rep E cl x u) (hn : x.cells.length = u.cells.size) : RepL E cl x.cells u.cells.toList := by
  cases x with
  | agg l => simp only [Rep] at h; obtain ⟨cs, rfl, hl⟩ := h; exact hl
  | junk =>
    have : u.cells.size = 1 := hn.symm
    cases u <;> first
      | (simp only [T.cells, Value.cells, RepL]; exact ⟨_, _, rfl, h, rfl⟩)
      | (rename_i cs
         simp only [T.cells, Value.cells] at this ⊢
         obtain ⟨y, hy⟩ := Array.size_eq_one_iff.1 this
         subst hy
         simp only [RepL]; exact ⟨_, _, rfl, by simp only [Rep], rfl⟩)
  | _ =>
    have e : u.cells = #[u] := by
      simp only [Rep] at h
      first
        | (obtain ⟨rfl, hf⟩ := h; cases u <;> first | rfl | (simp [flat] at hf; done))
        | (obtain ⟨a, cap, c, rfl, _⟩ := h; rfl)
        | (obtain ⟨b, o, u', rfl, _⟩ := h; rfl)
        | (obtain ⟨_, _, b, _, rfl⟩ := h; rfl)
        | (obtain ⟨_, _, h | ⟨b, p, cap, c, t, fr, _, rfl, _⟩⟩ := h
           · obtain ⟨_, _, _, a, rfl⟩ := h; rfl
           · rfl)
        | (obtain ⟨cs, rfl, _⟩ := h; rfl)
        | (obtain ⟨u', rfl, _⟩ := h; rfl)
    rw [e]
    simp only [T.cells, RepL]
    exact ⟨_, _, rfl, h, rfl⟩
theorem loadP_sound {t : TypeId} {x : T} {c : Nat} {K : T → Prop} {cl : Bool} {b o : Nat} {cs : List Value} (h : loadP P t x c K) (hx : RepL E cl x.cells cs) (hc : ∀ j v, cs[j]? = some v → w.cell? ⟨b, o + j, none⟩ = some v) :
    ∃ r q, K r ∧ (loadVar t ⟨b, o + c, none⟩).run P w = .ok q w ∧ Rep E cl r q := by
  obtain ⟨ho, h⟩ := h
  obtain ⟨inf, z, hi, hz, hs, _⟩ := okT_out ho
  have hlen := hx.length
  split at h
  · rename_i d hd
    by_cases ha : aggD d = true
    · rw [if_pos ha] at h
      have hL := (hx.drop c).take (szOf P t)
      refine ⟨_, .agg ((cs.drop c).take (szOf P t)).toArray, h.2, ?_, by simp only [Rep]; exact ⟨_, rfl, hL⟩⟩
      unfold loadVar
      rw [run_bind (run_isAgg hd), ha, if_pos rfl, run_bind (run_sizeOf hi)]
      rw [run_bind (run_loadCells (c := (cs.drop c).take (szOf P t)) (by rw [← hs, List.length_take, List.length_drop, hlen]; omega) (fun j v hj => by
        have hj' : cs[c + j]? = some v := by
          rw [List.getElem?_take] at hj
          split at hj
          · rwa [List.getElem?_drop] at hj
          · cases hj
        rw [Nat.add_assoc]; exact hc _ _ hj'))]
      rfl
    · rw [if_neg ha] at h
      have hlt : c < cs.length := by rw [hlen]; exact h.1
      have hg := hx.get c undef
      have e : cs.getD c undef = cs[c] := by rw [List.getD_eq_getElem?_getD, List.getElem?_eq_getElem hlt]; rfl
      rw [e] at hg
      refine ⟨_, cs[c], h.2, ?_, hg⟩
      unfold loadVar
      rw [run_bind (run_isAgg hd), if_neg ha]
      exact run_load (hc _ _ (List.getElem?_eq_getElem hlt))
  · exact h.elim
def isJunk : T → Bool
  | .junk => true
  | _ => false
def leafT : T → Bool
  | .junk | .agg _ => false
  | _ => true
theorem cells_one {cl : Bool} {x : T} {u : Value} (hj : leafT x = true) (h : Rep E cl x u) : u.cells = #[u] := by
  cases x with
  | agg l => cases hj
  | junk => cases hj
  | _ =>
    simp only [Rep] at h
    first
      | (obtain ⟨rfl, hf⟩ := h; cases u <;> first | rfl | (simp [flat] at hf; done))
      | (obtain ⟨a, cap, c, rfl, _⟩ := h; rfl)
      | (obtain ⟨b, o, u', rfl, _⟩ := h; rfl)
      | (obtain ⟨_, _, b, _, rfl⟩ := h; rfl)
      | (obtain ⟨_, _, h | ⟨b, p, cap, c, t, fr, _, rfl, _⟩⟩ := h
         · obtain ⟨_, _, _, a, rfl⟩ := h; rfl
         · rfl)
      | (obtain ⟨cs, rfl, _⟩ := h; rfl)
      | (obtain ⟨u', rfl, _⟩ := h; rfl)
theorem cells_len {cl : Bool} {x : T} {u : Value} (hj : isJunk x = false) (h : Rep E cl x u) : x.cells.length = u.cells.size := by
  cases x with
  | agg l => simp only [Rep] at h; obtain ⟨cs, rfl, hl⟩ := h; have := hl.length; simpa [T.cells, Value.cells] using this.symm
  | junk => cases hj
  | _ =>
    have e : u.cells = #[u] := by
      simp only [Rep] at h
      first
        | (obtain ⟨rfl, hf⟩ := h; cases u <;> first | rfl | (simp [flat] at hf; done))
        | (obtain ⟨a, cap, c, rfl, _⟩ := h; rfl)
        | (obtain ⟨b, o, u', rfl, _⟩ := h; rfl)
        | (obtain ⟨_, _, b, _, rfl⟩ := h; rfl)
        | (obtain ⟨_, _, h | ⟨b, p, cap, c, t, fr, _, rfl, _⟩⟩ := h
           · obtain ⟨_, _, _, a, rfl⟩ := h; rfl
           · rfl)
        | (obtain ⟨cs, rfl, _⟩ := h; rfl)
        | (obtain ⟨u', rfl, _⟩ := h; rfl)
    rw [e]; rfl
def loadW (P : Program) (t : TypeId) (a : T) (look : Nat → Option Own) (K : T → Prop) : Prop :=
  match a with
  | .ref o sz i c => (match look o with
    | some (.box _ x _) => i = 0 ∧ loadP P t x c K
    | some (.buf _ sz' l _) => sz = sz' ∧ i < l.length ∧ isJunk (l.getD i .junk) = false ∧ loadP P t (l.getD i .junk) c K
    | _ => False)
  | .pp x => isJunk x = false ∧ loadP P t x 0 K
  | _ => False
theorem load_sound {t : TypeId} {a : T} {look : Nat → Option Own} {K : T → Prop} {u : Value} (h : loadW P t a look K) (hu : Rep E false a u) (hl : ∀ i x, look i = some x → E.objs[i]? = some (some x)) (hO : Objs E) :
    ∃ r q, K r ∧ (Instr.loadAt t u).run P E.w = .ok q E.w ∧ Rep E false r q := by
  unfold loadW at h
  split at h
  · rename_i o sz i c
    simp only [Rep] at hu
    obtain ⟨_, _, b, hb, rfl⟩ := hu
    split at h
    · rename_i bt x lk hlk
      obtain ⟨rfl, h⟩ := h
      obtain ⟨b', fr, v, h1, h2, h3, h4, h5⟩ := hO.at_ o _ (hl _ _ hlk)
      rw [hb] at h1; cases h1
      obtain ⟨r, q, k1, k2, k3⟩ := loadP_sound (P := P) (w := E.w) (b := b) (o := 0) h (isAgg_cells h4 h5.1) (fun j y hj => by
        rw [Array.getElem?_toList] at hj
        simp [World.cell?, h2, hj])
      refine ⟨r, q, k1, ?_, k3⟩
      unfold Instr.loadAt
      rw [run_bind (show (Instr.sureAddr _).run P E.w = .ok _ E.w from rfl)]
      simpa using k2
    · rename_i bt sz' l lk hlk
      obtain ⟨rfl, hi, hj, h⟩ := h
      obtain ⟨_, h1⟩ := hO.at_ o _ (hl _ _ hlk)
      rcases h1 with ⟨h1, _⟩ | ⟨b', cs, fr, c1, c2, h1, h2, h3, h4, h5⟩
      · rw [hb] at h1; cases h1
      rw [hb] at h1; cases h1
      obtain ⟨v, g1, g2, g3, _⟩ := h5.get i hi
      obtain ⟨r, q, k1, k2, k3⟩ := loadP_sound (P := P) (w := E.w) (b := b) (o := i * sz) (cl := true) h (isAgg_cells g1 (cells_len hj g1)) (fun j y hy => by
        have := g3 j y (by simpa using hy)
        have e : cs[i * sz + j]? = some y := by
          rw [← Array.getElem?_toList, h4, List.getElem?_append_left (List.getElem?_eq_some_iff.1 this).1]; exact this
        simp [World.cell?, h2, e])
      refine ⟨r, q, k1, ?_, Rep.open _ _ _ k3⟩
      unfold Instr.loadAt
      rw [run_bind (show (Instr.sureAddr _).run P E.w = .ok _ E.w from rfl)]
      exact k2
    · exact h.elim
  · rename_i x
    simp only [Rep] at hu
    obtain ⟨b, o, v, rfl, h1, h2⟩ := hu
    obtain ⟨hj, h⟩ := h
    obtain ⟨r, q, k1, k2, k3⟩ := loadP_sound (P := P) (w := E.w) (b := b) (o := o) (cl := true) h (isAgg_cells h1 (cells_len hj h1)) (fun j y hy => by
      obtain ⟨b', o', e1, e2⟩ := h2 j y hy
      cases e1
      exact e2.1)
    refine ⟨r, q, k1, ?_, Rep.open _ _ _ k3⟩
    unfold Instr.loadAt
    rw [run_bind (show (Instr.sureAddr _).run P E.w = .ok _ E.w from rfl)]
    simpa using k2
  · exact h.elim
def fieldAddrW (P : Program) (t : TypeId) (x : T) (f : Nat) (K : T → Prop) : Prop :=
  match P.underlying t with
  | some (.struct fs) => (match fs[f]? with
    | some fd => okT P fd.type = true ∧ szOf P fd.type ≠ 0 ∧ (match x with
      | .ref o sz i c => K (.ref o sz i (c + fd.offset))
      | .pp (.agg l) => (match P.underlying fd.type with
        | some d => if aggD d = true then K (.pp (.agg ((l.drop fd.offset).take (szOf P fd.type)))) else fd.offset < l.length ∧ leafT (l.getD fd.offset .junk) = true ∧ K (.pp (l.getD fd.offset .junk))
        | none => False)
      | _ => False)
    | none => False)
  | _ => False
theorem fieldAddr_sound {t : TypeId} {x : T} {f : Nat} {K : T → Prop} {u : Value} {cl : Bool} (h : fieldAddrW P t x f K) (hu : Rep E cl x u) :
    ∃ r q, K r ∧ (Instr.fieldAt t u f).run P w = .ok q w ∧ Rep E cl r q := by
  unfold fieldAddrW at h
  split at h
  · rename_i fs ht
    split at h
    · rename_i fd hf
      obtain ⟨ho, hz, h⟩ := h
      obtain ⟨inf, z, hi, hzz, hs, _⟩ := okT_out ho
      have hrun : ∀ b o, (Instr.fieldAt t (.pointer (some ⟨b, o, none⟩)) f).run P w = .ok (.pointer (some ⟨b, o + fd.offset, none⟩)) w := by
        intro b o
        unfold Instr.fieldAt
        rw [run_bind (run_underlying ht)]
        simp only [hf]
        rw [run_bind (show (Instr.sureAddr _).run P w = .ok _ w from rfl)]
        have hp : (fieldPlace ⟨b, o, none⟩ fd).run P w = .ok ⟨b, o + fd.offset, none⟩ w := by
          unfold fieldPlace
          rw [run_bind (run_sizeOf hi), if_neg (by rwa [← hs]), add_at]; rfl
        rw [run_bind hp]; rfl
      split at h
      · rename_i o sz i c
        simp only [Rep] at hu
        obtain ⟨h1, h2, b, h3, rfl⟩ := hu
        exact ⟨_, _, h, hrun _ _, by simp only [Rep]; exact ⟨h1, h2, b, h3, by rw [Nat.add_assoc]⟩⟩
      · rename_i l
        simp only [Rep] at hu
        obtain ⟨b, o, v, rfl, ⟨cs, rfl, hl⟩, h2⟩ := hu
        split at h
        · rename_i d hd
          by_cases ha : aggD d = true
          · rw [if_pos ha] at h
            refine ⟨_, _, h, hrun _ _, ?_⟩
            simp only [Rep]
            refine ⟨b, _, .agg ((cs.toList.drop fd.offset).take (szOf P fd.type)).toArray, rfl, ⟨_, rfl, (hl.drop _).take _⟩, fun j y hj => ?_⟩
            have hj' : cs.toList[fd.offset + j]? = some y := by
              simp only [Value.cells, List.getElem?_take] at hj
              split at hj
              · rwa [List.getElem?_drop] at hj
              · cases hj
            obtain ⟨b', o', e1, e2⟩ := h2 _ y hj'
            cases e1
            exact ⟨b, _, rfl, by rw [Nat.add_assoc]; exact e2⟩
          · rw [if_neg ha] at h
            have hlt : fd.offset < cs.toList.length := by rw [hl.length]; exact h.1
            have hg := hl.get fd.offset undef
            have e : cs.toList.getD fd.offset undef = cs.toList[fd.offset] := by rw [List.getD_eq_getElem?_getD, List.getElem?_eq_getElem hlt]; rfl
            rw [e] at hg
            refine ⟨_, _, h.2.2, hrun _ _, ?_⟩
            simp only [Rep]
            refine ⟨b, _, cs.toList[fd.offset], rfl, hg, fun j y hj => ?_⟩
            rw [cells_one h.2.1 hg] at hj
            have hj0 : j = 0 ∧ cs.toList[fd.offset] = y := by
              cases j with
              | zero => exact ⟨rfl, by simpa using hj⟩
              | succ j => simp at hj
            obtain ⟨rfl, rfl⟩ := hj0
            obtain ⟨b', o', e1, e2⟩ := h2 fd.offset _ (List.getElem?_eq_getElem hlt)
            cases e1
            exact ⟨b, _, rfl, e2⟩
        · exact h.elim
      · exact h.elim
    · exact h.elim
  · exact h.elim
end
end Go.Proofs.YtdaojihnaajfeaaX

/- Addresses of elements, cuts, conversions, lengths. Of no program. -/
set_option linter.unusedVariables false
set_option linter.unusedSimpArgs false
namespace Go.Proofs.YtdaojihnaajfeaaX
open Go Go.RowKit
section
variable {P : Program} {w : World} {E : Env}
def indexAddrW (P : Program) (t : TypeId) (x i : T) (K : T → Prop) : Prop :=
  match i with
  | .imm (.int _ n) => (match P.underlying t, x with
    | some (.slice e), .sl sz _ l => okT P e = true ∧ szOf P e = sz ∧ sz ≠ 0 ∧ 0 ≤ n ∧ n < (l.length : Int) ∧ K (.pp (l.getD n.toNat .junk))
    | some (.slice e), .rsl o sz off len => okT P e = true ∧ szOf P e = sz ∧ 0 ≤ n ∧ n < (len : Int) ∧ K (.ref o sz (off + n.toNat) 0)
    | some (.array len e), .ref o sz i c => okT P e = true ∧ 0 ≤ n ∧ n < (len : Int) ∧ K (.ref o sz i (c + n.toNat * szOf P e))
    | some (.array len e), .pp (.agg l) => okT P e = true ∧ 0 ≤ n ∧ n < (len : Int) ∧ szOf P e = 1 ∧ n.toNat < l.length ∧ leafT (l.getD n.toNat .junk) = true ∧ K (.pp (l.getD n.toNat .junk))
    | _, _ => False)
  | _ => False
theorem indexAddr_sound {t : TypeId} {x i : T} {K : T → Prop} {u v : Value} {cl cl' : Bool} (h : indexAddrW P t x i K) (hu : Rep E cl x u) (hv : Rep E cl' i v) :
    ∃ r q, K r ∧ (Instr.indexAt t u v).run P w = .ok q w ∧ Rep E cl r q := by
  unfold indexAddrW at h
  split at h
  · rename_i k n
    simp only [Rep, flat, and_true] at hv
    subst hv
    split at h
    · rename_i e sz full l ht
      obtain ⟨ho, hs, hz0, h0, h1, hK⟩ := h
      obtain ⟨inf, z, hi, hz, hs', _⟩ := okT_out ho
      simp only [Rep] at hu
      obtain ⟨a, cap, c, rfl, h2, h3, h4, h5⟩ := hu
      have hlt : n.toNat < l.length := by omega
      obtain ⟨q, g1, g2, g3, _⟩ := h4.get n.toNat hlt
      have hl := h4.length
      have hcell : ∃ v, c[n.toNat * sz]? = some v := by
        have : n.toNat * sz < c.length := by rw [hl]; exact Nat.mul_lt_mul_of_pos_right hlt (by omega)
        exact ⟨_, List.getElem?_eq_getElem this⟩
      obtain ⟨y, hy⟩ := hcell
      obtain ⟨b, o, rfl, hpc⟩ := h5 _ y hy
      refine ⟨_, .pointer (some ⟨b, o + n.toNat * sz, none⟩), hK, ?_, ?_⟩
      · unfold Instr.indexAt
        rw [run_bind (show (asIntOf (.int k n)).run P w = .ok (k, n) w from rfl)]
        dsimp only
        rw [run_bind (run_underlying ht)]
        dsimp only
        rw [run_bind (show (pure (some (⟨b, o, none⟩ : Addr), l.length, e) : Sem _).run P w = .ok _ w from rfl)]
        dsimp only
        rw [run_bind (run_underlying ht)]
        dsimp only
        rw [if_pos ⟨h0, h1⟩, run_bind (run_sizeOf hi), add_at, ← hs', hs]; rfl
      · simp only [Rep]
        refine ⟨b, _, q, rfl, g1, fun j v hj => ?_⟩
        obtain ⟨b', o', e1, e2⟩ := h5 _ v (g3 j v (by simpa using hj))
        cases e1
        exact ⟨b, _, rfl, by rw [Nat.add_assoc]; exact e2⟩
    · rename_i e o sz off len ht
      obtain ⟨ho, hs, h0, h1, hK⟩ := h
      obtain ⟨inf, z, hi, hz, hs', _⟩ := okT_out ho
      simp only [Rep] at hu
      obtain ⟨a1, a2, ⟨_, h2, _⟩ | ⟨b, p, cap, c, t', fr, h2, rfl, h3, h4, h5, h6⟩⟩ := hu
      · omega
      · have hp : p = off * sz := by rcases h4 with h4 | h4 <;> omega
        subst hp
        refine ⟨_, .pointer (some ⟨b, off * sz + n.toNat * sz, none⟩), hK, ?_, ?_⟩
        · unfold Instr.indexAt
          rw [run_bind (show (asIntOf (.int k n)).run P w = .ok (k, n) w from rfl)]
          dsimp only
          rw [run_bind (run_underlying ht)]
          dsimp only
          rw [run_bind (show (pure (some (⟨b, off * sz, none⟩ : Addr), len, e) : Sem _).run P w = .ok _ w from rfl)]
          dsimp only
          rw [run_bind (run_underlying ht)]
          dsimp only
          rw [if_pos ⟨h0, h1⟩, run_bind (run_sizeOf hi), add_at, ← hs', hs]; rfl
        · simp only [Rep]
          exact ⟨a1, a2, b, h2, by rw [Nat.add_zero, Nat.add_mul]⟩
    · rename_i len e o sz i c ht
      obtain ⟨ho, h0, h1, hK⟩ := h
      obtain ⟨inf, z, hi, hz, hs', _⟩ := okT_out ho
      simp only [Rep] at hu
      obtain ⟨a1, a2, b, h3, rfl⟩ := hu
      refine ⟨_, .pointer (some ⟨b, i * sz + c + n.toNat * inf.size, none⟩), hK, ?_, ?_⟩
      · unfold Instr.indexAt
        rw [run_bind (show (asIntOf (.int k n)).run P w = .ok (k, n) w from rfl)]
        dsimp only
        rw [run_bind (run_underlying ht)]
        dsimp only
        rw [run_bind (show (Instr.sureAddr (.pointer (some ⟨b, i * sz + c, none⟩))).run P w = .ok _ w from rfl)]
        rw [run_bind (show (pure (some (⟨b, i * sz + c, none⟩ : Addr), len, e) : Sem _).run P w = .ok _ w from rfl)]
        dsimp only
        rw [run_bind (run_underlying ht)]
        dsimp only
        rw [if_pos ⟨h0, h1⟩, run_bind (run_sizeOf hi), add_at]; rfl
      · simp only [Rep]
        exact ⟨a1, a2, b, h3, by rw [hs', Nat.add_assoc]⟩
    · rename_i len e l ht
      obtain ⟨ho, h0, h1, hsz, hlt, hleaf, hK⟩ := h
      obtain ⟨inf, z, hi, hz, hs', _⟩ := okT_out ho
      simp only [Rep] at hu
      obtain ⟨b, o, v, rfl, ⟨cs, rfl, hl⟩, h2⟩ := hu
      have hlt' : n.toNat < cs.toList.length := by rw [hl.length]; exact hlt
      have hg := hl.get n.toNat undef
      have e1 : cs.toList.getD n.toNat undef = cs.toList[n.toNat] := by rw [List.getD_eq_getElem?_getD, List.getElem?_eq_getElem hlt']; rfl
      rw [e1] at hg
      refine ⟨_, .pointer (some ⟨b, o + n.toNat * inf.size, none⟩), hK, ?_, ?_⟩
      · unfold Instr.indexAt
        rw [run_bind (show (asIntOf (.int k n)).run P w = .ok (k, n) w from rfl)]
        dsimp only
        rw [run_bind (run_underlying ht)]
        dsimp only
        rw [run_bind (show (Instr.sureAddr (.pointer (some ⟨b, o, none⟩))).run P w = .ok _ w from rfl)]
        rw [run_bind (show (pure (some (⟨b, o, none⟩ : Addr), len, e) : Sem _).run P w = .ok _ w from rfl)]
        dsimp only
        rw [run_bind (run_underlying ht)]
        dsimp only
        rw [if_pos ⟨h0, h1⟩, run_bind (run_sizeOf hi), add_at]; rfl
      · simp only [Rep]
        refine ⟨b, _, cs.toList[n.toNat], rfl, hg, fun j y hj => ?_⟩
        rw [cells_one hleaf hg] at hj
        have hj0 : j = 0 ∧ cs.toList[n.toNat] = y := by
          cases j with
          | zero => exact ⟨rfl, by simpa using hj⟩
          | succ j => simp at hj
        obtain ⟨rfl, rfl⟩ := hj0
        obtain ⟨b', o', e1, e2⟩ := h2 n.toNat _ (List.getElem?_eq_getElem hlt')
        cases e1
        exact ⟨b, _, rfl, by rw [← hs', hsz, Nat.mul_one, Nat.add_zero]; exact e2⟩
    · exact h.elim
  · exact h.elim
def endsW (lo hi : Option T) (len : Nat) (K : Nat → Nat → Prop) : Prop :=
  match lo, hi with
  | none, none => K 0 len
  | some (.imm (.int _ a)), none => 0 ≤ a ∧ a ≤ (len : Int) ∧ K a.toNat len
  | none, some (.imm (.int _ b)) => 0 ≤ b ∧ b ≤ (len : Int) ∧ K 0 b.toNat
  | some (.imm (.int _ a)), some (.imm (.int _ b)) => 0 ≤ a ∧ a ≤ b ∧ b ≤ (len : Int) ∧ K a.toNat b.toNat
  | _, _ => False
inductive RepO (E : Env) : Option T → Option Value → Prop where
  | none : RepO E none none
  | some {x v} (h : Rep E false x v) : RepO E (some x) (some v)
theorem run_bound {v : Value} {k : IntKind} {n : Int} {y : Nat} {c : BoundsCode} (hv : v = .int k n) (h0 : 0 ≤ n) (h1 : n ≤ (y : Int)) : (Instr.sliceBound v y c).run P w = .ok n.toNat w := by
  subst hv
  unfold Instr.sliceBound
  rw [run_bind (show (asIntOf (.int k n)).run P w = .ok (k, n) w from rfl)]
  dsimp only
  rw [if_pos ⟨h0, h1⟩]; rfl
theorem ends_sound {lo hi : Option T} {len cap : Nat} {K : Nat → Nat → Prop} {isS : Bool} {a b : Option Value} (h : endsW lo hi len K) (hc : len ≤ cap) (ha : RepO E lo a) (hb : RepO E hi b) :
    ∃ l r, K l r ∧ l ≤ r ∧ r ≤ len ∧ (hi = none → r = len) ∧ (Instr.sliceBounds isS len cap a b none).run P w = .ok (l, r, cap) w := by
  unfold endsW at h
  split at h
  · cases ha; cases hb
    exact ⟨0, len, h, Nat.zero_le _, Nat.le_refl _, fun _ => rfl, rfl⟩
  · rename_i k n
    cases ha; cases hb
    rename_i v hv
    simp only [Rep, flat, and_true] at hv
    obtain ⟨h0, h1, hK⟩ := h
    refine ⟨_, _, hK, by omega, Nat.le_refl _, fun _ => rfl, ?_⟩
    unfold Instr.sliceBounds
    have e := run_bound (P := P) (w := w) (c := .sliceB) hv h0 h1
    simp [go_sem, e]
  · rename_i k n
    cases ha; cases hb
    rename_i v hv
    simp only [Rep, flat, and_true] at hv
    obtain ⟨h0, h1, hK⟩ := h
    refine ⟨_, _, hK, Nat.zero_le _, by omega, (fun e => by cases e), ?_⟩
    unfold Instr.sliceBounds
    have e := run_bound (P := P) (w := w) (y := cap) (c := if isS then .sliceAcap else .sliceAlen) hv h0 (by omega)
    simp [go_sem, e]
  · rename_i k n k' n'
    cases ha; cases hb
    rename_i v hv v' hv'
    simp only [Rep, flat, and_true] at hv hv'
    obtain ⟨h0, h1, h2, hK⟩ := h
    refine ⟨_, _, hK, by omega, by omega, (fun e => by cases e), ?_⟩
    unfold Instr.sliceBounds
    have e := run_bound (P := P) (w := w) (y := cap) (c := if isS then .sliceAcap else .sliceAlen) hv' (by omega) (by omega)
    have e2 := run_bound (P := P) (w := w) (y := n'.toNat) (c := .sliceB) hv h0 (by omega)
    simp [go_sem, e, e2]
  · exact h.elim
def immT : T → Bool
  | .imm _ => true
  | _ => false
theorem immT_cells {cl : Bool} {x : T} {u : Value} (hj : immT x = true) (h : Rep E cl x u) : u.cells = #[u] ∧ leafU u ∧ Rep E true x u := by
  cases x with
  | imm v =>
    simp only [Rep] at h ⊢
    obtain ⟨rfl, hf⟩ := h
    have h1 : u.cells = #[u] ∧ leaf u = true := by cases u <;> first | exact ⟨rfl, rfl⟩ | (simp [flat] at hf; done)
    refine ⟨h1.1, ?_, rfl, hf⟩
    intro y hy
    rw [h1.1] at hy
    simp at hy
    subst hy; exact h1.2
  | _ => cases hj
theorem RepR_of_L {cl : Bool} : ∀ {l : List T} {vs : List Value}, l.all immT = true → RepL E cl l vs → RepR E 1 l vs
  | [], vs, _, h => by simpa only [RepL, RepR] using h
  | x :: l, vs, ha, h => by
    simp only [List.all_cons, Bool.and_eq_true] at ha
    simp only [RepL] at h
    obtain ⟨v, vs', rfl, h1, h2⟩ := h
    obtain ⟨e1, e2, e3⟩ := immT_cells ha.1 h1
    simp only [RepR]
    exact ⟨v, vs', by rw [e1]; rfl, ⟨by rw [e1]; rfl, e2⟩, e3, RepR_of_L ha.2 h2⟩
theorem RepL_of_R {cl : Bool} : ∀ {l : List T} {c : List Value}, l.all immT = true → RepR E 1 l c → RepL E cl l c
  | [], c, _, h => by simpa only [RepL, RepR] using h
  | x :: l, c, ha, h => by
    simp only [List.all_cons, Bool.and_eq_true] at ha
    simp only [RepR] at h
    obtain ⟨u, c', rfl, _, h1, h2⟩ := h
    obtain ⟨e1, e2, e3⟩ := immT_cells ha.1 h1
    simp only [RepL]
    exact ⟨u, c', by rw [e1]; rfl, Rep.open _ _ _ e3, RepL_of_R ha.2 h2⟩
def arrPW (P : Program) (t : TypeId) (x : T) (K : T → Prop) : Prop :=
  match P.underlying t, x with
  | some (.array n e), .sl sz full l => sz = 1 ∧ n ≤ l.length ∧ n ≠ 0 ∧ (l.take n).all immT = true ∧ K (.pp (.agg (l.take n)))
  | _, _ => False
theorem arrP_sound {t : TypeId} {x : T} {K : T → Prop} {u : Value} {cl : Bool} (h : arrPW P t x K) (hu : Rep E cl x u) : ∃ r q, K r ∧ (Instr.arrayAt t u).run P w = .ok q w ∧ Rep E cl r q := by
  unfold arrPW at h
  split at h
  · rename_i n e sz full l ht
    obtain ⟨rfl, hn, hn0, ha, hK⟩ := h
    simp only [Rep] at hu
    obtain ⟨a, cap, c, rfl, h1, h2, h3, h4⟩ := hu
    have hcl := h3.length
    obtain ⟨b, o, rfl, hpc⟩ := h4 0 _ (List.getElem?_eq_getElem (show 0 < c.length by omega))
    refine ⟨_, .pointer (some ⟨b, o, none⟩), hK, ?_, ?_⟩
    · unfold Instr.arrayAt
      rw [run_bind (run_underlying ht)]
      dsimp only
      rw [if_neg (by omega)]; rfl
    · simp only [Rep]
      have ht3 := h3.take n
      rw [Nat.mul_one] at ht3
      refine ⟨b, o, .agg (c.take n).toArray, rfl, ⟨_, rfl, by simpa using RepL_of_R ha ht3⟩, fun j v hj => ?_⟩
      have hj1 : c[j]? = some v := by
        simp only [Value.cells] at hj
        rw [List.getElem?_take] at hj
        split at hj
        · exact hj
        · cases hj
      obtain ⟨b', o', e1, e2⟩ := h4 j v hj1
      cases e1
      exact ⟨b, o, rfl, e2⟩
  · exact h.elim
def sliceW (P : Program) (t : TypeId) (x : T) (lo hi : Option T) (look : Nat → Option Own) (K : T → Prop) : Prop :=
  match P.underlying t, x with
  | some (.array n e), .pp (.agg l) => lo = none ∧ hi = none ∧ okT P e = true ∧ l.length = n ∧ n ≠ 0 ∧ l.all immT = true ∧ K (.sl 1 true l)
  | some (.array n e), .ref o sz i c => lo = none ∧ hi = none ∧ okT P e = true ∧ i = 0 ∧ c = 0 ∧ (match look o with
    | some (.box _ (.agg l) _) => l.length = n ∧ K (.rsl o 1 0 n)
    | _ => False)
  | some .string, .imm (.string s) => endsW lo hi s.size fun l r => K (.imm (.string (s.extract l r)))
  | some (.slice e), .sl sz full xs => okT P e = true ∧ szOf P e = sz ∧ endsW lo hi xs.length fun l r => K (.sl sz (full && hi.isNone && !(sz == 0)) ((xs.take r).drop l))
  | some (.slice e), .rsl o sz off len => okT P e = true ∧ szOf P e = sz ∧ endsW lo hi len fun l r => K (.rsl o sz (off + l) (r - l))
  | _, _ => False
theorem slice_sound {t : TypeId} {x : T} {lo hi : Option T} {look : Nat → Option Own} {K : T → Prop} {u : Value} {a b : Option Value} (h : sliceW P t x lo hi look K) (hu : Rep E false x u) (ha : RepO E lo a) (hb : RepO E hi b) (hl : ∀ i x, look i = some x → E.objs[i]? = some (some x)) (hO : Objs E) :
    ∃ r q, K r ∧ (Instr.sliceAt t u a b none).run P w = .ok q w ∧ Rep E false r q := by
  unfold sliceW at h
  split at h
  · rename_i n e l ht
    obtain ⟨rfl, rfl, ho, hn, hn0, hall, hK⟩ := h
    cases ha; cases hb
    obtain ⟨inf, z, hi', hz, hs', _⟩ := okT_out ho
    simp only [Rep] at hu
    obtain ⟨b, o, u, rfl, ⟨cs, rfl, hcs⟩, h3⟩ := hu
    have hlen := hcs.length
    refine ⟨_, .slice (some ⟨b, o, none⟩) n n, hK, ?_, ?_⟩
    · unfold Instr.sliceAt
      rw [run_bind (run_underlying ht)]
      dsimp only
      rw [run_bind (show (Instr.sureAddr _).run P w = .ok _ w from rfl)]
      rw [run_bind (show (Instr.sliceBounds false n n none none none).run P w = .ok (0, n, n) w from rfl)]
      dsimp only
      rw [run_bind (run_sizeOf hi')]
      simp only [Nat.zero_mul, add_at, Nat.add_zero, Nat.sub_zero, ite_self]; rfl
    · simp only [Rep]
      exact ⟨_, _, cs.toList, by rw [hn], by omega, fun _ => ⟨by omega, fun e => by rw [e] at hn; simp at hn; omega⟩, RepR_of_L hall hcs, h3⟩
  · rename_i n e o sz i c ht
    obtain ⟨rfl, rfl, ho, rfl, rfl, h⟩ := h
    cases ha; cases hb
    obtain ⟨inf, z, hi', hz, hs', _⟩ := okT_out ho
    split at h
    · rename_i bt l lk hlk
      obtain ⟨hn, hK⟩ := h
      obtain ⟨b, fr, u, g1, g2, g3, g4, g5, _⟩ := hO.at_ o _ (hl _ _ hlk)
      simp only [Rep] at hu
      obtain ⟨a1, a2, b', g1', rfl⟩ := hu
      rw [g1] at g1'; cases g1'
      refine ⟨_, .slice (some ⟨b, 0, none⟩) n n, hK, ?_, ?_⟩
      · unfold Instr.sliceAt
        rw [run_bind (run_underlying ht)]
        dsimp only
        rw [run_bind (show (Instr.sureAddr _).run P w = .ok _ w from rfl)]
        rw [run_bind (show (Instr.sliceBounds false n n none none none).run P w = .ok (0, n, n) w from rfl)]
        dsimp only
        rw [run_bind (run_sizeOf hi')]
        simp only [Nat.zero_mul, add_at, Nat.add_zero, Nat.sub_zero, ite_self]; rfl
      · simp only [Rep]
        have hg5 : l.length = u.cells.size := g5
        exact ⟨trivial, a2, .inr ⟨b, 0, n, _, _, _, g1, rfl, Nat.le_refl _, .inr (by simp), g2, by omega⟩⟩
    · exact h.elim
  · rename_i s ht
    simp only [Rep, flat, and_true] at hu
    subst hu
    obtain ⟨l, r, hK, h1, h2, h3, h4⟩ := ends_sound (P := P) (w := w) (E := E) (isS := false) h (Nat.le_refl _) ha hb
    refine ⟨_, _, hK, ?_, by simp only [Rep, flat, and_true]; rfl⟩
    unfold Instr.sliceAt
    rw [run_bind (run_underlying ht)]
    dsimp only
    unfold Instr.slice
    rw [run_bind (run_underlying ht)]
    dsimp only
    simp only [Option.isSome_none, Bool.false_eq_true, if_false]
    rw [run_bind h4]; rfl
  · rename_i e sz full xs ht
    obtain ⟨ho, hs, h⟩ := h
    obtain ⟨inf, z, hi', hz, hs', _⟩ := okT_out ho
    simp only [Rep] at hu
    obtain ⟨A, cap, c, rfl, g1, g2, g3, g4⟩ := hu
    obtain ⟨l, r, hK, h1, h2, h3, h4⟩ := ends_sound (P := P) (w := w) (E := E) (isS := true) h g1 ha hb
    refine ⟨_, .slice (if cap = l then A else A.map (·.add (l * inf.size))) (r - l) (cap - l), hK, ?_, ?_⟩
    · unfold Instr.sliceAt
      rw [run_bind (run_underlying ht)]
      dsimp only
      unfold Instr.slice
      rw [run_bind (run_underlying ht)]
      dsimp only
      rw [run_bind h4]
      dsimp only
      rw [run_bind (run_sizeOf hi')]; rfl
    · simp only [Rep]
      refine ⟨_, _, (c.take (r * sz)).drop (l * sz), by congr 1; simp; omega, by simp; omega, fun hf => ?_, (g3.take r).drop l, fun j v hj => ?_⟩
      · simp only [Bool.and_eq_true, Option.isNone_iff_eq_none, Bool.not_eq_true', beq_eq_false_iff_ne] at hf
        have := (g2 hf.1.1).1
        have := h3 hf.1.2
        refine ⟨by simp; omega, fun _ => ?_⟩
        have hA : okA E A := by
          by_cases hx : xs = []
          · exact (g2 hf.1.1).2 hx
          · have hcl := g3.length
            have hpos : 0 < xs.length := List.length_pos_iff.2 hx
            have hcp : 0 < c.length := by rw [hcl]; exact Nat.mul_pos hpos (Nat.pos_of_ne_zero hf.2)
            obtain ⟨b', o', e1, e2⟩ := g4 0 _ (List.getElem?_eq_getElem hcp)
            intro x hx
            rw [e1] at hx; cases hx
            have e3 := e2.1
            simp only [World.cell?] at e3
            split at e3
            · exact ⟨_, _, _, by assumption⟩
            · cases e3
            all_goals first | cases e3 | exact ⟨_, _, _, by assumption⟩
        split
        · exact hA
        · intro x hx
          cases A with
          | none => cases hx
          | some A =>
            cases hx
            have : (A.add (l * inf.size)).block = A.block := by unfold Addr.add; split <;> rfl
            rw [this]; exact hA _ rfl
      · have hj1 : c[l * sz + j]? = some v := by
          rw [List.getElem?_drop, List.getElem?_take] at hj
          split at hj
          · exact hj
          · cases hj
        obtain ⟨b', o', e1, e2⟩ := g4 _ v hj1
        have hcl := g3.length
        have hjl : l * sz + j < c.length := (List.getElem?_eq_some_iff.1 hj1).1
        have hne : ¬ cap = l := by
          intro hcl2
          have : l = xs.length := by omega
          rw [hcl, this] at hjl
          omega
        refine ⟨b', o' + l * inf.size, ?_, ?_⟩
        · rw [if_neg hne, e1]; simp [add_at]
        · rw [← hs', hs, Nat.add_assoc]; exact e2
  · rename_i e o sz off len ht
    obtain ⟨ho, hs, h⟩ := h
    obtain ⟨inf, z, hi', hz, hs', _⟩ := okT_out ho
    simp only [Rep] at hu
    obtain ⟨a1, a2, ⟨g1, g3, g4, A, rfl⟩ | ⟨b', p, cap, c, t', fr, g1, rfl, g3, g4, g5, g6⟩⟩ := hu
    · subst g3 g4
      obtain ⟨l, r, hK, h1, h2, h3, h4⟩ := ends_sound (P := P) (w := w) (E := E) (isS := true) (cap := 0) h (Nat.le_refl _) ha hb
      have hl : l = 0 := by omega
      have hr : r = 0 := by omega
      subst hl hr
      refine ⟨_, .slice A.1 0 0, hK, ?_, ?_⟩
      · unfold Instr.sliceAt
        rw [run_bind (run_underlying ht)]
        dsimp only
        unfold Instr.slice
        rw [run_bind (run_underlying ht)]
        dsimp only
        rw [run_bind h4]
        dsimp only
        rw [run_bind (run_sizeOf hi')]; rfl
      · simp only [Rep]
        exact ⟨a1, a2, .inl ⟨g1, by simp, by simp, A, rfl⟩⟩
    · obtain ⟨l, r, hK, h1, h2, h3, h4⟩ := ends_sound (P := P) (w := w) (E := E) (isS := true) h g3 ha hb
      refine ⟨_, .slice (if cap = l then some ⟨b', p, none⟩ else some ⟨b', p + l * inf.size, none⟩) (r - l) (cap - l), hK, ?_, ?_⟩
      · unfold Instr.sliceAt
        rw [run_bind (run_underlying ht)]
        dsimp only
        unfold Instr.slice
        rw [run_bind (run_underlying ht)]
        dsimp only
        rw [run_bind h4]
        dsimp only
        rw [run_bind (run_sizeOf hi')]
        simp only [Option.map_some, add_at]; rfl
      · simp only [Rep]
        by_cases hcl : cap = l
        · rw [if_pos hcl]
          exact ⟨a1, a2, .inr ⟨b', p, cap - l, c, t', fr, g1, rfl, by omega, .inl (by omega), g5, by
            rw [hcl, Nat.sub_self, Nat.add_zero]
            refine Nat.le_trans (Nat.mul_le_mul_right _ ?_) g6; omega⟩⟩
        · rw [if_neg hcl]
          refine ⟨a1, a2, .inr ⟨b', _, cap - l, c, t', fr, g1, rfl, by omega, .inr ?_, g5, ?_⟩⟩
          · have hp : p = off * sz := by rcases g4 with g4 | g4 <;> omega
            rw [hp, ← hs', hs, Nat.add_mul]
          · refine Nat.le_trans (Nat.mul_le_mul_right _ ?_) g6; omega
  · exact h.elim
end
end Go.Proofs.YtdaojihnaajfeaaX

/- Conversions, lengths, functions and interfaces as values; what makes memory. Of no program. -/
set_option linter.unusedVariables false
set_option linter.unusedSimpArgs false
namespace Go.Proofs.YtdaojihnaajfeaaX
open Go Go.RowKit
def byteT (n : Int) : T := .imm (.int .u8 n)
def bytesT (s : ByteArray) : List T := s.data.toList.map fun b => .imm (.int .u8 b.toNat)
def toByte : T → UInt8
  | .imm (.int .u8 n) => UInt8.ofNat n.toNat
  | _ => 0
def isByte : T → Bool
  | .imm (.int .u8 _) => true
  | _ => false
def strT (l : List T) : ByteArray := ⟨(l.map toByte).toArray⟩
def elemsW (x : T) (look : Nat → Option Own) (K : Nat → List T → Prop) : Prop :=
  match x with
  | .sl sz _ l => K sz l
  | .rsl o sz off len => (match look o with
    | some (.buf _ sz' l _) => sz = sz' ∧ off + len ≤ l.length ∧ K sz ((l.drop off).take len)
    | _ => False)
  | _ => False
section
variable {P : Program} {w : World} {E : Env}
theorem elems_sound {x : T} {look : Nat → Option Own} {K : Nat → List T → Prop} {u : Value} (h : elemsW x look K) (hu : Rep E false x u) (hl : ∀ i x, look i = some x → E.objs[i]? = some (some x)) (hO : Objs E) :
    ∃ sz l a cap c, K sz l ∧ u = .slice a l.length cap ∧ l.length ≤ cap ∧ RepR E sz l c ∧ ∀ j v, c[j]? = some v → ∃ b o, a = some ⟨b, o, none⟩ ∧ E.w.cell? ⟨b, o + j, none⟩ = some v := by
  unfold elemsW at h
  split at h
  · rename_i sz full l
    simp only [Rep] at hu
    obtain ⟨a, cap, c, rfl, h1, h2, h3, h4⟩ := hu
    exact ⟨sz, l, a, cap, c, h, rfl, h1, h3, fun j v hj => by obtain ⟨b, o, e1, e2⟩ := h4 j v hj; exact ⟨b, o, e1, e2.1⟩⟩
  · rename_i o sz off len
    split at h
    · rename_i bt sz' l lk hlk
      obtain ⟨rfl, hle, hK⟩ := h
      obtain ⟨_, h1⟩ := hO.at_ o _ (hl _ _ hlk)
      simp only [Rep] at hu
      obtain ⟨_, _, ⟨g1, rfl, rfl, A, rfl⟩ | ⟨b, p, cap, c, t, fr, g1, rfl, g2, g3, g4, g5⟩⟩ := hu
      · refine ⟨sz, _, A, 0, [], hK, by simp, by simp, by simp [RepR], fun j v hj => by simp at hj⟩
      · rcases h1 with ⟨k1, k2⟩ | ⟨b', cs, fr', c1, c2, k1, k2, k3, k4, k5⟩
        · rw [g1] at k1; cases k1
        rw [g1] at k1; cases k1
        have hlen : ((l.drop off).take len).length = len := by rw [List.length_take, List.length_drop]; omega
        refine ⟨sz, _, some ⟨b, p, none⟩, cap, (c1.drop (off * sz)).take (len * sz), hK, by rw [hlen], by rw [hlen]; exact g2, (k5.drop off).take len, fun j v hj => ?_⟩
        rw [List.getElem?_take] at hj
        split at hj
        · rename_i hjl
          rw [List.getElem?_drop] at hj
          have hpos : 0 < len := Nat.pos_of_ne_zero fun e => by subst e; simp at hjl
          have hp : p = off * sz := by rcases g3 with g3 | g3 <;> omega
          subst hp
          refine ⟨b, _, rfl, ?_⟩
          have e : cs[off * sz + j]? = some v := by
            rw [← Array.getElem?_toList, k4, List.getElem?_append_left (List.getElem?_eq_some_iff.1 hj).1]; exact hj
          simp [World.cell?, k2, e]
        · cases hj
    · exact h.elim
  · exact h.elim
theorem bytes_rep : ∀ {l : List T} {c : List Value}, RepR E 1 l c → (∀ x ∈ l, isByte x = true) → ∃ ns : List Int, c = ns.map (fun n => Value.int .u8 n) ∧ l = ns.map byteT
  | [], c, h, _ => by simp only [RepR] at h; subst h; exact ⟨[], rfl, rfl⟩
  | x :: l, c, h, hb => by
    simp only [RepR] at h
    obtain ⟨u, c', rfl, h2, h3, h4⟩ := h
    obtain ⟨ns, e1, e2⟩ := bytes_rep h4 fun y hy => hb y (List.mem_cons_of_mem _ hy)
    have hx := hb x (by simp)
    cases x with
    | imm v =>
      cases v with
      | int k n =>
        cases k <;> first | (simp [isByte] at hx; done) | skip
        simp only [Rep] at h3
        obtain ⟨rfl, _⟩ := h3
        exact ⟨n :: ns, by simp [Value.cells, e1], by simp [e2, byteT]⟩
      | _ => simp [isByte] at hx
    | _ => simp [isByte] at hx
theorem run_bytes {a : Option Addr} {cap : Nat} {ns : List Int} (h : ∀ j v, (ns.map (fun n => Value.int .u8 n))[j]? = some v → ∃ b o, a = some ⟨b, o, none⟩ ∧ w.cell? ⟨b, o + j, none⟩ = some v) :
    (Conv.bytesToString (.slice a ns.length cap)).run P w = .ok (.string (strT (ns.map byteT))) w := by
  have hs : ∀ (l : List Int) (r : ByteArray), l.foldl (fun r n => r.push (UInt8.ofNat n.toNat)) r = ⟨r.data ++ ((l.map byteT).map toByte).toArray⟩ := by
    intro l
    induction l with
    | nil => intro r; simp
    | cons n l ih => intro r; rw [List.foldl_cons, ih]; simp [ByteArray.push, byteT, toByte]
  cases a with
  | none =>
    have : ns = [] := by
      cases ns with
      | nil => rfl
      | cons n ns => obtain ⟨b, o, e, _⟩ := h 0 _ rfl; cases e
    subst this
    rfl
  | some ad =>
    have hl : (loadCells ad ns.length).run P w = .ok (ns.map (Value.int .u8)).toArray w := by
      cases ns with
      | nil => rfl
      | cons n ns =>
        obtain ⟨b, o, e, _⟩ := h 0 _ rfl
        cases e
        exact run_loadCells (by simp) fun j v hj => by
          obtain ⟨b', o', e1, e2⟩ := h j v hj
          cases e1
          exact e2
    rw [run_bytesToString w ad ns.length cap ns hl, hs]
    simp [strT]
end
end Go.Proofs.YtdaojihnaajfeaaX

/- Rows of the call's own that change. Of no program. -/
set_option linter.unusedVariables false
set_option linter.unusedSimpArgs false
namespace Go.Proofs.YtdaojihnaajfeaaX
open Go Go.RowKit
theorem Sat.move {B : Base} {S : St} {a : Act} {w w' : World} {μ : Nat → Option Nat} (hS : Sat B S a w μ) (ks : List Nat) {o : Nat} {x y : Own} (ho : S.objs[o]? = some (some x)) (hx : x ≠ .dead) (hy : y ≠ .dead) (μo : Option Nat)
    (hos : w'.os = w.os) (htape : w'.tape = w.tape) (hout : w'.output = w.output) (hsize : w.heap.size ≤ w'.heap.size)
    (hblk : ∀ k, k < w.heap.size → some k ≠ μ o → w'.heap[k]? = w.heap[k]?)
    (hlk : ∀ b lk, μ o = some b → x.lock = some lk → ∀ j, j < lk → w'.cell? ⟨b, j, none⟩ = w.cell? ⟨b, j, none⟩)
    (hrow : ∀ (b : Nat) (c : Array Value) (t : TypeId) (fr : Nat × Nat), μ o = some b → w.heap[b]? = some (Go.Obj.cells c t fr) → ∃ c' fr', w'.heap[b]? = some (Go.Obj.cells c' t fr') ∧ c'.size = c.size)
    (hks : μo = μ o ∨ ks.contains o = true)
    (hnew : (μo = μ o ∧ ∃ l l', x.lock = some l ∧ y.lock = some l' ∧ l ≤ l') ∨ ∀ b, μo = some b → w.heap.size ≤ b ∧ b < w'.heap.size)
    (hat : ∀ E : Env, E.w = w' → E.ban = B.ban → Step ks ⟨w, μ, S.objs, B.ban⟩ E → E.μ o = μo → OwnAt E o y) :
    Sat B (S.upd ks o y) a w' (fun i => if i = o then μo else μ i) := by
  have hlen : o < S.objs.length := (List.getElem?_eq_some_iff.1 ho).1
  have hget : ∀ (i : Nat) (z : Own), (S.upd ks o y).objs[i]? = some (some z) → (i = o ∧ z = y) ∨ (i ≠ o ∧ ∃ z', S.objs[i]? = some (some z') ∧ z = z'.kill ks) := by
    intro i z h
    have h : ((S.objs.map (Option.map (Own.kill ks))).set o (some y))[i]? = some (some z) := h
    rw [List.getElem?_set] at h
    by_cases e : o = i
    · subst e
      rw [if_pos rfl] at h
      split at h
      · injection h with h; injection h with h; exact .inl ⟨rfl, h.symm⟩
      · cases h
    · rw [if_neg e, List.getElem?_map] at h
      refine .inr ⟨fun e' => e e'.symm, ?_⟩
      cases hz : S.objs[i]? with
      | none => rw [hz] at h; cases h
      | some q =>
        rw [hz] at h
        cases q with
        | none => cases h
        | some z' => injection h with h; injection h with h; exact ⟨z', rfl, h.symm⟩
  have hhas : ∀ i : Nat, (⟨w, μ, S.objs, B.ban⟩ : Env).has i → (⟨w', fun i => if i = o then μo else μ i, (S.upd ks o y).objs, B.ban⟩ : Env).has i := by
    rintro i ⟨z, hz⟩
    have hz : S.objs[i]? = some (some z) := hz
    show ∃ x, ((S.objs.map (Option.map (Own.kill ks))).set o (some y))[i]? = some (some x)
    rw [List.getElem?_set]
    by_cases e : o = i
    · subst e; rw [if_pos rfl, if_pos (by simpa using hlen)]; exact ⟨y, rfl⟩
    · rw [if_neg e, List.getElem?_map, hz]; exact ⟨z.kill ks, rfl⟩
  have hbo : ∀ b, μ o = some b → b < w.heap.size := fun b hb => Own.lt hS ho hx hb
  have hs : Step ks ⟨w, μ, S.objs, B.ban⟩ ⟨w', fun i => if i = o then μo else μ i, (S.upd ks o y).objs, B.ban⟩ := by
    refine ⟨⟨fun b j v hv => ?_, fun b c t fr hb => ?_⟩, fun o h _ => hhas o h, fun i hi hk => ?_⟩
    · obtain ⟨h1, h2, h3⟩ := hv
      obtain ⟨lx, hlx⟩ : ∃ l, x.lock = some l := by cases x <;> first | exact ⟨_, rfl⟩ | exact absurd rfl hx
      refine ⟨?_, ?_, h3⟩
      · by_cases e : μ o = some b
        · exact (hlk b lx e hlx j (h2 lx ⟨o, x, ho, e, hlx⟩)).trans h1
        · exact (cell_of_block (hblk b (cell_lt h1) (fun e' => e e'.symm))).trans h1
      · rintro lk ⟨i, z, k1, k2, k3⟩
        rcases hget i z k1 with ⟨rfl, rfl⟩ | ⟨k4, z', k5, rfl⟩
        · replace k2 : (if i = i then μo else μ i) = some b := k2
          rw [if_pos rfl] at k2
          rcases hnew with ⟨e, l, l', e1, e2, e3⟩ | hn
          · rw [e2] at k3; cases k3
            have := h2 l ⟨i, x, ho, e.symm.trans k2, e1⟩
            omega
          · have := (hn b k2).1
            have : b < w.heap.size := cell_lt h1
            omega
        · replace k2 : (if i = o then μo else μ i) = some b := k2
          rw [if_neg k4] at k2
          rw [Own.kill_lock] at k3
          exact h2 lk ⟨i, z', k5, k2, k3⟩
    · by_cases e : μ o = some b
      · exact hrow b c t fr e hb
      · exact ⟨c, fr, (hblk b (Array.getElem?_eq_some_iff.1 hb).1 (fun e' => e e'.symm)).trans hb, rfl⟩
    · show (if i = o then μo else μ i) = μ i
      by_cases e : i = o
      · subst e
        rw [if_pos rfl]
        rcases hks with h | h
        · exact h
        · rw [h] at hk; cases hk
      · rw [if_neg e]
  have hother : ∀ (i : Nat) (z' : Own) (b : Nat), i ≠ o → S.objs[i]? = some (some z') → z' ≠ .dead → μ i = some b → w'.heap[b]? = w.heap[b]? := fun i z' b h1 h2 h3 h4 =>
    hblk b (Own.lt hS h2 h3 h4) fun e => h1 (hS.objs.inj i o z' x b h2 ho h3 hx h4 e.symm)
  refine hS.go hs ⟨fun i z h => ?_, fun i i' z z' b h h' hz hz' hb hb' => ?_⟩ (fun i z b h hz hb => ?_) ?_
  · rcases hget i z h with ⟨rfl, rfl⟩ | ⟨k4, z', k5, rfl⟩
    · exact hat _ rfl rfl hs (if_pos rfl)
    · have hz := hS.objs.at_ i z' k5
      cases z' with
      | box t x lk =>
        obtain ⟨b, fr, u, h1, h2, h3, h4, h5⟩ := hz
        exact ⟨b, fr, u, (if_neg k4).trans h1, (hother i _ b k4 k5 (by simp) h1).trans h2, h3, Rep.kill hs _ _ _ h4, by rw [cells_kill]; exact h5⟩
      | buf t sz l lk =>
        obtain ⟨h0, h1⟩ := hz
        exact ⟨h0, h1.imp (fun h => ⟨(if_neg k4).trans h.1, h.2⟩) fun ⟨b, c, fr, c1, c2, h1, h2, h3, h4, h5⟩ => ⟨b, c, fr, c1, c2, (if_neg k4).trans h1, (hother i _ b k4 k5 (by simp) h1).trans h2, h3, h4, RepR.stepC hs.toStepC _ _ _ h5⟩⟩
      | dead => trivial
  · replace hb : (if i = o then μo else μ i) = some b := hb
    replace hb' : (if i' = o then μo else μ i') = some b := hb'
    rcases hget i z h with ⟨rfl, rfl⟩ | ⟨k4, q, k5, rfl⟩ <;> rcases hget i' z' h' with ⟨rfl, rfl⟩ | ⟨k6, q', k7, rfl⟩
    · rfl
    · rw [if_pos rfl] at hb
      rw [if_neg k6] at hb'
      have hq' : q' ≠ .dead := fun e => hz' (by subst e; rfl)
      rcases hnew with ⟨e, _⟩ | hn
      · exact hS.objs.inj _ _ x q' b ho k7 hx hq' (e.symm.trans hb) hb'
      · have := (hn b hb).1
        have := Own.lt hS k7 hq' hb'
        omega
    · rw [if_pos rfl] at hb'
      rw [if_neg k4] at hb
      have hq : q ≠ .dead := fun e => hz (by subst e; rfl)
      rcases hnew with ⟨e, _⟩ | hn
      · exact hS.objs.inj _ _ q x b k5 ho hq hx hb (e.symm.trans hb')
      · have := (hn b hb').1
        have := Own.lt hS k5 hq hb
        omega
    · rw [if_neg k4] at hb
      rw [if_neg k6] at hb'
      exact hS.objs.inj _ _ q q' b k5 k7 (fun e => hz (by subst e; rfl)) (fun e => hz' (by subst e; rfl)) hb hb'
  · replace hb : (if i = o then μo else μ i) = some b := hb
    rcases hget i z h with ⟨rfl, rfl⟩ | ⟨k4, q, k5, rfl⟩
    · rw [if_pos rfl] at hb
      rcases hnew with ⟨e, l, l', e1, e2, e3⟩ | hn
      · rcases hS.fresh i x b ho hx (e.symm.trans hb) with h | ⟨lk, lk', h1, h2, h3⟩
        · exact .inl h
        · rw [e1] at h2; cases h2
          exact .inr ⟨lk, l', h1, e2, by omega⟩
      · exact .inl (Nat.le_trans hS.kept.size (hn b hb).1)
    · rw [if_neg k4] at hb
      rw [Own.kill_lock]
      exact hS.fresh i q b k5 (fun e => hz (by subst e; rfl)) hb
  · have hk := hS.kept
    refine ⟨hos.trans hk.os, htape.trans hk.tape, hout.trans hk.output, Nat.le_trans hk.size hsize, fun k h1 h2 => ?_, fun k lk h1 j hj => ?_, fun k lk h1 c t fr hb => ?_⟩
    · refine (hblk k (Nat.lt_of_lt_of_le h1 hk.size) fun e => ?_).trans (hk.block k h1 h2)
      rcases hS.fresh o x k ho hx e.symm with h | ⟨lk, _, h, _⟩
      · omega
      · exact h2 lk h
    · have hks := Nat.lt_of_lt_of_le (B.lt k lk h1) hk.size
      by_cases e : μ o = some k
      · rcases hS.fresh o x k ho hx e with h | ⟨lk1, lk', h2, h3, h4⟩
        · have := B.lt k lk h1; omega
        · have hu := B.one k lk lk1 h1 h2
          subst hu
          exact (hlk k lk' e h3 j (by omega)).trans (hk.lock k lk h1 j hj)
      · exact (cell_of_block (hblk k hks (fun e' => e e'.symm))).trans (hk.lock k lk h1 j hj)
    · obtain ⟨c', fr', h2, h3⟩ := hk.rows k lk h1 c t fr hb
      by_cases e : μ o = some k
      · obtain ⟨c2, fr2, h4, h5⟩ := hrow k c' t fr' e h2
        exact ⟨c2, fr2, h4, h5.trans h3⟩
      · exact ⟨c', fr', (hblk k (Nat.lt_of_lt_of_le (B.lt k lk h1) hk.size) (fun e' => e e'.symm)).trans h2, h3⟩
end Go.Proofs.YtdaojihnaajfeaaX

/- What makes memory. Of no program. -/
set_option linter.unusedVariables false
set_option linter.unusedSimpArgs false
namespace Go.Proofs.YtdaojihnaajfeaaX
open Go Go.RowKit
mutual
def closedT : T → Bool
  | .imm _ => true
  | .agg l => closedL l
  | .sl _ _ _ => true
  | .pp _ => true
  | .ref .. => false
  | .rsl .. => false
  | .fn _ caps => closedL caps
  | .ifc _ x => closedT x
  | .tup l => closedL l
  | .junk => true
def closedL : List T → Bool
  | [] => true
  | x :: l => closedT x && closedL l
end
mutual
theorem Rep.close {E : Env} : ∀ (x : T) (cl : Bool) (v : Value), closedT x = true → Rep E cl x v → Rep E true x v
  | .imm u, cl, v, h, k => by simpa only [Rep] using k
  | .agg l, cl, v, h, k => by
    simp only [Rep] at k ⊢
    obtain ⟨cs, h1, h2⟩ := k
    exact ⟨cs, h1, RepL.close l cl _ h h2⟩
  | .sl sz full l, cl, v, h, k => by simpa only [Rep] using k
  | .pp x, cl, v, h, k => by simpa only [Rep] using k
  | .ref o sz i c, cl, v, h, k => by simp [closedT] at h
  | .rsl o sz off len, cl, v, h, k => by simp [closedT] at h
  | .fn f caps, cl, v, h, k => by
    simp only [Rep] at k ⊢
    obtain ⟨cs, h1, h2⟩ := k
    exact ⟨cs, h1, RepL.close caps cl _ h h2⟩
  | .ifc t x, cl, v, h, k => by
    simp only [Rep] at k ⊢
    obtain ⟨u, h1, h2⟩ := k
    exact ⟨u, h1, Rep.close x cl u h h2⟩
  | .tup l, cl, v, h, k => by
    simp only [Rep] at k ⊢
    obtain ⟨cs, h1, h2⟩ := k
    exact ⟨cs, h1, RepL.close l cl _ h h2⟩
  | .junk, cl, v, h, k => by simp only [Rep]
theorem RepL.close {E : Env} : ∀ (l : List T) (cl : Bool) (vs : List Value), closedL l = true → RepL E cl l vs → RepL E true l vs
  | [], cl, vs, h, k => by simpa only [RepL] using k
  | x :: l, cl, vs, h, k => by
    simp only [RepL] at k ⊢
    obtain ⟨v, vs', h1, h2, h3⟩ := k
    simp only [closedL, Bool.and_eq_true] at h
    exact ⟨v, vs', h1, Rep.close x cl v h.1 h2, RepL.close l cl vs' h.2 h3⟩
end
theorem ofVals_eq : ∀ l : List Value, ofVals l = l.map ofVal
  | [] => rfl
  | v :: l => by rw [ofVals, ofVals_eq l]; rfl
theorem ofVal_len (v : Value) : (ofVal v).cells.length = v.cells.size := by
  unfold ofVal
  split <;> simp [T.cells, Value.cells, ofVals_eq]
def patchT (c : List T) (o : Nat) (vs : List T) : List T := c.take o ++ vs ++ c.drop (o + vs.length)
theorem RepL.patch {E : Env} {cl : Bool} {l : List T} {c : List Value} (h : RepL E cl l c) {l' : List T} {c' : List Value} (h' : RepL E cl l' c') (o : Nat) : RepL E cl (patchT l o l') (patch c o c') := by
  unfold patchT Go.Proofs.YtdaojihnaajfeaaX.patch
  rw [h'.length]
  exact ((h.take o).append h').append (h.drop _)
theorem patch_length {c vs : List Value} {o : Nat} (h : o + vs.length ≤ c.length) : (patch c o vs).length = c.length := by
  unfold patch; simp; omega
theorem RepR.set {E : Env} {sz : Nat} {l : List T} {c : List Value} (h : RepR E sz l c) {i : Nat} (hi : i < l.length) {x : T} {u : Value} (hx : Rep E true x u) (hu : u.cells.size = sz) (hlf : leafU u) : RepR E sz (l.set i x) (patch c (i * sz) u.cells.toList) := by
  have h1 := h.take i
  have h2 := h.drop (i + 1)
  have e : l.set i x = l.take i ++ (x :: l.drop (i + 1)) := List.set_eq_take_append_cons_drop.trans (by rw [if_pos hi])
  rw [e]
  unfold Go.Proofs.YtdaojihnaajfeaaX.patch
  rw [List.append_assoc]
  refine h1.append ?_
  simp only [RepR]
  refine ⟨u, _, rfl, ⟨hu, hlf⟩, hx, ?_⟩
  rw [Array.length_toList, hu, ← Nat.succ_mul]; exact h2
theorem foldl_patch (off : Nat) : ∀ (vs : List Value) (j : Nat) (cs : Array Value), off + j + vs.length ≤ cs.size → (vs.zipIdx j).foldl (fun (cs : Array Value) (p : Value × Nat) => cs.setIfInBounds (off + p.2) p.1) cs = (patch cs.toList (off + j) vs).toArray
  | [], j, cs, h => by simp [patch]
  | v :: vs, j, cs, h => by
    rw [List.zipIdx_cons, List.foldl_cons, foldl_patch off vs (j + 1) _ (by simp at h ⊢; omega)]
    congr 1
    have hlt : off + j < cs.size := by simp at h; omega
    unfold patch
    rw [Array.toList_setIfInBounds, List.take_set, List.drop_set, if_pos (by omega)]
    have e2 : (cs.toList.take (off + (j + 1))).set (off + j) v = cs.toList.take (off + j) ++ [v] := by
      rw [show off + (j + 1) = off + j + 1 by omega, List.take_succ_eq_append_getElem (by simpa using hlt)]
      rw [List.set_append_right _ _ (by simp; omega)]
      simp [show min (off + j) cs.size = off + j by omega]
    rw [e2]
    simp [List.append_assoc, show off + (j + 1) + vs.length = off + j + (vs.length + 1) by omega]
def fillT (place : Nat → Option (Nat × Nat)) (cells : List T) : List (Nat × T) → Option (List T)
  | [] => some cells
  | (i, v) :: rest => match place i with
    | none => none
    | some (off, size) => if v.cells.length = size ∧ off + size ≤ cells.length ∧ isJunk v = false then fillT place (patchT cells off v.cells) rest else none
theorem fill_sound {E : Env} {cl : Bool} {place : Nat → Option (Nat × Nat)} : ∀ (parts : List (Nat × T)) (vs : List (Nat × Value)) (cells l : List T) (cs : Array Value), fillT place cells parts = some l → RepL E cl cells cs.toList → parts.map (·.1) = vs.map (·.1) → RepL E cl (parts.map (·.2)) (vs.map (·.2)) →
    ∃ r, Instr.fill place cs vs = some r ∧ RepL E cl l r.toList
  | [], vs, cells, l, cs, h, hc, hi, hp => by
    cases vs with
    | nil => simp only [fillT, Option.some.injEq] at h; subst h; exact ⟨cs, rfl, hc⟩
    | cons v vs => simp at hi
  | (i, x) :: parts, vs, cells, l, cs, h, hc, hi, hp => by
    cases vs with
    | nil => simp at hi
    | cons v vs =>
      obtain ⟨i', v⟩ := v
      simp only [List.map_cons, List.cons.injEq] at hi
      obtain ⟨rfl, hi⟩ := hi
      simp only [List.map_cons, RepL] at hp
      obtain ⟨v', vs', e, hv, hvs⟩ := hp
      simp only [List.cons.injEq] at e
      obtain ⟨rfl, rfl⟩ := e
      simp only [fillT] at h
      cases hpl : place i with
      | none => rw [hpl] at h; cases h
      | some os =>
        obtain ⟨off, size⟩ := os
        rw [hpl] at h
        simp only at h
        split at h
        · rename_i hcond
          obtain ⟨h1, h2, h3⟩ := hcond
          have hlen := cells_len h3 hv
          have hcl := hc.length
          rw [Array.length_toList] at hcl
          have hL : RepL E cl x.cells v.cells.toList := isAgg_cells hv hlen
          have hf := foldl_patch off v.cells.toList 0 cs (by rw [Array.length_toList]; omega)
          obtain ⟨r, g1, g2⟩ := fill_sound parts vs _ l (patch cs.toList off v.cells.toList).toArray h (by simpa using hc.patch hL off) hi hvs
          refine ⟨r, ?_, g2⟩
          simp only [Instr.fill, hpl]
          rw [if_neg (by simp; omega)]
          rw [← g1]
          congr 1
          have e3 : v.cells.zipIdx.foldl (fun cs x => cs.setIfInBounds (off + x.2) x.1) cs = (v.cells.toList.zipIdx 0).foldl (fun cs p => cs.setIfInBounds (off + p.2) p.1) cs := by
            rw [← Array.foldl_toList]; simp
          exact e3.trans hf
        · cases h
end Go.Proofs.YtdaojihnaajfeaaX

/- Boxes, literals, makes, bytes of strings, stores. Of no program. -/
set_option linter.unusedVariables false
set_option linter.unusedSimpArgs false
namespace Go.Proofs.YtdaojihnaajfeaaX
open Go Go.RowKit
def oneT : T → Bool
  | .junk | .agg _ | .tup _ => false
  | _ => true
theorem rep_leaf {E : Env} {cl : Bool} {x : T} {u : Value} (hj : oneT x = true) (h : Rep E cl x u) : leaf u = true := by
  cases x with
  | agg l => cases hj
  | junk => cases hj
  | tup l => cases hj
  | _ =>
    simp only [Rep] at h
    first
      | (obtain ⟨rfl, hf⟩ := h; cases u <;> first | rfl | (simp [flat] at hf; done))
      | (obtain ⟨a, cap, c, rfl, _⟩ := h; rfl)
      | (obtain ⟨b, o, u', rfl, _⟩ := h; rfl)
      | (obtain ⟨_, _, b, _, rfl⟩ := h; rfl)
      | (obtain ⟨_, _, h | ⟨b, p, cap, c, t, fr, _, rfl, _⟩⟩ := h
         · obtain ⟨_, _, _, a, rfl⟩ := h; rfl
         · rfl)
      | (obtain ⟨cs, rfl, _⟩ := h; rfl)
      | (obtain ⟨u', rfl, _⟩ := h; rfl)
theorem leafs {E : Env} {cl : Bool} : ∀ {l : List T} {vs : List Value}, RepL E cl l vs → l.all oneT = true → ∀ v ∈ vs, leaf v = true
  | [], vs, h, _, v, hv => by simp only [RepL] at h; subst h; simp at hv
  | x :: l, vs, h, hl, v, hv => by
    simp only [RepL] at h
    obtain ⟨v', vs', rfl, h2, h3⟩ := h
    simp only [List.all_cons, Bool.and_eq_true] at hl
    rcases List.mem_cons.1 hv with rfl | hv
    · exact rep_leaf hl.1 h2
    · exact leafs h3 hl.2 v hv
section
variable {P : Program} {B : Base} {S : St} {a : Act} {w : World} {μ : Nat → Option Nat} {k : Nat}
theorem unf0 (n : Nat) : Unf (0, 0) n := .inl rfl
def Post (B : Base) (S : St) (a : Act) (k : Nat) (eff : Eff) (v : T) (u : Value) (w' : World) : Prop := ∃ μ', Sat B (S.eff k eff) a w' μ' ∧ Rep ⟨w', μ', (S.eff k eff).objs, B.ban⟩ false v u
theorem has_set {objs : List (Option Own)} {x : Own} (hk : objs[k]? = some none) {w : World} {μ : Nat → Option Nat} {ban : Ban} : (⟨w, μ, objs.set k (some x), ban⟩ : Env).has k := by
  refine ⟨x, ?_⟩
  have hlt : k < objs.length := (List.getElem?_eq_some_iff.1 hk).1
  show (objs.set k (some x))[k]? = _
  rw [List.getElem?_set, if_pos rfl, if_pos hlt]
theorem box_post {t : TypeId} (ht : t < tagM) (hS : Sat B S a w μ) (hk : S.objs[k]? = some none) {x : T} {u : Value} (hj : x.cells.length = u.cells.size) (hx : Rep ⟨w, μ, S.objs, B.ban⟩ false x u) (_ : TypeId) :
    Post B S a k (.new (.box t x false)) (.ref k 0 0 0) (.pointer (some ⟨w.heap.size, 0, none⟩)) (w.alloc (.cells u.cells t)) := by
  refine ⟨_, hS.new hk u.cells t (0, 0) (.box t x false) (by simp) fun E hs hμ hh => ?_, ?_⟩
  · exact ⟨w.heap.size, (0, 0), u, hμ, by rw [Nat.mod_eq_of_lt ht]; exact hh, unf0 _, Rep.step hs hx, hj, fun h => absurd ht (Nat.not_lt.2 h)⟩
  · simp only [Rep]
    exact ⟨trivial, has_set hk, w.heap.size, by simp, by simp⟩
theorem run_box (t : TypeId) (u : Value) : (Instr.box t u).run P w = .ok (.pointer (some ⟨w.heap.size, 0, none⟩)) (w.alloc (.cells u.cells t)) := rfl
theorem run_alloc {t : TypeId} {i : TypeInfo} {z : Value} (hi : P.info? t = some i) (hz : i.zero = some z) : (Instr.alloc t true (.tuple #[])).run P w = .ok (.pointer (some ⟨w.heap.size, 0, none⟩)) (w.alloc (.cells z.cells t)) := by
  unfold Instr.alloc; rw [run_bind (run_zeroValue hi hz)]; rfl
def buildW (P : Program) (t : TypeId) (parts : List (Nat × T)) (K : T → Prop) : Prop :=
  okT P t = true ∧ match P.underlying t with
  | some (.struct fs) => (fs.toList.all fun f => okT P f.type) = true ∧ (match fillT (fun i => (fs[i]?).map fun f => (f.offset, szOf P f.type)) (zeroOf P t).cells parts with
    | some l => K (.agg l)
    | none => False)
  | some (.array _ e) => okT P e = true ∧ (match fillT (fun i => some (i * szOf P e, szOf P e)) (zeroOf P t).cells parts with
    | some l => K (.agg l)
    | none => False)
  | _ => False
theorem run_places {fs : Array Field} (h : (fs.toList.all fun f => okT P f.type) = true) : (fs.mapM fun f => do pure (f.offset, ← Go.sizeOf f.type) : Sem (Array (Nat × Nat))).run P w = .ok (fs.map fun f => (f.offset, szOf P f.type)) w := by
  have key : ∀ (l : List Field), (∀ f ∈ l, okT P f.type = true) → (l.mapM fun f => do pure (f.offset, ← Go.sizeOf f.type) : Sem (List (Nat × Nat))).run P w = .ok (l.map fun f => (f.offset, szOf P f.type)) w := by
    intro l
    induction l with
    | nil => intro _; rfl
    | cons f l ih =>
      intro h
      obtain ⟨i, z, hi, hz, hs, _⟩ := okT_out (h f (by simp))
      rw [List.mapM_cons]
      have h1 : (do pure (f.offset, ← Go.sizeOf f.type) : Sem (Nat × Nat)).run P w = .ok (f.offset, szOf P f.type) w := by
        rw [run_bind (run_sizeOf hi), hs]; rfl
      rw [run_bind h1, run_bind (ih fun g hg => h g (by simp [hg]))]
      rfl
  rw [Array.mapM_eq_mapM_toList, Sem.run_map, key fs.toList (List.all_eq_true.1 h)]
  show Result.ok _ w = Result.ok _ w
  congr 1
  apply Array.ext'
  simp
theorem build_sound {E : Env} {t : TypeId} {parts : List (Nat × T)} {vs : Array (Nat × Value)} {K : T → Prop} (h : buildW P t parts K) (hi : parts.map (·.1) = vs.toList.map (·.1)) (hp : RepL E false (parts.map (·.2)) (vs.toList.map (·.2))) :
    ∃ r q, K r ∧ (Instr.build t vs).run P w = .ok q w ∧ Rep E false r q := by
  obtain ⟨ho, h⟩ := h
  obtain ⟨inf, z, hinf, hz, hs, hzo⟩ := okT_out ho
  have hzr : RepL E false (zeroOf P t).cells z.cells.toList := by rw [hzo]; exact isAgg_cells (ofVal_rep z) (ofVal_len z)
  split at h
  · rename_i fs ht
    obtain ⟨hf, h⟩ := h
    split at h
    · rename_i l hl
      obtain ⟨r, g1, g2⟩ := fill_sound parts vs.toList _ l z.cells hl hzr hi hp
      refine ⟨_, .agg r, h, ?_, by simp only [Rep]; exact ⟨r, rfl, g2⟩⟩
      unfold Instr.build
      rw [run_bind (run_zeroValue hinf hz), run_bind (run_underlying ht)]
      dsimp only
      rw [run_bind (run_places hf)]
      have e : (fun (i : Nat) => (fs.map fun (f : Field) => (f.offset, szOf P f.type))[i]?) = fun i => (fs[i]?).map fun (f : Field) => (f.offset, szOf P f.type) := by funext i; simp
      simp only [e, g1]
      rfl
    · exact h.elim
  · rename_i n e ht
    obtain ⟨hf, h⟩ := h
    obtain ⟨inf', z', hinf', hz', hs', _⟩ := okT_out hf
    split at h
    · rename_i l hl
      obtain ⟨r, g1, g2⟩ := fill_sound parts vs.toList _ l z.cells hl hzr hi hp
      refine ⟨_, .agg r, h, ?_, by simp only [Rep]; exact ⟨r, rfl, g2⟩⟩
      unfold Instr.build
      rw [run_bind (run_zeroValue hinf hz), run_bind (run_underlying ht)]
      dsimp only
      rw [run_bind (run_sizeOf hinf')]
      rw [hs'] at g1
      simp only [g1]
      rfl
    · exact h.elim
  · exact h.elim
def fillE (sz : Nat) (l : List T) : List (Nat × T) → Option (List T)
  | [] => some l
  | (i, v) :: rest => if i < l.length ∧ v.cells.length = sz ∧ isJunk v = false ∧ closedT v = true ∧ v.cells.all oneT = true then fillE sz (l.set i v) rest else none
def buildSliceW (P : Program) (t : TypeId) (n : Nat) (parts : List (Nat × T)) (K : T → Prop) : Prop :=
  match P.underlying t with
  | some (.slice e) => okT P e = true ∧ szOf P e ≠ 0 ∧ (zeroOf P e).cells.length = szOf P e ∧ closedT (zeroOf P e) = true ∧ (zeroOf P e).cells.all oneT = true ∧ n * szOf P e ≤ 16777216 ∧ (match fillE (szOf P e) (List.replicate n (zeroOf P e)) parts with
    | some l => K (.sl (szOf P e) true l)
    | none => False)
  | _ => False
theorem RepR.replicate {E : Env} {x : T} {u : Value} (hx : Rep E true x u) (hlf : leafU u) : ∀ n, RepR E u.cells.size (List.replicate n x) (List.replicate n u.cells.toList).flatten
  | 0 => by simp [RepR]
  | n + 1 => by
    rw [List.replicate_succ, List.replicate_succ, List.flatten_cons]
    simp only [RepR]
    exact ⟨u, _, rfl, ⟨rfl, hlf⟩, hx, RepR.replicate hx hlf n⟩
theorem made_cells (z : Array Value) (hz : z.size ≠ 0) (n : Nat) : ((Array.range (n * z.size)).map (z[· % z.size]!)).toList = (List.replicate n z.toList).flatten := by
  have key : ∀ n, (List.range (n * z.size)).map (fun i => z[i % z.size]!) = (List.replicate n z.toList).flatten := by
    intro n
    induction n with
    | zero => simp
    | succ n ih =>
      rw [Nat.succ_mul, List.range_add, List.map_append, ih, List.replicate_succ', List.flatten_append]
      congr 1
      simp only [List.flatten_cons, List.flatten_nil, List.append_nil, List.map_map]
      apply List.ext_getElem?
      intro i
      simp only [List.getElem?_map, Array.getElem?_toList]
      by_cases hi : i < z.size
      · rw [List.getElem?_range hi, Array.getElem?_eq_getElem hi]
        simp [Nat.mul_add_mod', Nat.mod_eq_of_lt hi, hi]
      · rw [List.getElem?_eq_none (by simp; omega), Array.getElem?_eq_none (by omega)]; rfl
  simpa using key n
theorem fillE_sound {E : Env} {sz : Nat} : ∀ (parts : List (Nat × T)) (vs : List (Nat × Value)) (l0 l : List T) (cs : Array Value), fillE sz l0 parts = some l → RepR E sz l0 cs.toList → parts.map (·.1) = vs.map (·.1) → RepL E false (parts.map (·.2)) (vs.map (·.2)) →
    ∃ r, Instr.fill (fun i => some (i * sz, sz)) cs vs = some r ∧ RepR E sz l r.toList ∧ l.length = l0.length
  | [], vs, l0, l, cs, h, hc, hi, hp => by
    cases vs with
    | nil => simp only [fillE, Option.some.injEq] at h; subst h; exact ⟨cs, rfl, hc, rfl⟩
    | cons v vs => simp at hi
  | (i, x) :: parts, vs, l0, l, cs, h, hc, hi, hp => by
    cases vs with
    | nil => simp at hi
    | cons v vs =>
      obtain ⟨i', v⟩ := v
      simp only [List.map_cons, List.cons.injEq] at hi
      obtain ⟨rfl, hi⟩ := hi
      simp only [List.map_cons, RepL] at hp
      obtain ⟨v', vs', e, hv, hvs⟩ := hp
      simp only [List.cons.injEq] at e
      obtain ⟨rfl, rfl⟩ := e
      simp only [fillE] at h
      split at h
      · rename_i hcond
        obtain ⟨h1, h2, h3, h4, h5⟩ := hcond
        have hlen := cells_len h3 hv
        have hlf : leafU v := leafs (isAgg_cells hv hlen) h5
        have hcl := hc.length
        rw [Array.length_toList] at hcl
        have hb : i * sz + sz ≤ cs.size := by
          rw [hcl, ← Nat.succ_mul]; exact Nat.mul_le_mul_right _ h1
        have hf := foldl_patch (i * sz) v.cells.toList 0 cs (by rw [Array.length_toList]; omega)
        obtain ⟨r, g1, g2, g3⟩ := fillE_sound parts vs _ l (patch cs.toList (i * sz) v.cells.toList).toArray h (by simpa using hc.set h1 (Rep.close _ _ _ h4 hv) (hlen.symm.trans h2) hlf) hi hvs
        refine ⟨r, ?_, g2, by simpa using g3⟩
        simp only [Instr.fill]
        rw [if_neg (by simp; omega)]
        rw [← g1]
        congr 1
        have e3 : v.cells.zipIdx.foldl (fun cs x => cs.setIfInBounds (i * sz + x.2) x.1) cs = (v.cells.toList.zipIdx 0).foldl (fun cs p => cs.setIfInBounds (i * sz + p.2) p.1) cs := by
          rw [← Array.foldl_toList]; simp
        exact e3.trans hf
      · cases h
theorem pc_new (hS : Sat B S a w μ) (c : Array Value) (t : TypeId) (fr : Nat × Nat) {j : Nat} {v : Value} (h : c[j]? = some v) : (⟨w.alloc (.cells c t fr), μ, S.objs, B.ban⟩ : Env).pc w.heap.size j v := by
  refine ⟨?_, ?_, fun hb => ?_⟩
  · show (w.alloc (.cells c t fr)).cell? ⟨w.heap.size, j, none⟩ = some v
    have hh : (w.alloc (.cells c t fr)).heap[w.heap.size]? = some (.cells c t fr) := heap_alloc_new w _
    show (match (w.alloc (.cells c t fr)).heap[w.heap.size]? with | some (.cells c _ _) => if (none : Option Nat).isSome then none else c[j]? | _ => none) = some v
    rw [hh]; exact h
  · rintro lk ⟨o, x, h1, h2, h3⟩
    have := Own.lt hS h1 (fun e => by subst e; cases h3) h2
    omega
  · have := B.banlt _ _ hb
    have := hS.kept.size
    omega
theorem buildSlice_sound (hS : Sat B S a w μ) {t : TypeId} {n : Nat} {parts : List (Nat × T)} {vs : Array (Nat × Value)} {K : T → Prop} (h : buildSliceW P t n parts K) (hi : parts.map (·.1) = vs.toList.map (·.1)) (hp : RepL ⟨w, μ, S.objs, B.ban⟩ false (parts.map (·.2)) (vs.toList.map (·.2))) :
    ∃ r q w', K r ∧ (Instr.buildSlice t n vs).run P w = .ok q w' ∧ Post B S a k .none r q w' := by
  unfold buildSliceW at h
  split at h
  · rename_i e ht
    obtain ⟨ho, hz0, hzl, hzc, hzo1, hn, h⟩ := h
    obtain ⟨inf, z, hinf, hz, hs, hzo⟩ := okT_out ho
    split at h
    · rename_i l hl
      have hzs : z.cells.size = szOf P e := by rw [← hzl, hzo, ofVal_len]
      have hr0 : RepR ⟨w, μ, S.objs, B.ban⟩ (szOf P e) (List.replicate n (zeroOf P e)) ((Array.range (n * z.cells.size)).map (z.cells[· % z.cells.size]!)).toList := by
        rw [made_cells _ (by rw [hzs]; exact hz0), ← hzs]
        have hzr : Rep (⟨w, μ, S.objs, B.ban⟩ : Env) true (zeroOf P e) z := Rep.close _ false _ hzc (by rw [hzo]; exact ofVal_rep z)
        exact RepR.replicate hzr (leafs (isAgg_cells hzr (by rw [hzl, hzs])) hzo1) n
      obtain ⟨r, g1, g2, g3⟩ := fillE_sound parts vs.toList _ l _ hl hr0 hi hp
      have hbel : Below w.heap.size w (w.alloc (.cells r e)) := (Below.refl _ _).alloc (Nat.le_refl _) _
      refine ⟨_, .slice (some ⟨w.heap.size, 0, none⟩) n n, w.alloc (.cells r e), h, ?_, μ, hS.below hbel, ?_⟩
      · unfold Instr.buildSlice
        rw [run_bind (run_underlying ht)]
        dsimp only
        rw [run_bind (run_sizeOf hinf), ← hs]
        rw [if_neg (by omega)]
        by_cases h0 : n * szOf P e = 0
        · rw [if_pos h0, run_bind (show (pure #[] : Sem (Array Value)).run P w = .ok #[] w from rfl)]
          have e1 : (Array.range (n * szOf P e)).map ((#[] : Array Value)[· % (#[] : Array Value).size]!) = (Array.range (n * z.cells.size)).map (z.cells[· % z.cells.size]!) := by
            rw [hzs, h0]; simp
          rw [e1, g1]
          rfl
        · rw [if_neg h0, run_bind (run_zeroValue hinf hz), run_bind (show (pure z.cells : Sem (Array Value)).run P w = .ok z.cells w from rfl)]
          rw [show n * szOf P e = n * z.cells.size by rw [hzs], g1]
          rfl
      · have hll : l.length = n := by rw [g3]; simp
        simp only [Rep]
        refine ⟨_, n, r.toList, by rw [hll], by omega, fun _ => ⟨hll.symm, fun _ x hx => by cases hx; exact ⟨_, _, _, heap_alloc_new w _⟩⟩, RepR.stepC (Step.of_below hbel).toStepC _ _ _ g2, fun j v hj => ⟨w.heap.size, 0, rfl, ?_⟩⟩
        rw [Nat.zero_add]
        exact pc_new hS r e (0, 0) (by rwa [Array.getElem?_toList] at hj)
    · exact h.elim
  · exact h.elim
end
end Go.Proofs.YtdaojihnaajfeaaX

/- Makes, bytes of strings, stores, appends. Of no program. -/
set_option linter.unusedVariables false
set_option linter.unusedSimpArgs false
namespace Go.Proofs.YtdaojihnaajfeaaX
open Go Go.RowKit
section
variable {P : Program} {B : Base} {S : St} {a : Act} {w : World} {μ : Nat → Option Nat} {k : Nat}
theorem buf_postL (hS : Sat B S a w μ) (hk : S.objs[k]? = some none) {sz : Nat} {l : List T} {c : Array Value} {c1 c2 : List Value} (e : TypeId) (fr : Nat × Nat) (hf : Unf fr c.size) (hc : c.toList = c1 ++ c2) (hr : RepR ⟨w, μ, S.objs, B.ban⟩ sz l c1) (cap : Nat) (hl : l.length ≤ cap) (hcap : cap * sz ≤ c.size) (n : Nat) (lk : Nat) (hlk : lk ≤ l.length) :
    Post B S a k (.new (.buf e sz l lk)) (.rsl k sz 0 l.length) (.slice (some ⟨w.heap.size, 0, none⟩) l.length cap) ((w.drewN n).alloc (.cells c e fr)) := by
  have hS' : Sat B S a (w.drewN n) μ := hS.below ⟨rfl, rfl, rfl, Nat.le_refl _, fun _ _ => rfl⟩
  have hst : Step [] ⟨w, μ, S.objs, B.ban⟩ ⟨w.drewN n, μ, S.objs, B.ban⟩ := Step.of_below ⟨rfl, rfl, rfl, Nat.le_refl _, fun _ _ => rfl⟩
  refine ⟨_, hS'.new hk c e fr (.buf e sz l lk) (by simp) fun E hs hμ hh => ?_, ?_⟩
  · exact ⟨hlk, .inr ⟨w.heap.size, c, fr, c1, c2, hμ, hh, hf, hc, RepR.stepC hs.toStepC _ _ _ (RepR.stepC hst.toStepC _ _ _ hr)⟩⟩
  · simp only [Rep]
    refine ⟨trivial, has_set hk, .inr ⟨w.heap.size, 0, cap, c, e, fr, by simp, rfl, hl, .inr (by simp), ?_, by simpa using hcap⟩⟩
    exact heap_alloc_new (w.drewN n) _
theorem buf_post (hS : Sat B S a w μ) (hk : S.objs[k]? = some none) {sz : Nat} {l : List T} {c : Array Value} {c1 c2 : List Value} (e : TypeId) (fr : Nat × Nat) (hf : Unf fr c.size) (hc : c.toList = c1 ++ c2) (hr : RepR ⟨w, μ, S.objs, B.ban⟩ sz l c1) (cap : Nat) (hl : l.length ≤ cap) (hcap : cap * sz ≤ c.size) (n : Nat) :
    Post B S a k (.new (.buf e sz l 0)) (.rsl k sz 0 l.length) (.slice (some ⟨w.heap.size, 0, none⟩) l.length cap) ((w.drewN n).alloc (.cells c e fr)) :=
  buf_postL hS hk e fr hf hc hr cap hl hcap n 0 (Nat.zero_le _)
theorem drewN_zero' (w : World) : w.drewN 0 = w := rfl
def makeW (P : Program) (k : Nat) (t : TypeId) (x y : T) (K : T → Eff → Prop) : Prop :=
  match P.underlying t, x, y with
  | some (.slice e), .imm (.int _ l), .imm (.int _ c) => okT P e = true ∧ szOf P e ≠ 0 ∧ (zeroOf P e).cells.length = szOf P e ∧ closedT (zeroOf P e) = true ∧ (zeroOf P e).cells.all oneT = true ∧ 0 ≤ l ∧ l ≤ c ∧ c ≤ 1099511627776 ∧ (∀ i, P.info? e = some i → i.bytes ≤ 256) ∧
      K (.rsl k (szOf P e) 0 l.toNat) (.new (.buf e (szOf P e) (List.replicate l.toNat (zeroOf P e)) 0))
  | _, _, _ => False
theorem make_sound (hS : Sat B S a w μ) (hk : S.objs[k]? = some none) {t : TypeId} {x y : T} {u v : Value} {K : T → Eff → Prop} (h : makeW P k t x y K) (hx : Rep ⟨w, μ, S.objs, B.ban⟩ false x u) (hy : Rep ⟨w, μ, S.objs, B.ban⟩ false y v) :
    ∃ r eff q w', K r eff ∧ (Instr.makeSlice t u v).run P w = .ok q w' ∧ Post B S a k eff r q w' := by
  unfold makeW at h
  split at h
  · rename_i e kl l kc c ht
    obtain ⟨ho, hz0, hzl, hzc, hzo1, h0, h1, h2, h3, hK⟩ := h
    obtain ⟨inf, z, hinf, hz, hs, hzo⟩ := okT_out ho
    simp only [Rep, flat, and_true] at hx hy
    subst hx hy
    have hb := h3 inf hinf
    have hbc : (inf.bytes : Int) * c ≤ 281474976710656 := by
      have : (inf.bytes : Int) * c ≤ 256 * c := Int.mul_le_mul_of_nonneg_right (by omega) (by omega)
      omega
    have hrun := run_make (P := P) w t e inf z ht hinf hz kl kc l c h0 h1 hbc (by omega)
    have hzs : z.cells.size = szOf P e := by rw [← hzl, hzo, ofVal_len]
    have hr0 : RepR ⟨w, μ, S.objs, B.ban⟩ (szOf P e) (List.replicate c.toNat (zeroOf P e)) (madeCells z.cells (c.toNat * inf.size)).toList := by
      unfold madeCells
      rw [← hs, ← hzs, made_cells _ (by rw [hzs]; exact hz0)]
      have hzr : Rep (⟨w, μ, S.objs, B.ban⟩ : Env) true (zeroOf P e) z := Rep.close _ false _ hzc (by rw [hzo]; exact ofVal_rep z)
      exact RepR.replicate hzr (leafs (isAgg_cells hzr (by rw [hzl, hzs])) hzo1) c.toNat
    have hr1 := hr0.take l.toNat
    rw [List.take_replicate, Nat.min_eq_left (by omega)] at hr1
    have := buf_post hS hk (l := List.replicate l.toNat (zeroOf P e)) e (0, 0) (unf0 _) (List.take_append_drop (l.toNat * szOf P e) _).symm hr1 c.toNat (by simp; omega) (by rw [size_madeCells, hs]; exact Nat.le_refl _) 0
    rw [List.length_replicate] at this
    exact ⟨_, _, _, _, hK, hrun, this⟩
  · exact h.elim
def buildSliceX (P : Program) (k : Nat) (t : TypeId) (n : Nat) (parts : List (Nat × T)) (K : T → Eff → Prop) : Prop :=
  buildSliceW P t n parts (K · .none) ∨ ∃ e sz l lk, (lk = 0 ∨ lk = l.length) ∧ P.underlying t = some (.slice e) ∧ buildSliceW P t n parts (fun v => v = .sl sz true l) ∧ K (.rsl k sz 0 l.length) (.new (.buf e sz l lk))
theorem buildX_val {k : Nat} {t : TypeId} {n : Nat} {parts : List (Nat × T)} {K : T → Eff → Prop} (h : buildSliceW P t n parts (K · .none)) : buildSliceX P k t n parts K := .inl h
theorem buildSlice_own (hS : Sat B S a w μ) (hk : S.objs[k]? = some none) {lk : Nat} {t : TypeId} {n : Nat} {parts : List (Nat × T)} {vs : Array (Nat × Value)} {e sz : Nat} {l : List T} (hlk : lk = 0 ∨ lk = l.length) (hu : P.underlying t = some (.slice e)) (h : buildSliceW P t n parts (fun v => v = .sl sz true l)) (hi : parts.map (·.1) = vs.toList.map (·.1)) (hp : RepL ⟨w, μ, S.objs, B.ban⟩ false (parts.map (·.2)) (vs.toList.map (·.2))) :
    ∃ q w', (Instr.buildSlice t n vs).run P w = .ok q w' ∧ Post B S a k (.new (.buf e sz l lk)) (.rsl k sz 0 l.length) q w' := by
  unfold buildSliceW at h
  rw [hu] at h
  obtain ⟨ho, hz0, hzl, hzc, hzo1, hn, h⟩ := h
  obtain ⟨inf, z, hinf, hz, hs, hzo⟩ := okT_out ho
  split at h
  · rename_i l' hl
    injection h with h1 h2 h3
    subst h1 h3
    have hzs : z.cells.size = szOf P e := by rw [← hzl, hzo, ofVal_len]
    have hr0 : RepR ⟨w, μ, S.objs, B.ban⟩ (szOf P e) (List.replicate n (zeroOf P e)) ((Array.range (n * z.cells.size)).map (z.cells[· % z.cells.size]!)).toList := by
      rw [made_cells _ (by rw [hzs]; exact hz0), ← hzs]
      have hzr : Rep (⟨w, μ, S.objs, B.ban⟩ : Env) true (zeroOf P e) z := Rep.close _ false _ hzc (by rw [hzo]; exact ofVal_rep z)
      exact RepR.replicate hzr (leafs (isAgg_cells hzr (by rw [hzl, hzs])) hzo1) n
    obtain ⟨r, g1, g2, g3⟩ := fillE_sound parts vs.toList _ l' _ hl hr0 hi hp
    have hll : l'.length = n := by rw [g3]; simp
    have hpost := buf_postL hS hk (l := l') (c := r) e (0, 0) (unf0 _) (c1 := r.toList) (c2 := []) (by simp) g2 l'.length (Nat.le_refl _) (by rw [← Array.length_toList, RepR.length g2]; exact Nat.le_refl _) 0 lk (by omega)
    rw [drewN_zero'] at hpost
    refine ⟨_, _, ?_, hpost⟩
    unfold Instr.buildSlice
    rw [run_bind (run_underlying hu)]
    dsimp only
    rw [run_bind (run_sizeOf hinf), ← hs]
    rw [if_neg (by omega)]
    by_cases h0 : n * szOf P e = 0
    · rw [if_pos h0, run_bind (show (pure #[] : Sem (Array Value)).run P w = .ok #[] w from rfl)]
      have e1 : (Array.range (n * szOf P e)).map ((#[] : Array Value)[· % (#[] : Array Value).size]!) = (Array.range (n * z.cells.size)).map (z.cells[· % z.cells.size]!) := by
        rw [hzs, h0]; simp
      rw [e1, g1, hll]
      rfl
    · rw [if_neg h0, run_bind (run_zeroValue hinf hz), run_bind (show (pure z.cells : Sem (Array Value)).run P w = .ok z.cells w from rfl)]
      rw [show n * szOf P e = n * z.cells.size by rw [hzs], g1, hll]
      rfl
  · exact h.elim
def convertW (P : Program) (k : Nat) (src dst : TypeId) (x : T) (look : Nat → Option Own) (K : T → Eff → Prop) : Prop :=
  match P.underlying src, P.underlying dst, x with
  | some (.int _), some (.int k'), .imm (.int _ n) => K (.imm (.int k' (k'.wrap n))) .none
  | some .string, some .string, .imm (.string s) => K (.imm (.string s)) .none
  | some .string, some (.slice e), .imm (.string s) => P.underlying e = some (.int .u8) ∧ K (.rsl k 1 0 s.size) (.new (.buf e 1 (bytesT s) 0))
  | some (.slice e), some .string, x => P.underlying e = some (.int .u8) ∧ elemsW x look fun sz l => sz = 1 ∧ (∀ y ∈ l, isByte y = true) ∧ K (.imm (.string (strT l))) .none
  | some (.slice _), some (.slice e), .rsl o sz off n => src = dst ∧ P.underlying e = some (.int .u8) ∧ 0 < n ∧ (match look o with | some (.buf _ _ _ _) => K (.rsl o sz off n) .none | _ => False)
  | _, _, _ => False
theorem bytesT_rep {E : Env} (s : ByteArray) : RepR E 1 (bytesT s) (s.data.map fun b => Value.int .u8 b.toNat).toList := by
  unfold bytesT
  rw [Array.toList_map]
  induction s.data.toList with
  | nil => simp [RepR]
  | cons b l ih =>
    simp only [List.map_cons, RepR]
    exact ⟨.int .u8 b.toNat, _, rfl, ⟨rfl, fun v hv => by simp [Value.cells] at hv; subst hv; rfl⟩, by simp [Rep, flat], ih⟩
theorem bytesT_length (s : ByteArray) : (bytesT s).length = s.size := by simp [bytesT]
theorem convert_sound (hS : Sat B S a w μ) (hk : S.objs[k]? = some none) {src dst : TypeId} {x : T} {look : Nat → Option Own} {u : Value} {K : T → Eff → Prop} (h : convertW P k src dst x look K) (hx : Rep ⟨w, μ, S.objs, B.ban⟩ false x u) (hl : ∀ i x, look i = some x → S.objs[i]? = some (some x)) :
    ∃ r eff q w', K r eff ∧ (convert src dst u).run P w = .ok q w' ∧ Post B S a k eff r q w' := by
  unfold convertW at h
  split at h
  · rename_i k0 k' k1 n hs hd
    simp only [Rep, flat, and_true] at hx
    subst hx
    refine ⟨_, _, .int k' (k'.wrap n), w, h, ?_, μ, hS, ?_⟩
    · unfold convert; rw [run_bind (run_underlying hs), run_bind (run_underlying hd)]; rfl
    · simp only [Rep, flat, and_true]
  · rename_i s hs hd
    simp only [Rep, flat, and_true] at hx
    subst hx
    refine ⟨_, _, .string s, w, h, ?_, μ, hS, ?_⟩
    · unfold convert; rw [run_bind (run_underlying hs), run_bind (run_underlying hd)]; rfl
    · simp only [Rep, flat, and_true]
  · rename_i e s hs hd
    simp only [Rep, flat, and_true] at hx
    subst hx
    obtain ⟨he, h⟩ := h
    have hrun := run_bytes_of_string w src dst e s hs hd he
    have hge := grownCap_ge w s.size 0 e
    have hsz : (bytesRow s (grownCap w s.size 0 e)).size = grownCap w s.size 0 e := by
      simp only [bytesRow, Array.size_append, Array.size_map, Array.size_replicate]
      have : s.data.size = s.size := rfl
      omega
    have := buf_post hS hk (sz := 1) (l := bytesT s) (c := bytesRow s (grownCap w s.size 0 e)) e ((bytesRow s (grownCap w s.size 0 e)).size, (bytesRow s (grownCap w s.size 0 e)).size + 1) (.inr (Nat.le_refl _)) (c1 := (s.data.map fun b => Value.int .u8 b.toNat).toList) (by unfold bytesRow; exact Array.toList_append) (bytesT_rep s) (grownCap w s.size 0 e) (by rw [bytesT_length]; exact hge) (by rw [hsz]; omega) 1
    rw [bytesT_length] at this
    exact ⟨_, _, _, _, h, hrun, this⟩
  · rename_i e hs hd
    obtain ⟨he, h⟩ := h
    obtain ⟨sz, l, A, cap, c, hK, rfl, g1, g2, g3⟩ := elems_sound h hx hl hS.objs
    obtain ⟨rfl, hb, hK⟩ := hK
    obtain ⟨ns, rfl, rfl⟩ := bytes_rep g2 hb
    refine ⟨_, _, .string (strT (ns.map byteT)), w, hK, ?_, μ, hS, by simp only [Rep, flat, and_true]⟩
    have := run_bytes (P := P) (w := w) (cap := cap) (a := A) (ns := ns) g3
    rw [List.length_map]
    unfold convert
    rw [run_bind (run_underlying hs), run_bind (run_underlying hd)]
    cases A with
    | none => simp only; rw [run_bind (run_underlying he)]; exact this
    | some A => simp only; rw [run_bind (run_underlying he)]; exact this
  · rename_i e0 e o sz off n hs hd
    obtain ⟨rfl, he, hn, h⟩ := h
    split at h
    · rename_i bt sz' l lk hlk
      have hoo := hl _ _ hlk
      obtain ⟨g0, g1⟩ := hS.objs.at_ o _ hoo
      simp only [Rep] at hx
      obtain ⟨_, hhas, hx⟩ := hx
      rcases hx with ⟨_, h0, _, _⟩ | ⟨b, p, cap, c', t', fr', hb, rfl, hcap, hp, hblk', hle⟩
      · omega
      have hb : μ o = some b := hb
      rcases g1 with ⟨g1, _⟩ | ⟨b', cs, fr, c1, c2, g1, g2, g3, g4, g5⟩
      · have g1 : μ o = none := g1
        rw [hb] at g1; cases g1
      have g1 : μ o = some b' := g1
      rw [hb] at g1; cases g1
      have g2 : w.heap[b]? = some (Go.Obj.cells cs bt fr) := g2
      have hw' : (w.freeze ⟨b, cs.size, none⟩ 1).heap[b]? = some (Go.Obj.cells cs bt (if fr.1 == fr.2 then (cs.size, cs.size + 1) else (min fr.1 cs.size, max fr.2 (cs.size + 1)))) := by
        unfold World.freeze
        rw [if_neg (by decide)]
        simp only [Array.getElem?_modify, g2, if_true]
        rfl
      have hwk : ∀ k, k ≠ b → (w.freeze ⟨b, cs.size, none⟩ 1).heap[k]? = w.heap[k]? := by
        intro k hk
        unfold World.freeze
        rw [if_neg (by decide)]
        simp only [Array.getElem?_modify]
        rw [if_neg (fun e => hk e.symm)]
      have hws : (w.freeze ⟨b, cs.size, none⟩ 1).heap.size = w.heap.size := by
        unfold World.freeze
        rw [if_neg (by decide)]
        simp
      have hun : Unf (if fr.1 == fr.2 then (cs.size, cs.size + 1) else (min fr.1 cs.size, max fr.2 (cs.size + 1))) cs.size := by
        split
        · exact .inr (Nat.le_refl _)
        · rename_i hne
          have hne : ¬ fr.1 = fr.2 := fun e => hne (by rw [e]; simp)
          rcases g3 with g3 | g3
          · exact absurd g3 hne
          · right
            show cs.size ≤ min fr.1 cs.size
            omega
      have hcell : ∀ j, (w.freeze ⟨b, cs.size, none⟩ 1).cell? ⟨b, j, none⟩ = w.cell? ⟨b, j, none⟩ := by
        intro j
        simp only [World.cell?, hw', g2]
      have hos : (w.freeze ⟨b, cs.size, none⟩ 1).os = w.os := by unfold World.freeze; rw [if_neg (by decide)]
      have htp : (w.freeze ⟨b, cs.size, none⟩ 1).tape = w.tape := by unfold World.freeze; rw [if_neg (by decide)]
      have hot : (w.freeze ⟨b, cs.size, none⟩ 1).output = w.output := by unfold World.freeze; rw [if_neg (by decide)]
      have hsat := hS.move [] hoo (by simp) (y := .buf bt sz' l lk) (by simp) (some b) hos htp hot (Nat.le_of_eq hws.symm) (fun j hj hne => hwk j fun e => hne (by rw [e, hb]))
        (fun b1 lk1 h1 h2 j hj => by rw [hb] at h1; cases h1; exact hcell j)
        (fun b1 c1' t1 fr1 h1 h2 => by
          rw [hb] at h1; cases h1
          rw [g2] at h2; cases h2
          exact ⟨_, _, hw', rfl⟩)
        (.inl hb.symm) (.inl ⟨hb.symm, lk * sz', lk * sz', rfl, rfl, Nat.le_refl _⟩)
        (fun E e1 e2 hst hμ => ⟨g0, .inr ⟨b, cs, _, c1, c2, hμ, by rw [e1]; exact hw', hun, g4, RepR.stepC hst.toStepC _ _ _ g5⟩⟩)
      have hsame : S.upd [] o (.buf bt sz' l lk) = S := by
        unfold St.upd
        simp only [killL_nil]
        have e1 : (Option.map (Own.kill []) : Option Own → Option Own) = id := by
          funext x; cases x <;> simp [Own.kill_nil]
        rw [e1, List.map_id]
        have e2 : S.objs.set o (some (.buf bt sz' l lk)) = S.objs := by
          apply List.ext_getElem?
          intro i
          rw [List.getElem?_set]
          by_cases hi : o = i
          · subst hi
            rw [if_pos rfl, if_pos (List.getElem?_eq_some_iff.1 hoo).1]; exact hoo.symm
          · rw [if_neg hi]
        rw [e2]
      rw [hsame] at hsat
      have hsh : w.shape? b = some (bt, cs.size) := by unfold World.shape?; rw [g2]
      refine ⟨_, _, .slice (some ⟨b, p, none⟩) n cap, w.freeze ⟨b, cs.size, none⟩ 1, h, ?_, _, hsat, ?_⟩
      · obtain rfl : e0 = e := by
          have := hs.symm.trans hd
          simpa using this
        simp [convert, run_underlying hs, run_underlying he, markStringish, hsh]
      · obtain ⟨rfl, rfl, rfl⟩ : c' = cs ∧ t' = bt ∧ fr' = fr := by
          have := hblk'.symm.trans g2
          simp only [Option.some.injEq, Go.Obj.cells.injEq] at this
          exact this
        simp only [Rep]
        exact ⟨trivial, hhas, .inr ⟨b, p, cap, _, _, _, by simp, rfl, hcap, hp, hw', hle⟩⟩
    · exact h.elim
  · exact h.elim
end
end Go.Proofs.YtdaojihnaajfeaaX

/- Stores and appends. Of no program. -/
set_option linter.unusedVariables false
set_option linter.unusedSimpArgs false
namespace Go.Proofs.YtdaojihnaajfeaaX
open Go Go.RowKit
section
variable {P : Program} {B : Base} {S : St} {a : Act} {w : World} {μ : Nat → Option Nat} {k : Nat}
def setCells (x : T) (c : Nat) (vs : List T) : T :=
  match x, vs with
  | .agg l, vs => .agg (patchT l c vs)
  | _, [v] => v
  | _, _ => .junk
def storeW (P : Program) (t : TypeId) (a v : T) (look : Nat → Option Own) (K : T → Eff → Prop) : Prop :=
  okT P t = true ∧ v.cells.length = szOf P t ∧ isJunk v = false ∧ v.cells.all oneT = true ∧ match a with
  | .ref o sz i c => (match look o with
    | some (.box bt x lk) => i = 0 ∧ lk = false ∧ c + v.cells.length ≤ x.cells.length ∧ (match x with
      | .agg l => K .junk (.put o (.box bt (.agg (patchT l c v.cells)) false))
      | _ => leafT v = true ∧ K .junk (.put o (.box bt v false)))
    | some (.buf bt sz' l lk) => sz = sz' ∧ lk ≤ i ∧ i < l.length ∧ closedT v = true ∧ isJunk (l.getD i .junk) = false ∧ c + v.cells.length ≤ (l.getD i .junk).cells.length ∧ (match l.getD i .junk with
      | .agg l' => K .junk (.put o (.buf bt sz (l.set i (.agg (patchT l' c v.cells))) lk))
      | _ => leafT v = true ∧ K .junk (.put o (.buf bt sz (l.set i v) lk)))
    | _ => False)
  | _ => False
theorem unwrap_put (S : St) (k o : Nat) (y : Own) : S.upd [] o y = S.eff k (.put o y) := by
  unfold St.upd St.eff
  simp only [killL_nil]
  congr 2
  have : (Option.map (Own.kill []) : Option Own → Option Own) = id := by
    funext x; cases x <;> simp [Own.kill_nil]
  rw [this, List.map_id]
theorem patch_cells {c1 c2 vs : List Value} {o : Nat} (h : o + vs.length ≤ c1.length) : patch (c1 ++ c2) o vs = patch c1 o vs ++ c2 := by
  unfold patch
  rw [List.take_append_of_le_length (by omega), List.drop_append_of_le_length h]
  simp [List.append_assoc]
theorem patch_row {c vs e : List Value} {p q : Nat} (h1 : (c.drop p).take e.length = e) (h2 : q + vs.length ≤ e.length) (h3 : p + e.length ≤ c.length) : patch c (p + q) vs = patch c p (patch e q vs) := by
  have hc : c = c.take p ++ (e ++ c.drop (p + e.length)) := by
    have := List.take_append_drop p c
    have h4 := List.take_append_drop e.length (c.drop p)
    rw [h1, List.drop_drop] at h4
    rw [h4, this]
  have hp : (c.take p).length = p := by simp; omega
  unfold patch
  have a1 : c.take (p + q) = c.take p ++ e.take q := by
    conv => lhs; rw [hc]
    rw [List.take_append, hp, List.take_of_length_le (by omega), Nat.add_sub_cancel_left, List.take_append_of_le_length (by omega)]
  have a2 : c.drop (p + q + vs.length) = e.drop (q + vs.length) ++ c.drop (p + e.length) := by
    conv => lhs; rw [hc]
    rw [List.drop_append, hp, List.drop_of_length_le (by omega), List.nil_append, show p + q + vs.length - p = q + vs.length by omega, List.drop_append_of_le_length h2]
  rw [a1, a2]
  have hl : (e.take q ++ vs ++ e.drop (q + vs.length)).length = e.length := by simp; omega
  rw [hl]
  simp [List.append_assoc]
theorem patch_toArray_size {c : Array Value} {o : Nat} {vs : List Value} (h : o + vs.length ≤ c.size) : (patch c.toList o vs).toArray.size = c.size := by
  rw [List.size_toArray, patch_length (by simpa using h), Array.length_toList]
theorem drop_take_eq {c e : List Value} {p : Nat} (h : ∀ (j : Nat) (v : Value), e[j]? = some v → c[p + j]? = some v) (hp : p + e.length ≤ c.length) : (c.drop p).take e.length = e := by
  apply List.ext_getElem?
  intro j
  rw [List.getElem?_take]
  by_cases hj : j < e.length
  · rw [if_pos hj, List.getElem?_drop, h j _ (List.getElem?_eq_getElem hj), List.getElem?_eq_getElem hj]
  · rw [if_neg hj, List.getElem?_eq_none (by omega)]
theorem patch_mem {c vs : List Value} {o : Nat} {y : Value} (h : y ∈ patch c o vs) : y ∈ c ∨ y ∈ vs := by
  unfold patch at h
  simp only [List.mem_append] at h
  rcases h with (h | h) | h
  · exact .inl (List.mem_of_mem_take h)
  · exact .inr h
  · exact .inl (List.mem_of_mem_drop h)
theorem patch_before {c vs : List Value} {o j : Nat} (hj : j < o) (ho : o ≤ c.length) : (patch c o vs)[j]? = c[j]? := by
  unfold patch
  rw [List.append_assoc, List.getElem?_append_left (by rw [List.length_take]; omega), List.getElem?_take, if_pos hj]
theorem cell_before {w w' : World} {b o j : Nat} {c : Array Value} {t : TypeId} {fr fr' : Nat × Nat} {vs : List Value} (h : w.heap[b]? = some (Go.Obj.cells c t fr)) (h' : w'.heap[b]? = some (Go.Obj.cells (patch c.toList o vs).toArray t fr')) (hj : j < o) (ho : o ≤ c.size) :
    w'.cell? ⟨b, j, none⟩ = w.cell? ⟨b, j, none⟩ := by
  unfold World.cell?
  rw [h, h']
  show (patch c.toList o vs).toArray[j]? = c[j]?
  rw [List.getElem?_toArray, patch_before hj (by simpa using ho), Array.getElem?_toList]
theorem run_storeAt {t : TypeId} {b o : Nat} {u : Value} {inf : TypeInfo} (hi : P.info? t = some inf) (hn : u.cells.size = inf.size) {bt : TypeId} {fr : Nat × Nat} {c : Array Value} (hb : w.heap[b]? = some (Go.Obj.cells c bt fr)) (hle : o + u.cells.size ≤ c.size) (hf : Unf fr c.size) (hl : ∀ v ∈ u.cells.toList, leaf v = true) :
    ∃ w', (Instr.storeAt t (.pointer (some ⟨b, o, none⟩)) u).run P w = .ok () w' ∧ w'.heap[b]? = some (Go.Obj.cells (patch c.toList o u.cells.toList).toArray bt fr) ∧ (∀ k, k ≠ b → w'.heap[k]? = w.heap[k]?) ∧ w'.heap.size = w.heap.size ∧ w'.os = w.os ∧ w'.tape = w.tape ∧ w'.output = w.output := by
  obtain ⟨w', h1, h2⟩ := run_storeCells (P := P) (b := b) (o := o) u.cells.toList 0 w c hb (by rw [Array.length_toList]; omega) hf hl
  refine ⟨w', ?_, by simpa using h2⟩
  unfold Instr.storeAt
  rw [run_bind (show (Instr.sureAddr _).run P w = .ok _ w from rfl)]
  unfold storeVar
  rw [run_bind (run_sizeOf hi), if_neg (by simp [hn])]
  exact h1
theorem store_sound (hS : Sat B S a w μ) {t : TypeId} {x v : T} {p u : Value} {look : Nat → Option Own} {K : T → Eff → Prop} (h : storeW P t x v look K) (hx : Rep ⟨w, μ, S.objs, B.ban⟩ false x p) (hv : Rep ⟨w, μ, S.objs, B.ban⟩ false v u) (hl : ∀ i x, look i = some x → S.objs[i]? = some (some x)) :
    ∃ r eff w', K r eff ∧ (Instr.storeAt t p u).run P w = .ok () w' ∧ Post B S a k eff r undef w' := by
  obtain ⟨ho, hvs, hvj, hvo, h⟩ := h
  obtain ⟨inf, z, hinf, hz, hs, _⟩ := okT_out ho
  have hvlen := cells_len hvj hv
  have hvL : RepL ⟨w, μ, S.objs, B.ban⟩ false v.cells u.cells.toList := isAgg_cells hv hvlen
  have hleaf := leafs hvL hvo
  have hun : u.cells.size = inf.size := by rw [← hvlen, hvs, hs]
  split at h
  · rename_i o sz i c
    simp only [Rep] at hx
    obtain ⟨_, _, b, hb, rfl⟩ := hx
    split at h
    · rename_i bt y lk hlk
      have hoo := hl _ _ hlk
      obtain ⟨rfl, rfl, hle, h⟩ := h
      obtain ⟨b', fr, q, g1, g2, g3, g4, g5, g6⟩ := hS.objs.at_ o _ hoo
      have g1 : μ o = some b' := g1
      have hb : μ o = some b := hb
      rw [hb] at g1; cases g1
      have g2 : w.heap[b]? = some (Go.Obj.cells q.cells (bt % tagM) fr) := g2
      obtain ⟨w', k1, k2, k3, k4, k5, k6, k7⟩ := run_storeAt (P := P) (w := w) (t := t) (o := 0 * sz + c) hinf hun g2 (by rw [Nat.zero_mul, Nat.zero_add, ← hvlen, ← g5]; exact hle) g3 hleaf
      rw [Nat.zero_mul, Nat.zero_add] at k2
      have hsz : (patch q.cells.toList c u.cells.toList).toArray.size = q.cells.size := patch_toArray_size (by rw [Array.length_toList, ← hvlen, ← g5]; exact hle)
      have mv : ∀ y' : Own, y' ≠ .dead → y'.lock = some 0 → (∀ E : Env, E.w = w' → E.ban = B.ban → Step [] ⟨w, μ, S.objs, B.ban⟩ E → E.μ o = some b → OwnAt E o y') → Post B S a k (.put o y') .junk undef w' := by
        intro y' hy hlock hat
        have := hS.move [] hoo (by simp) hy (some b) k5 k6 k7 (Nat.le_of_eq k4.symm) (fun j hj hne => k3 j fun e => hne (by rw [e, hb]))
          (fun b1 lk h1 h2 j hj => by simp [Own.lock] at h2; omega)
          (fun b1 c1 t1 fr1 h1 h2 => by
            rw [hb] at h1; cases h1
            rw [g2] at h2; cases h2
            exact ⟨_, _, k2, hsz⟩)
          (.inl hb.symm) (.inl ⟨hb.symm, 0, 0, by simp [Own.lock], hlock, Nat.le_refl _⟩) hat
        refine ⟨_, by rw [← unwrap_put]; exact this, by simp only [Rep]⟩
      split at h
      · rename_i l
        refine ⟨_, _, w', h, k1, mv _ (by simp) (by simp [Own.lock]) fun E e1 e2 hst hμ => ?_⟩
        have hq := Rep.step hst g4
        simp only [Rep] at hq
        obtain ⟨cs, rfl, hcs⟩ := hq
        have hsz' : (patch cs.toList c u.cells.toList).toArray.size = cs.size := hsz
        refine ⟨b, fr, .agg (patch cs.toList c u.cells.toList).toArray, hμ, by rw [e1]; exact k2, by rw [Value.cells, hsz']; exact g3, ?_, ?_, by rw [e2]; exact g6⟩
        · simp only [Rep]
          exact ⟨_, rfl, by simpa using hcs.patch (RepL.step hst hvL) c⟩
        · rw [Value.cells, hsz']
          have hl0 : l.length = cs.size := g5
          have hle' : c + v.cells.length ≤ l.length := hle
          show (patchT l c v.cells).length = cs.size
          simp only [patchT, List.length_append, List.length_take, List.length_drop]
          omega
      · rename_i hna
        obtain ⟨hvl, h⟩ := h
        refine ⟨_, _, w', h, k1, mv _ (by simp) (by simp [Own.lock]) fun E e1 e2 hst hμ => ?_⟩
        have e3 := cells_one hvl hv
        have e4 : v.cells = [v] := by cases v <;> first | rfl | cases hvl
        have e5 : y.cells.length = 1 := by cases y <;> first | rfl | exact absurd rfl (hna _)
        have hc0 : c = 0 := by rw [e4, e5] at hle; simp at hle; omega
        subst hc0
        have e6 : (patch q.cells.toList 0 u.cells.toList).toArray = u.cells := by
          rw [e3]
          have : q.cells.toList.length = 1 := by rw [Array.length_toList, ← g5, e5]
          unfold patch
          rw [List.take_zero, List.nil_append, List.drop_of_length_le (by simp [this])]; simp
        rw [e6] at k2
        refine ⟨b, fr, u, hμ, by rw [e1]; exact k2, ?_, Rep.step hst hv, hvlen, by rw [e2]; exact g6⟩
        rw [e6] at hsz
        rw [hsz]; exact g3
    · rename_i bt sz' l lk hlk
      have hoo := hl _ _ hlk
      obtain ⟨rfl, hlki, hil, hvc, hej, hle, h⟩ := h
      obtain ⟨g0, g1⟩ := hS.objs.at_ o _ hoo
      have hb : μ o = some b := hb
      rcases g1 with ⟨g1, _⟩ | ⟨b', cs, fr, c1, c2, g1, g2, g3, g4, g5⟩
      · have g1 : μ o = none := g1
        rw [hb] at g1; cases g1
      have g1 : μ o = some b' := g1
      rw [hb] at g1; cases g1
      have g2 : w.heap[b]? = some (Go.Obj.cells cs bt fr) := g2
      obtain ⟨q, q1, q2, q3, q4⟩ := g5.get i hil
      have hql := cells_len hej q1
      have hc1 := g5.length
      have hrow : i * sz + sz ≤ c1.length := by rw [hc1, ← Nat.succ_mul]; exact Nat.mul_le_mul_right _ hil
      have hcl : c1.length + c2.length = cs.size := by rw [← List.length_append, ← g4, Array.length_toList]
      have hin : c + u.cells.size ≤ sz := by rw [← hvlen, ← q2, ← hql]; exact hle
      obtain ⟨w', k1, k2, k3, k4, k5, k6, k7⟩ := run_storeAt (P := P) (w := w) (t := t) (o := i * sz + c) hinf hun g2 (by omega) g3 hleaf
      have hsz : (patch cs.toList (i * sz + c) u.cells.toList).toArray.size = cs.size := patch_toArray_size (by rw [Array.length_toList]; omega)
      have hq : (c1.drop (i * sz)).take q.cells.toList.length = q.cells.toList := drop_take_eq (fun j v hj => q3 j v (by rwa [Array.getElem?_toList] at hj)) (by rw [Array.length_toList, q2]; exact hrow)
      have hp : patch cs.toList (i * sz + c) u.cells.toList = patch c1 (i * sz) (patch q.cells.toList c u.cells.toList) ++ c2 := by
        rw [g4, patch_cells (by rw [Array.length_toList]; omega), patch_row hq (by rw [Array.length_toList, Array.length_toList, q2]; exact hin) (by rw [Array.length_toList, q2]; exact hrow)]
      have mv : ∀ (y : T) (q' : Value), Rep ⟨w, μ, S.objs, B.ban⟩ true y q' → q'.cells.toList = patch q.cells.toList c u.cells.toList → Post B S a k (.put o (.buf bt sz (l.set i y) lk)) .junk undef w' := by
        intro y q' hy hq'
        have := hS.move [] hoo (by simp) (y := .buf bt sz (l.set i y) lk) (by simp) (some b) k5 k6 k7 (Nat.le_of_eq k4.symm) (fun j hj hne => k3 j fun e => hne (by rw [e, hb]))
          (fun b1 lk1 h1 h2 j hj => by
            rw [hb] at h1; cases h1
            simp only [Own.lock, Option.some.injEq] at h2
            subst h2
            have hj2 : j < i * sz := Nat.lt_of_lt_of_le hj (Nat.mul_le_mul_right _ hlki)
            exact cell_before g2 k2 (by omega) (by omega))
          (fun b1 c1' t1 fr1 h1 h2 => by
            rw [hb] at h1; cases h1
            rw [g2] at h2; cases h2
            exact ⟨_, _, k2, hsz⟩)
          (.inl hb.symm) (.inl ⟨hb.symm, lk * sz, lk * sz, by simp [Own.lock], by simp [Own.lock], Nat.le_refl _⟩) (fun E e1 e2 hst hμ => by
            have hqs : q'.cells.size = sz := by rw [← Array.length_toList, hq', patch_length (by rw [Array.length_toList, Array.length_toList, q2]; exact hin), Array.length_toList, q2]
            have hlfq : leafU q' := by
              intro y hy
              rw [hq'] at hy
              rcases patch_mem hy with h | h
              · exact q4 y h
              · exact hleaf y h
            refine ⟨by rw [List.length_set]; exact g0, .inr ⟨b, _, fr, patch c1 (i * sz) q'.cells.toList, c2, hμ, by rw [e1]; exact k2, by rw [hsz]; exact g3, by rw [hq', ← hp], ?_⟩⟩
            exact (RepR.stepC hst.toStepC _ _ _ g5).set hil (Rep.stepC hst.toStepC _ _ hy) hqs hlfq)
        refine ⟨_, by rw [← unwrap_put]; exact this, by simp only [Rep]⟩
      split at h
      · rename_i l' hl'
        rw [hl'] at q1
        simp only [Rep] at q1
        obtain ⟨cq, rfl, hcq⟩ := q1
        refine ⟨_, _, w', h, k1, mv _ (.agg (patch cq.toList c u.cells.toList).toArray) ?_ (by simp [Value.cells])⟩
        simp only [Rep]
        exact ⟨_, rfl, by
          have hvL' : RepL ⟨w, μ, S.objs, B.ban⟩ true v.cells u.cells.toList := by
            have hvc' := Rep.close _ _ _ hvc hv
            exact isAgg_cells hvc' hvlen
          simpa using hcq.patch hvL' c⟩
      · rename_i hna
        obtain ⟨hvl, h⟩ := h
        refine ⟨_, _, w', h, k1, mv _ u (Rep.close _ _ _ hvc hv) ?_⟩
        have e3 := cells_one hvl hv
        have e5 : (l.getD i .junk).cells.length = 1 := by
          cases hh : l.getD i .junk <;> first | rfl | exact absurd hh (hna _)
        have e4 : v.cells = [v] := by cases v <;> first | rfl | cases hvl
        have hc0 : c = 0 := by rw [e4, e5] at hle; simp at hle; omega
        subst hc0
        rw [e3]
        have : q.cells.toList.length = 1 := by rw [Array.length_toList, ← hql, e5]
        unfold patch
        rw [List.take_zero, List.nil_append, List.drop_of_length_le (by simp [this])]; simp
    · exact h.elim
  · exact h.elim
end
end Go.Proofs.YtdaojihnaajfeaaX

/- Appends. Of no program. -/
set_option linter.unusedVariables false
set_option linter.unusedSimpArgs false
namespace Go.Proofs.YtdaojihnaajfeaaX
open Go Go.RowKit
section
variable {P : Program} {B : Base} {S : St} {a : Act} {w : World} {μ : Nat → Option Nat} {k : Nat}
def notInt (d : Option TypeDesc) : Prop := ∃ d', d = some d' ∧ ∀ k, d' ≠ .int k
section runs
variable {sT xT ty e : TypeId} {inf : TypeInfo} {z : Value} {x : Value} {n : Nat} {news : Array Value}
theorem matches_int {d : TypeDesc} (h : ∀ k, d ≠ .int k) : (d matches .int _) = false := by
  cases d <;> first | rfl | exact absurd rfl (h _)
theorem run_append_room' (ht : P.underlying sT = some (.slice e)) (hi : P.info? e = some inf) (hx : notInt (P.underlying xT)) (hlen : ∀ w', (Builtin.lenOf x).run P w' = .ok n w') (hfirst : ∀ w' : World, w'.heap = w.heap → (Builtin.firstCells inf.size n x).run P w' = .ok news w')
    {A : Addr} {sLen sCap : Nat} (hroom : sLen + n ≤ sCap) {w' : World} (hst : (storeCells (A.add (sLen * inf.size)) news.toList).run P w = .ok () w') :
    (Builtin.append_ #[sT, xT] ty #[.slice (some A) sLen sCap, x]).run P w = .ok (.slice (some A) (sLen + n) sCap) w' := by
  obtain ⟨d, hd, hdi⟩ := hx
  have hm := matches_int hdi
  have hf := hfirst w rfl
  simp [Builtin.append_, run_underlying ht, run_underlying hd, Go.sizeOf, typeInfo, hi, hm, hlen, hroom, hf, hst]
theorem run_append_none' (ht : P.underlying sT = some (.slice e)) (hi : P.info? e = some inf) (hx : notInt (P.underlying xT)) (hlen : ∀ w', (Builtin.lenOf x).run P w' = .ok n w') (hfirst : ∀ w' : World, w'.heap = w.heap → (Builtin.firstCells inf.size n x).run P w' = .ok news w')
    {sLen sCap : Nat} (hroom : sLen + n ≤ sCap) :
    (Builtin.append_ #[sT, xT] ty #[.slice none sLen sCap, x]).run P w = .ok (.slice none (sLen + n) sCap) w := by
  obtain ⟨d, hd, hdi⟩ := hx
  have hm := matches_int hdi
  have hf := hfirst w rfl
  simp [Builtin.append_, run_underlying ht, run_underlying hd, Go.sizeOf, typeInfo, hi, hm, hlen, hroom, hf]
theorem run_append_grow' (ht : P.underlying sT = some (.slice e)) (hi : P.info? e = some inf) (hz : inf.zero = some z) (hx : notInt (P.underlying xT)) (hlen : ∀ w', (Builtin.lenOf x).run P w' = .ok n w') (hfirst : ∀ w' : World, w'.heap = w.heap → (Builtin.firstCells inf.size n x).run P w' = .ok news w')
    {base : Option Addr} {sLen sCap : Nat} {olds : Array Value} (hold : ∀ w' : World, w'.heap = w.heap → (Builtin.firstCells inf.size sLen (.slice base sLen sCap)).run P w' = .ok olds w') (hg : sCap < sLen + n) (h63 : sLen + n ≤ 9223372036854775807) (h47 : (sLen + n) * inf.bytes ≤ 140737488355328) :
    (Builtin.append_ #[sT, xT] ty #[.slice base sLen sCap, x]).run P w = .ok (.slice (some ⟨w.heap.size, 0, none⟩) (sLen + n) (grownCap w (sLen + n) sCap e))
      (w.drew.alloc (.cells (olds ++ news ++ Builtin.zeroCells z.cells (grownCap w (sLen + n) sCap e - (sLen + n))) e)) := by
  obtain ⟨d, hd, hdi⟩ := hx
  have hm := matches_int hdi
  have hf := hfirst w.drew rfl
  have hfo := hold w.drew rfl
  have hfit := growslice_fits (old := sCap) (by omega) h47
  have hn : ¬ (sLen + n ≤ sCap) := by omega
  have h63' : ¬ (9223372036854775807 < ((sLen : Int) + (n : Int))) := by omega
  have h48' : ¬ (281474976710656 < Builtin.nextslicecap (sLen + n) sCap * inf.bytes) := by omega
  simp [Builtin.append_, run_underlying ht, run_underlying hd, Go.sizeOf, typeInfo, zeroValue, hi, hz, hm, hlen, hn, h63', h48', Question.forced, hf, hfo, newRow, grownCap]
end runs
def newsW (P : Program) (xT : TypeId) (x : T) (look : Nat → Option Own) (K : Nat → List T → Prop) : Prop :=
  match P.underlying xT, x with
  | some .string, .imm (.string s) => K 1 (bytesT s)
  | some (.slice _), x => elemsW x look K
  | _, _ => False
theorem run_firstCells {size n : Nat} {A : Option Addr} {cap m : Nat} {c : List Value} (hl : c.length = n * size) (hc : ∀ j v, c[j]? = some v → ∃ b o, A = some ⟨b, o, none⟩ ∧ w.cell? ⟨b, o + j, none⟩ = some v) : (Builtin.firstCells size n (.slice A m cap)).run P w = .ok c.toArray w := by
  cases A with
  | none =>
    cases c with
    | nil => rfl
    | cons v c => obtain ⟨b, o, e, _⟩ := hc 0 v rfl; cases e
  | some A =>
    unfold Builtin.firstCells
    cases c with
    | nil =>
      have : n * size = 0 := by simpa using hl.symm
      dsimp only
      rw [this]; rfl
    | cons v c =>
      obtain ⟨b, o, e, _⟩ := hc 0 v rfl
      cases e
      exact run_loadCells hl fun j v hj => by
        obtain ⟨b', o', e1, e2⟩ := hc j v hj
        cases e1
        exact e2
theorem news_sound {xT : TypeId} {x : T} {look : Nat → Option Own} {K : Nat → List T → Prop} {u : Value} (h : newsW P xT x look K) (hx : Rep ⟨w, μ, S.objs, B.ban⟩ false x u) (hS : Sat B S a w μ) (hl : ∀ i x, look i = some x → S.objs[i]? = some (some x)) :
    ∃ sz l c, K sz l ∧ RepR ⟨w, μ, S.objs, B.ban⟩ sz l c ∧ notInt (P.underlying xT) ∧ (∀ w', (Builtin.lenOf u).run P w' = .ok l.length w') ∧ (∀ w' : World, w'.heap = w.heap → (Builtin.firstCells sz l.length u).run P w' = .ok c.toArray w') ∧ (l = [] → ∀ size w', (Builtin.firstCells size 0 u).run P w' = .ok #[] w') := by
  unfold newsW at h
  split at h
  · rename_i s ht
    simp only [Rep, flat, and_true] at hx
    subst hx
    refine ⟨1, _, _, h, bytesT_rep s, ⟨_, ht, by simp⟩, fun w' => by rw [bytesT_length]; rfl, fun w' hw => ?_, fun _ size w' => by simp [Builtin.firstCells]⟩
    rw [bytesT_length]
    have : s.extract 0 s.size = s := by simp
    unfold Builtin.firstCells
    dsimp only
    rw [this]
    have e : (s.data.map fun b => Value.int .u8 b.toNat) = ((s.data.map fun b => Value.int .u8 b.toNat).toList).toArray := rfl
    rw [← e]; rfl
  · rename_i e ht
    obtain ⟨sz, l, A, cap, c, hK, rfl, g1, g2, g3⟩ := elems_sound h hx hl hS.objs
    refine ⟨sz, l, c, hK, g2, ⟨_, ht, by simp⟩, fun w' => rfl, fun w' hw => run_firstCells g2.length fun j v hj => ?_, fun _ size w' => by cases A <;> simp [Builtin.firstCells, loadCells, loadCellsFrom]⟩
    obtain ⟨b, o, e1, e2⟩ := g3 j v hj
    refine ⟨b, o, e1, ?_⟩
    have e2 : w.cell? ⟨b, o + j, none⟩ = some v := e2
    rw [← e2]
    exact cell_of_block (by rw [hw])
  · exact h.elim
def copyW (P : Program) (dT xT : TypeId) (s x : T) (look : Nat → Option Own) (K : T → Eff → Prop) : Prop :=
  match P.underlying dT, s with
  | some (.slice e), .rsl o 1 0 len => okT P e = true ∧ szOf P e = 1 ∧ newsW P xT x look fun sz xs => sz = 1 ∧ xs.all immT = true ∧ (match look o with
    | some (.box bt (.agg l) false) => len = l.length ∧ xs.length ≤ len ∧ K (.imm (.int .i64 (xs.length : Int))) (.put o (.box bt (.agg (patchT l 0 xs)) false))
    | _ => False)
  | _, _ => False
theorem copy_sound (hS : Sat B S a w μ) {dT xT ty : TypeId} {s x : T} {look : Nat → Option Own} {K : T → Eff → Prop} {u v : Value} (h : copyW P dT xT s x look K) (hs : Rep ⟨w, μ, S.objs, B.ban⟩ false s u) (hx : Rep ⟨w, μ, S.objs, B.ban⟩ false x v) (hl : ∀ i x, look i = some x → S.objs[i]? = some (some x)) :
    ∃ r eff q w', K r eff ∧ (Builtin.copy_ #[dT, xT] ty #[u, v]).run P w = .ok q w' ∧ Post B S a k eff r q w' := by
  unfold copyW at h
  split at h
  · rename_i e o len ht
    obtain ⟨ho, hsz, h⟩ := h
    obtain ⟨inf, z, hinf, hz, hs', _⟩ := okT_out ho
    obtain ⟨sz, xs, c, ⟨rfl, hall, h⟩, h1, h2, h3, h4, h5⟩ := news_sound h hx hS hl
    split at h
    · rename_i bt l hlk
      obtain ⟨rfl, hle, hK⟩ := h
      have hoo := hl _ _ hlk
      obtain ⟨b, fr, q, g1, g2, g3, g4, g5, g6⟩ := hS.objs.at_ o _ hoo
      have g1 : μ o = some b := g1
      have g2 : w.heap[b]? = some (Go.Obj.cells q.cells (bt % tagM) fr) := g2
      have hcl := h1.length
      have hg5 : l.length = q.cells.size := g5
      simp only [Rep] at hs
      obtain ⟨_, _, ⟨k1, _⟩ | ⟨b', p, cap, c', t', fr', k1, rfl, k2, k3, k4, k5⟩⟩ := hs
      · have k1 : μ o = none := k1
        rw [g1] at k1; cases k1
      have k1 : μ o = some b' := k1
      rw [g1] at k1; cases k1
      have hleaf : ∀ y ∈ c, leaf y = true := h1.leafs
      have hp : c ≠ [] → p = 0 := fun hc => by
        have : 0 < c.length := List.length_pos_iff.2 hc
        rcases k3 with k3 | k3 <;> omega
      obtain ⟨w', r1, r2, r3, r4, r5, r6, r7⟩ : ∃ w', (storeCells ⟨b, p, none⟩ c).run P w = .ok () w' ∧ w'.heap[b]? = some (Go.Obj.cells (patch q.cells.toList 0 c).toArray (bt % tagM) fr) ∧ (∀ k, k ≠ b → w'.heap[k]? = w.heap[k]?) ∧ w'.heap.size = w.heap.size ∧ w'.os = w.os ∧ w'.tape = w.tape ∧ w'.output = w.output := by
        by_cases hc : c = []
        · subst hc
          exact ⟨w, rfl, by rw [g2]; simp [patch], fun _ _ => rfl, rfl, rfl, rfl, rfl⟩
        · rw [hp hc]
          obtain ⟨w', r1, r2⟩ := run_storeCells (P := P) (b := b) (o := 0) c 0 w q.cells g2 (by omega) g3 hleaf
          exact ⟨w', r1, by simpa using r2⟩
      have hps : (patch q.cells.toList 0 c).toArray.size = q.cells.size := patch_toArray_size (by omega)
      have hRL : RepL ⟨w, μ, S.objs, B.ban⟩ false xs c := RepL_of_R hall h1
      refine ⟨_, _, .int .i64 (xs.length : Int), w', hK, ?_, ?_⟩
      · unfold Builtin.copy_
        simp only [List.getElem?_toArray, List.getElem?_cons_zero, List.getElem?_cons_succ]
        rw [run_bind (run_underlying ht)]
        dsimp only
        rw [run_bind (h3 w)]
        rw [run_bind (run_sizeOf hinf)]
        have hm : Nat.min xs.length l.length = xs.length := Nat.min_eq_left hle
        rw [hm, show inf.size = 1 by omega]
        rw [run_bind (h4 w rfl)]
        dsimp only
        rw [run_bind r1]
        rfl
      · have := hS.move [] hoo (by simp) (y := .box bt (.agg (patchT l 0 xs)) false) (by simp) (some b) r5 r6 r7 (Nat.le_of_eq r4.symm) (fun j hj hne => r3 j fun e => hne (by rw [e, g1]))
          (fun b1 lk h1 h2 j hj => by simp [Own.lock] at h2; omega)
          (fun b1 c1 t1 fr1 h1 h2 => by
            rw [g1] at h1; cases h1
            rw [g2] at h2; cases h2
            exact ⟨_, _, r2, hps⟩)
          (.inl g1.symm) (.inl ⟨g1.symm, 0, 0, by simp [Own.lock], by simp [Own.lock], Nat.le_refl _⟩) (fun E e1 e2 hst hμ => by
            have hq := Rep.step hst g4
            simp only [Rep] at hq
            obtain ⟨cs, rfl, hcs⟩ := hq
            have hsz' : (patch cs.toList 0 c).toArray.size = cs.size := hps
            refine ⟨b, fr, .agg (patch cs.toList 0 c).toArray, hμ, by rw [e1]; exact r2, by rw [Value.cells, hsz']; exact g3, ?_, ?_, by rw [e2]; exact g6⟩
            · simp only [Rep]
              exact ⟨_, rfl, by simpa using hcs.patch (RepL.step hst hRL) 0⟩
            · rw [Value.cells, hsz']
              have hl0 : l.length = cs.size := g5
              show (patchT l 0 xs).length = cs.size
              simp only [patchT, List.length_append, List.length_take, List.length_drop]
              omega)
        refine ⟨_, by rw [← unwrap_put]; exact this, by simp only [Rep, flat, and_true]⟩
    · exact h.elim
  · exact h.elim
def appendW (P : Program) (k : Nat) (sT xT : TypeId) (s x : T) (look : Nat → Option Own) (K : T → Eff → Prop) : Prop :=
  match P.underlying sT with
  | some (.slice e) => okT P e = true ∧ szOf P e ≠ 0 ∧ (zeroOf P e).cells.length = szOf P e ∧ (∀ i, P.info? e = some i → i.bytes ≤ 256) ∧ newsW P xT x look fun sz xs => (sz = szOf P e ∨ xs = []) ∧ (match s with
    | .sl szs full l => full = true ∧ (l = [] ∨ (xs ≠ [] ∧ szs = szOf P e)) ∧ l.length + xs.length ≤ 549755813888 ∧ K (.rsl k (szOf P e) 0 (l.length + xs.length)) (.new (.buf e (szOf P e) (l ++ xs) 0))
    | .rsl o szs off len => (match look o with
      | some (.buf bt sz' l lk) => off = 0 ∧ szs = szOf P e ∧ sz' = szOf P e ∧ bt = e ∧ len ≤ l.length ∧ lk ≤ len ∧ len + xs.length ≤ 549755813888 ∧ K (.rsl o (szOf P e) 0 (len + xs.length)) (.move [o] o (.buf e (szOf P e) (l.take len ++ xs) lk))
      | _ => False)
    | _ => False)
  | _ => False
theorem Sat.virtual (hS : Sat B S a w μ) (hk : S.objs[k]? = some none) (e : TypeId) (sz : Nat) : Sat B ⟨S.tmps, S.objs.set k (some (.buf e sz [] 0))⟩ a w (fun o => if o = k then none else μ o) := by
  have hfree : ∀ (o : Nat) (y : Own), S.objs[o]? = some (some y) → o ≠ k := fun o y h e => by subst e; rw [hk] at h; cases h
  have hget : ∀ (o : Nat) (y : Own), (S.objs.set k (some (.buf e sz [] 0)))[o]? = some (some y) → (o = k ∧ y = .buf e sz [] 0) ∨ (o ≠ k ∧ S.objs[o]? = some (some y)) := by
    intro o y h
    rw [List.getElem?_set] at h
    by_cases e : k = o
    · subst e
      rw [if_pos rfl] at h
      split at h
      · injection h with h; injection h with h; exact .inl ⟨rfl, h.symm⟩
      · cases h
    · rw [if_neg e] at h; exact .inr ⟨fun e' => e e'.symm, h⟩
  have hs : Step [] ⟨w, μ, S.objs, B.ban⟩ ⟨w, fun o => if o = k then none else μ o, S.objs.set k (some (.buf e sz [] 0)), B.ban⟩ := by
    refine ⟨⟨fun b j v hv => ⟨hv.1, fun lk ⟨o, y, h1, h2, h3⟩ => ?_, hv.2.2⟩, fun b c t fr hb => ⟨c, fr, hb, rfl⟩⟩, fun o ⟨y, h⟩ _ => ⟨y, ?_⟩, fun o ⟨y, h⟩ _ => if_neg (hfree o y h)⟩
    · rcases hget o y h1 with ⟨rfl, rfl⟩ | ⟨h4, h5⟩
      · have h2' : (none : Option Nat) = some b := by simp at h2
        cases h2'
      · exact hv.2.1 lk ⟨o, y, h5, by simpa [h4] using h2, h3⟩
    · show (S.objs.set k _)[o]? = _
      rw [List.getElem?_set, if_neg (fun e => hfree o y h e.symm)]; exact h
  have := hS.go hs ⟨fun o y h => ?_, fun o o' y y' b h h' hy hy' hb hb' => ?_⟩ (fun o y b h hy hb => ?_) hS.kept
  · rwa [killL_nil] at this
  · rcases hget o y h with ⟨rfl, rfl⟩ | ⟨h4, h5⟩
    · exact ⟨Nat.le_refl _, .inl ⟨by simp, rfl⟩⟩
    · cases y with
      | box t x lk => obtain ⟨b, fr, u, h1, h2, h3, h6, h7⟩ := hS.objs.at_ o _ h5; exact ⟨b, fr, u, (if_neg h4).trans h1, h2, h3, Rep.step hs h6, h7⟩
      | buf t sz l lk =>
        obtain ⟨h0, h1⟩ := hS.objs.at_ o _ h5
        exact ⟨h0, h1.imp (fun h => ⟨(if_neg h4).trans h.1, h.2⟩) fun ⟨b, c, fr, c1, c2, h1, h2, h3, h6, h7⟩ => ⟨b, c, fr, c1, c2, (if_neg h4).trans h1, h2, h3, h6, RepR.stepC hs.toStepC _ _ _ h7⟩⟩
      | dead => trivial
  · rcases hget o y h with ⟨rfl, rfl⟩ | ⟨h4, h5⟩
    · have e1 : (none : Option Nat) = some b := by simp at hb
      cases e1
    · rcases hget o' y' h' with ⟨rfl, rfl⟩ | ⟨h6, h7⟩
      · have e1 : (none : Option Nat) = some b := by simp at hb'
        cases e1
      · exact hS.objs.inj o o' y y' b h5 h7 hy hy' (by simpa [h4] using hb) (by simpa [h6] using hb')
  · rcases hget o y h with ⟨rfl, rfl⟩ | ⟨h4, h5⟩
    · have e1 : (none : Option Nat) = some b := by simp at hb
      cases e1
    · exact hS.fresh o y b h5 hy (by simpa [h4] using hb)
theorem has_upd {ks : List Nat} {o : Nat} {x y : Own} (ho : S.objs[o]? = some (some x)) {w : World} {μ : Nat → Option Nat} {ban : Ban} : (⟨w, μ, (S.upd ks o y).objs, ban⟩ : Env).has o := by
  refine ⟨y, ?_⟩
  show ((S.objs.map (Option.map (Own.kill ks))).set o (some y))[o]? = _
  rw [List.getElem?_set, if_pos rfl, if_pos (by simpa using (List.getElem?_eq_some_iff.1 ho).1)]
theorem append_sound (hS : Sat B S a w μ) (hk : S.objs[k]? = some none) {sT xT ty : TypeId} {s x : T} {u v : Value} {look : Nat → Option Own} {K : T → Eff → Prop} (h : appendW P k sT xT s x look K) (hs : Rep ⟨w, μ, S.objs, B.ban⟩ false s u) (hx : Rep ⟨w, μ, S.objs, B.ban⟩ false x v) (hl : ∀ i x, look i = some x → S.objs[i]? = some (some x)) :
    ∃ r eff q w', K r eff ∧ (Builtin.append_ #[sT, xT] ty #[u, v]).run P w = .ok q w' ∧ Post B S a k eff r q w' := by
  unfold appendW at h
  split at h
  case h_2 => exact h.elim
  rename_i e ht
  obtain ⟨ho, hz0, hzl, hby, h0⟩ := h
  obtain ⟨inf, z, hinf, hz, hs', hzo⟩ := okT_out ho
  have hzs : z.cells.size = inf.size := by rw [← hs', ← hzl, hzo, ofVal_len]
  obtain ⟨szx, xs, cx, ⟨hszx, h⟩, g1, g2, g3, g4, g5⟩ := news_sound h0 hx hS hl
  clear h0
  have hcx : RepR ⟨w, μ, S.objs, B.ban⟩ inf.size xs cx := by
    rcases hszx with rfl | rfl
    · rwa [hs'] at g1
    · simp only [RepR] at g1 ⊢; exact g1
  have hfirst : ∀ w' : World, w'.heap = w.heap → (Builtin.firstCells inf.size xs.length v).run P w' = .ok cx.toArray w' := by
    intro w' hw
    rcases hszx with rfl | rfl
    · rw [← hs']; exact g4 w' hw
    · have : cx = [] := by simpa only [RepR] using hcx
      subst this
      exact g5 rfl _ w'
  have hb256 := hby inf hinf
  have grow : ∀ (base : Option Addr) (sLen sCap : Nat) (l : List T) (cl : List Value), l.length = sLen → RepR ⟨w, μ, S.objs, B.ban⟩ inf.size l cl → (∀ w' : World, w'.heap = w.heap → (Builtin.firstCells inf.size sLen (.slice base sLen sCap)).run P w' = .ok cl.toArray w') →
      sCap < sLen + xs.length → sLen + xs.length ≤ 549755813888 → ∃ (c : Array Value) (cap : Nat) (c1 c2 : List Value), (Builtin.append_ #[sT, xT] ty #[.slice base sLen sCap, v]).run P w = .ok (.slice (some ⟨w.heap.size, 0, none⟩) (sLen + xs.length) cap) ((w.drewN 1).alloc (.cells c e (0, 0))) ∧
        c.toList = c1 ++ c2 ∧ RepR ⟨w, μ, S.objs, B.ban⟩ inf.size (l ++ xs) c1 ∧ sLen + xs.length ≤ cap ∧ cap * inf.size ≤ c.size := by
    intro base sLen sCap l cl hll hcl hold hg hbd
    have hge := grownCap_ge w (sLen + xs.length) sCap e
    refine ⟨_, _, cl ++ cx, (Builtin.zeroCells z.cells (grownCap w (sLen + xs.length) sCap e - (sLen + xs.length))).toList, run_append_grow' ht hinf hz g2 g3 hfirst hold hg (by omega) ?_, ?_, hcl.append hcx, hge, ?_⟩
    · have : (sLen + xs.length) * inf.bytes ≤ 549755813888 * 256 := Nat.mul_le_mul hbd hb256
      omega
    · simp only [Array.toList_append]
    · simp only [Array.size_append, List.size_toArray, size_zeroCells, hzs, hcl.length, hcx.length, hll, ← Nat.add_mul]
      refine Nat.mul_le_mul_right _ ?_
      omega
  split at h
  · rename_i szs full l
    obtain ⟨hfull, hcase, hbd, hK⟩ := h
    simp only [Rep] at hs
    obtain ⟨A, cap, c, rfl, k1, k2, k3, k4⟩ := hs
    have hcap := (k2 hfull).1
    have hnil := (k2 hfull).2
    subst hcap
    by_cases hxe : xs = []
    · subst hxe
      have hle : l = [] := by rcases hcase with h | h; exact h; exact absurd rfl h.1
      subst hle
      have hcx0 : cx = [] := by simpa only [RepR] using hcx
      subst hcx0
      refine ⟨_, _, .slice A 0 0, w, hK, ?_, ?_⟩
      · cases A with
        | none => exact run_append_none' (sLen := 0) (sCap := 0) ht hinf g2 g3 hfirst (Nat.le_refl _)
        | some A => exact run_append_room' (sLen := 0) (sCap := 0) ht hinf g2 g3 hfirst (Nat.le_refl _) rfl
      · refine ⟨_, hS.virtual hk e (szOf P e), ?_⟩
        simp only [Rep]
        exact ⟨trivial, has_set hk, .inl ⟨by simp, by simp, trivial, ⟨A, hnil rfl⟩, rfl⟩⟩
    · have hpos : 0 < xs.length := List.length_pos_iff.2 hxe
      have hcl : RepR ⟨w, μ, S.objs, B.ban⟩ inf.size l c := by
        rcases hcase with rfl | ⟨_, rfl⟩
        · simp only [RepR] at k3 ⊢; exact k3
        · rwa [hs'] at k3
      obtain ⟨c', cap', c1, c2, m1, m2, m3, m4, m5⟩ := grow A l.length l.length l c rfl hcl (fun w' hw => run_firstCells hcl.length fun j y hj => by
        obtain ⟨b, o, e1, e2⟩ := k4 j y hj
        exact ⟨b, o, e1, (cell_of_block (by rw [hw])).trans e2.1⟩) (by omega) hbd
      have := buf_post hS hk (l := l ++ xs) e (0, 0) (unf0 _) m2 m3 cap' (by simpa using m4) m5 1
      rw [List.length_append] at this
      rw [hs'] at hK
      exact ⟨_, _, _, _, hK, m1, this⟩
  · rename_i o szs off len
    split at h
    case h_2 => exact h.elim
    rename_i bt sz' L lk hlk
    obtain ⟨rfl, rfl, rfl, rfl, hlen, hlk2, hbd, hK⟩ := h
    have hoo := hl _ _ hlk
    rw [hs'] at hoo hK hs
    simp only [Rep] at hs
    obtain ⟨_, _, hs⟩ := hs
    obtain ⟨g0, gat⟩ := hS.objs.at_ o _ hoo
    -- what a row that has moved gives
    have moved : ∀ (l : List T) (b0 : Option Nat), μ o = b0 → l = L.take len → lk ≤ l.length → ∀ (c' : Array Value) (cap' : Nat) (c1 c2 : List Value), c'.toList = c1 ++ c2 → RepR ⟨w, μ, S.objs, B.ban⟩ inf.size (l ++ xs) c1 → len + xs.length ≤ cap' → cap' * inf.size ≤ c'.size → l.length = len →
        Post B S a k (.move [o] o (.buf bt inf.size (L.take len ++ xs) lk)) (.rsl o inf.size 0 (len + xs.length)) (.slice (some ⟨w.heap.size, 0, none⟩) (len + xs.length) cap') ((w.drewN 1).alloc (.cells c' bt (0, 0))) := by
      intro l b0 hb0 hll hlkl c' cap' c1 c2 m2 m3 m4 m5 hlen'
      have hbel : Below w.heap.size w ((w.drewN 1).alloc (.cells c' bt (0, 0))) := Below.trans (b := w.drewN 1) ⟨rfl, rfl, rfl, Nat.le_refl _, fun _ _ => rfl⟩ ((Below.refl (w.drewN 1).heap.size (w.drewN 1)).alloc (Nat.le_refl _) _)
      have hnew : ((w.drewN 1).alloc (.cells c' bt (0, 0))).heap[w.heap.size]? = some (.cells c' bt (0, 0)) := heap_alloc_new (w.drewN 1) _
      have mv := hS.move [o] hoo (by simp) (y := .buf bt inf.size (L.take len ++ xs) lk) (by simp) (some w.heap.size) hbel.os hbel.tape hbel.output hbel.size (fun j hj _ => hbel.block j hj)
        (fun b1 lk1 h1 _ j hj => cell_of_block (hbel.block b1 (Own.lt hS hoo (by simp) h1)))
        (fun b1 c1' t1 fr1 h1 h2 => ⟨c1', fr1, (hbel.block b1 (Own.lt hS hoo (by simp) h1)).trans h2, rfl⟩)
        (.inr (by simp)) (.inr fun b hb => by
          cases hb
          refine ⟨Nat.le_refl _, ?_⟩
          show _ < (w.heap.push _).size
          simp) (fun E e1 e2 hst hμ => by
          refine ⟨by rw [List.length_append]; rw [hll] at hlkl; omega, .inr ⟨w.heap.size, c', (0, 0), c1, c2, hμ, by rw [e1]; exact hnew, unf0 _, m2, ?_⟩⟩
          rw [← hll]
          exact RepR.stepC hst.toStepC _ _ _ m3)
      refine ⟨_, mv, ?_⟩
      simp only [Rep]
      exact ⟨trivial, has_upd hoo, .inr ⟨w.heap.size, 0, cap', c', bt, (0, 0), by simp, rfl, m4, .inr (by simp), hnew, by simpa using m5⟩⟩
    rcases hs with ⟨n1, rfl, _, A, rfl⟩ | ⟨b, p, cap, c, t, fr, n1, rfl, n3, n4, n5, n6⟩
    · -- no row yet
      have hLe : L = [] := by
        rcases gat with ⟨_, h⟩ | ⟨b', cs, fr, c1, c2, q1, _⟩
        · exact h
        · have n1 : μ o = none := n1
          have q1 : μ o = some b' := q1
          rw [n1] at q1; cases q1
      subst hLe
      by_cases hxe : xs = []
      · subst hxe
        have hcx0 : cx = [] := by simpa only [RepR] using hcx
        subst hcx0
        obtain ⟨A, hA⟩ := A
        refine ⟨_, _, .slice A 0 0, w, hK, ?_, ?_⟩
        · cases A with
          | none => exact run_append_none' (sLen := 0) (sCap := 0) ht hinf g2 g3 hfirst (Nat.le_refl _)
          | some A => exact run_append_room' (sLen := 0) (sCap := 0) ht hinf g2 g3 hfirst (Nat.le_refl _) rfl
        · have n1 : μ o = none := n1
          have mv := hS.move [o] hoo (by simp) (y := .buf bt inf.size (([] : List T).take 0 ++ []) lk) (by simp) none rfl rfl rfl (Nat.le_refl _) (fun j hj _ => rfl) (fun b1 lk1 h1 _ j hj => rfl) (fun b1 c1' t1 fr1 h1 h2 => ⟨c1', fr1, h2, rfl⟩)
            (.inl n1.symm) (.inr fun b hb => by cases hb) (fun E e1 e2 hst hμ => ⟨by simpa using hlk2, .inl ⟨hμ, rfl⟩⟩)
          refine ⟨_, mv, ?_⟩
          simp only [Rep]
          exact ⟨trivial, has_upd hoo, .inl ⟨by simp, by simp, trivial, ⟨A, hA⟩, rfl⟩⟩
      · have hpos : 0 < xs.length := List.length_pos_iff.2 hxe
        obtain ⟨c', cap', c1, c2, m1, m2, m3, m4, m5⟩ := grow A.1 0 0 [] [] rfl (by simp [RepR]) (fun w' hw => by obtain ⟨A, hA⟩ := A; cases A <;> simp [Builtin.firstCells, loadCells, loadCellsFrom]) (by omega) hbd
        exact ⟨_, _, _, _, hK, m1, moved [] none n1 rfl (by simpa using hlk2) c' cap' c1 c2 m2 m3 m4 m5 rfl⟩
    · -- a row
      have n1 : μ o = some b := n1
      rcases gat with ⟨q1, _⟩ | ⟨b', cs, fr', c1, c2, q1, q2, q3, q4, q5⟩
      · have q1 : μ o = none := q1
        rw [n1] at q1; cases q1
      have q1 : μ o = some b' := q1
      rw [n1] at q1; cases q1
      have q2 : w.heap[b]? = some (Go.Obj.cells cs bt fr') := q2
      have n5 : w.heap[b]? = some (Go.Obj.cells c t fr) := n5
      rw [q2] at n5; cases n5
      have hc1 := q5.length
      have hcs : c1.length + c2.length = c.size := by rw [← List.length_append, ← q4, Array.length_toList]
      have ht1 := q5.take len
      have hlL : (L.take len).length = len := by rw [List.length_take]; omega
      have hlc : len * inf.size ≤ c1.length := by rw [hc1]; exact Nat.mul_le_mul_right _ hlen
      have holdc : ∀ (w' : World), w'.heap = w.heap → (Builtin.firstCells inf.size len (.slice (some ⟨b, p, none⟩) len cap)).run P w' = .ok (c1.take (len * inf.size)).toArray w' := fun w' hw => run_firstCells (by rw [List.length_take]; omega) fun j y hj => by
        rw [List.getElem?_take] at hj
        split at hj
        · rename_i hjl
          have hlpos : 0 < len := Nat.pos_of_ne_zero fun e0 => by subst e0; simp at hjl
          have hp : p = 0 := by rcases n4 with h | h <;> omega
          subst hp
          refine ⟨b, 0, rfl, ?_⟩
          have e3 : c[j]? = some y := by
            rw [← Array.getElem?_toList, q4, List.getElem?_append_left (List.getElem?_eq_some_iff.1 hj).1]; exact hj
          rw [Nat.zero_add]
          simp [World.cell?, hw, q2, e3]
        · cases hj
      by_cases hroom : len + xs.length ≤ cap
      · by_cases hcap0 : cap = 0
        · have hl0 : len = 0 := by omega
          have hx0 : xs = [] := List.eq_nil_of_length_eq_zero (by omega)
          subst hl0 hx0 hcap0
          have hcx0 : cx = [] := by simpa only [RepR] using hcx
          subst hcx0
          refine ⟨_, _, .slice (some ⟨b, p, none⟩) 0 0, w, hK, run_append_room' (sLen := 0) (sCap := 0) ht hinf g2 g3 hfirst (Nat.le_refl _) rfl, ?_⟩
          have mv := hS.move [o] hoo (by simp) (y := .buf bt inf.size (L.take 0 ++ []) lk) (by simp) (some b) rfl rfl rfl (Nat.le_refl _) (fun j hj _ => rfl) (fun b1 lk1 h1 _ j hj => rfl) (fun b1 c1' t1 fr1 h1 h2 => ⟨c1', fr1, h2, rfl⟩)
            (.inl n1.symm) (.inl ⟨n1.symm, lk * inf.size, lk * inf.size, by simp [Own.lock], by simp [Own.lock], Nat.le_refl _⟩) (fun E e1 e2 hst hμ => ⟨by simpa using hlk2, .inr ⟨b, c, fr, [], c.toList, hμ, by rw [e1]; exact q2, q3, by simp, by simp [RepR]⟩⟩)
          refine ⟨_, mv, ?_⟩
          simp only [Rep]
          exact ⟨trivial, has_upd hoo, .inr ⟨b, p, 0, c, bt, fr, by simp, rfl, Nat.le_refl _, .inl rfl, q2, by simp⟩⟩
        · have hp : p = 0 := by rcases n4 with h | h <;> omega
          subst hp
          have hcxl := hcx.length
          have n6' : cap * inf.size ≤ c.size := by simpa using n6
          have hfits : len * inf.size + cx.length ≤ c.size := by
            rw [hcxl, ← Nat.add_mul]
            exact Nat.le_trans (Nat.mul_le_mul_right _ hroom) n6'
          have hleafs : ∀ y ∈ cx, leaf y = true := hcx.leafs
          obtain ⟨w', r1, r2, r3, r4, r5, r6, r7⟩ := run_storeCells (P := P) (b := b) (o := 0 + len * inf.size) cx 0 w c q2 (by omega) q3 hleafs
          rw [Nat.add_zero, Nat.zero_add] at r2
          have hsz : (patch c.toList (len * inf.size) cx).toArray.size = c.size := patch_toArray_size hfits
          have hpat : patch c.toList (len * inf.size) cx = (c1.take (len * inf.size) ++ cx) ++ c.toList.drop (len * inf.size + cx.length) := by
            unfold patch
            rw [q4, List.take_append_of_le_length hlc]
          have mv := hS.move [o] hoo (by simp) (y := .buf bt inf.size (L.take len ++ xs) lk) (by simp) (some b) r5 r6 r7 (Nat.le_of_eq r4.symm) (fun j hj hne => r3 j fun e => hne (by rw [e, n1]))
            (fun b1 lk1 h1 h2 j hj => by
              rw [n1] at h1; cases h1
              simp only [Own.lock, Option.some.injEq] at h2
              subst h2
              have hj2 : j < len * inf.size := Nat.lt_of_lt_of_le hj (Nat.mul_le_mul_right _ hlk2)
              exact cell_before q2 r2 hj2 (by omega))
            (fun b1 c1' t1 fr1 h1 h2 => by
              rw [n1] at h1; cases h1
              rw [q2] at h2; cases h2
              exact ⟨_, _, r2, hsz⟩)
            (.inl n1.symm) (.inl ⟨n1.symm, lk * inf.size, lk * inf.size, by simp [Own.lock], by simp [Own.lock], Nat.le_refl _⟩) (fun E e1 e2 hst hμ => by
              refine ⟨by rw [List.length_append, hlL]; omega, .inr ⟨b, (patch c.toList (len * inf.size) cx).toArray, fr, c1.take (len * inf.size) ++ cx, c.toList.drop (len * inf.size + cx.length), hμ, by rw [e1]; exact r2, by rw [hsz]; exact q3, hpat, ?_⟩⟩
              exact RepR.stepC hst.toStepC _ _ _ (ht1.append hcx))
          refine ⟨_, _, .slice (some ⟨b, 0, none⟩) (len + xs.length) cap, w', hK, run_append_room' ht hinf g2 g3 hfirst hroom (by rw [add_at]; exact r1), _, mv, ?_⟩
          simp only [Rep]
          exact ⟨trivial, has_upd hoo, .inr ⟨b, 0, cap, (patch c.toList (len * inf.size) cx).toArray, bt, fr, by simp, rfl, hroom, .inr (by simp), r2, by rw [hsz]; exact n6⟩⟩
      · obtain ⟨c', cap', c1', c2', m1, m2, m3, m4, m5⟩ := grow (some ⟨b, p, none⟩) len cap (L.take len) (c1.take (len * inf.size)) hlL ht1 holdc (by omega) hbd
        exact ⟨_, _, _, _, hK, m1, moved (L.take len) (some b) n1 rfl (by omega) c' cap' c1' c2' m2 m3 m4 m5 hlL⟩
  · exact h.elim
end
end Go.Proofs.YtdaojihnaajfeaaX

/- Contracts of functions, and every operation at once. Of no program. -/
set_option linter.unusedVariables false
set_option linter.unusedSimpArgs false
namespace Go.Proofs.YtdaojihnaajfeaaX
open Go Go.RowKit
def E0 (w : World) (ban : Ban) : Env := ⟨w, fun _ => none, [], ban⟩
def enters (P : Program) (g : FuncId) : Prop := ∃ fn, P.funcs[g]? = some fn ∧ (fn.name == "runtime.NumGoroutine") = false ∧ fn.body.isSome = true
def FnC (P : Program) (f : FuncId) (args : List T) (res : T) : Prop := enters P f ∧
  ∀ (w : World) (ban : Ban) (vs : Array Value), (∀ b j, ban b j → b < w.heap.size) → GI w → RepL (E0 w ban) true args vs.toList →
    Calls P f vs w fun e w' => ∃ u, e = .returned u ∧ Below w.heap.size w w' ∧ Rep (E0 w' ban) true res u
def snap (look : Nat → Option Own) : T → T
  | .rsl o sz off len => match look o with
    | some (.buf _ sz' l lk) => if sz = sz' ∧ off + len ≤ lk then .sl sz false ((l.drop off).take len) else .rsl o sz off len
    | _ => .rsl o sz off len
  | x => x
theorem snap_rep {B : Base} {S : St} {a : Act} {w : World} {μ : Nat → Option Nat} (hS : Sat B S a w μ) {look : Nat → Option Own} (hl : ∀ i x, look i = some x → S.objs[i]? = some (some x)) {x : T} {u : Value} (hx : Rep ⟨w, μ, S.objs, B.ban⟩ false x u) : Rep ⟨w, μ, S.objs, B.ban⟩ false (snap look x) u := by
  unfold snap
  split
  · rename_i o sz off len
    split
    · rename_i bt sz' l lk hlk
      by_cases h : sz = sz' ∧ off + len ≤ lk
      · rw [if_pos h]
        obtain ⟨rfl, hle⟩ := h
        have hoo := hl _ _ hlk
        obtain ⟨g0, gat⟩ := hS.objs.at_ o _ hoo
        simp only [Rep] at hx
        obtain ⟨_, _, ⟨n1, rfl, rfl, A, rfl⟩ | ⟨b, p, cap, c, t, fr, n1, rfl, n2, n3, n4, n5⟩⟩ := hx
        · simp only [Rep]
          exact ⟨A, 0, [], by simp, by simp, (fun h => by cases h), by simp [RepR], fun j v hj => by simp at hj⟩
        · have n1 : μ o = some b := n1
          rcases gat with ⟨q1, _⟩ | ⟨b', cs, fr', c1, c2, q1, q2, q3, q4, q5⟩
          · have q1 : μ o = none := q1
            rw [n1] at q1; cases q1
          have q1 : μ o = some b' := q1
          rw [n1] at q1; cases q1
          have hlen : ((l.drop off).take len).length = len := by rw [List.length_take, List.length_drop]; omega
          simp only [Rep]
          refine ⟨some ⟨b, p, none⟩, cap, (c1.drop (off * sz)).take (len * sz), by rw [hlen], by rw [hlen]; exact n2, (fun h => by cases h), (q5.drop off).take len, fun j v hj => ?_⟩
          rw [List.getElem?_take] at hj
          split at hj
          · rename_i hjl
            rw [List.getElem?_drop] at hj
            have hpos : 0 < len := Nat.pos_of_ne_zero fun e => by subst e; simp at hjl
            have hp : p = off * sz := by rcases n3 with h | h <;> omega
            subst hp
            refine ⟨b, _, rfl, ?_, ?_, fun hb => ?_⟩
            · have q2 : w.heap[b]? = some (Go.Obj.cells cs bt fr') := q2
              have e : cs[off * sz + j]? = some v := by
                rw [← Array.getElem?_toList, q4, List.getElem?_append_left (List.getElem?_eq_some_iff.1 hj).1]; exact hj
              show w.cell? _ = _
              simp [World.cell?, q2, e]
            · rintro lk' ⟨o', x, k1, k2, k3⟩
              have k2 : μ o' = some b := k2
              have : o' = o := hS.objs.inj o' o x _ b k1 hoo (fun e => by subst e; cases k3) (by simp) k2 n1
              subst this
              have k1 : S.objs[o']? = some (some x) := k1
              rw [hoo] at k1
              cases k1
              simp only [Own.lock, Option.some.injEq] at k3
              subst k3
              calc off * sz + j < off * sz + len * sz := by omega
                _ = (off + len) * sz := by rw [Nat.add_mul]
                _ ≤ lk * sz := Nat.mul_le_mul_right _ hle
            · have hb : B.ban b (off * sz + j) := hb
              have := B.banlt _ _ hb
              rcases hS.fresh o _ b hoo (by simp) n1 with h | ⟨lk1, lk2, h1, h2, h3⟩
              · omega
              · exact B.banown b lk1 h1 _ hb
          · cases hj
      · rw [if_neg h]; exact hx
    · exact hx
  · exact hx
mutual
def dsnap (look : Nat → Option Own) : T → T
  | .agg l => .agg (dsnapL look l)
  | .ifc t x => .ifc t (dsnap look x)
  | .tup l => .tup (dsnapL look l)
  | .fn f caps => .fn f (dsnapL look caps)
  | .rsl o sz off len => snap look (.rsl o sz off len)
  | .imm v => .imm v
  | .sl sz full l => .sl sz full l
  | .pp x => .pp x
  | .ref o sz i c => .ref o sz i c
  | .junk => .junk
def dsnapL (look : Nat → Option Own) : List T → List T
  | [] => []
  | x :: l => dsnap look x :: dsnapL look l
end
theorem dsnapL_eq (look : Nat → Option Own) : ∀ l : List T, dsnapL look l = l.map (dsnap look)
  | [] => rfl
  | x :: l => by rw [dsnapL, dsnapL_eq look l]; rfl
mutual
theorem dsnap_rep {B : Base} {S : St} {a : Act} {w : World} {μ : Nat → Option Nat} (hS : Sat B S a w μ) {look : Nat → Option Own} (hl : ∀ i x, look i = some x → S.objs[i]? = some (some x)) : ∀ (x : T) (u : Value), Rep ⟨w, μ, S.objs, B.ban⟩ false x u → Rep ⟨w, μ, S.objs, B.ban⟩ false (dsnap look x) u
  | .agg l, u, h => by
    simp only [dsnap, Rep] at h ⊢
    obtain ⟨cs, h1, h2⟩ := h
    exact ⟨cs, h1, dsnapL_rep hS hl l _ h2⟩
  | .ifc t x, u, h => by
    simp only [dsnap, Rep] at h ⊢
    obtain ⟨v, h1, h2⟩ := h
    exact ⟨v, h1, dsnap_rep hS hl x v h2⟩
  | .tup l, u, h => by
    simp only [dsnap, Rep] at h ⊢
    obtain ⟨cs, h1, h2⟩ := h
    exact ⟨cs, h1, dsnapL_rep hS hl l _ h2⟩
  | .fn f caps, u, h => by
    simp only [dsnap, Rep] at h ⊢
    obtain ⟨cs, h1, h2⟩ := h
    exact ⟨cs, h1, dsnapL_rep hS hl caps _ h2⟩
  | .rsl o sz off len, u, h => by rw [dsnap]; exact snap_rep hS hl h
  | .imm v, u, h => h
  | .sl sz full l, u, h => h
  | .pp x, u, h => h
  | .ref o sz i c, u, h => h
  | .junk, u, h => h
theorem dsnapL_rep {B : Base} {S : St} {a : Act} {w : World} {μ : Nat → Option Nat} (hS : Sat B S a w μ) {look : Nat → Option Own} (hl : ∀ i x, look i = some x → S.objs[i]? = some (some x)) : ∀ (l : List T) (vs : List Value), RepL ⟨w, μ, S.objs, B.ban⟩ false l vs → RepL ⟨w, μ, S.objs, B.ban⟩ false (dsnapL look l) vs
  | [], vs, h => h
  | x :: l, vs, h => by
    simp only [dsnapL, RepL] at h ⊢
    obtain ⟨v, vs', h1, h2, h3⟩ := h
    exact ⟨v, vs', h1, dsnap_rep hS hl x v h2, dsnapL_rep hS hl l vs' h3⟩
end
def callW (P : Program) (fn : T) (args : List T) (look : Nat → Option Own) (K : T → Eff → Prop) : Prop :=
  match fn with
  | .fn g caps => closedL (dsnapL look args ++ caps) = true ∧ ∃ r, FnC P g (dsnapL look args ++ caps) r ∧ K r .none
  | _ => False
theorem run_callFunc {P : Program} {w : World} {g : FuncId} {args : Array Value} (h : enters P g) : (callFunc g args).run P w = .ok (.enter g args) w := by
  obtain ⟨fn, h1, h2, h3⟩ := h
  have h4 : fn.body.isNone = false := by cases hb : fn.body <;> simp_all
  unfold callFunc
  rw [run_bind run_program]
  simp only [h1, h2, h4, Bool.false_eq_true, if_false]
  rfl
theorem run_call {P : Program} {w : World} {o : Oper} {ρ : Operand → Value} {f : Operand} {as_ : Array Operand} {ts : Array TypeId} {g : FuncId} {caps : Array Value} (ho : o.op = .call { callee := .value f, args := as_, argTypes := ts }) (hf : ρ f = .func (.func g) #[] caps) (h : enters P g) :
    (execOp ρ o).run P w = .ok (.enter g (as_.map ρ ++ caps)) w := by
  unfold execOp
  simp only [ho, resolve, Deferred.ofValue, hf]
  rw [run_bind (show (pure _ : Sem Deferred).run P w = .ok _ w from rfl)]
  simp only [invoke, Array.empty_append]
  exact run_callFunc h
inductive RL : Option (Option Own) → Option (Option Own) → Prop where
  | none : RL none none
  | free : RL (some none) (some none)
  | dead : RL (some (some .dead)) (some (some .dead))
  | box {t x lk lk'} (h : lk = true → lk' = true) : RL (some (some (.box t x lk))) (some (some (.box t x lk')))
  | buf {t sz l lk lk'} (h : lk ≤ lk') (h' : lk ≤ l.length → lk' ≤ l.length) : RL (some (some (.buf t sz l lk))) (some (some (.buf t sz l lk')))
theorem RL.refl : ∀ x, RL x x
  | .none => .none
  | .some .none => .free
  | .some (.some .dead) => .dead
  | .some (.some (.box t x lk)) => .box id
  | .some (.some (.buf t sz l lk)) => .buf (Nat.le_refl _) id
theorem RL.back {x : Option (Option Own)} {y : Own} (h : RL x (some (some y))) : ∃ z, x = some (some z) ∧ (y = .dead ↔ z = .dead) ∧ ∀ lk, y.lock = some lk → ∃ lk', z.lock = some lk' ∧ lk' ≤ lk := by
  cases h with
  | dead => exact ⟨.dead, rfl, Iff.rfl, fun lk h => by cases h⟩
  | box h =>
    rename_i t x lk lk'
    refine ⟨_, rfl, by simp, fun l hl => ?_⟩
    simp only [Own.lock, Option.some.injEq] at hl ⊢
    refine ⟨_, rfl, ?_⟩
    subst hl
    cases lk with
    | false => simp
    | true => simp [h rfl]
  | buf h h' =>
    rename_i t sz l lk lk'
    refine ⟨_, rfl, by simp, fun l hl => ?_⟩
    simp only [Own.lock, Option.some.injEq] at hl ⊢
    exact ⟨_, rfl, hl ▸ Nat.mul_le_mul_right _ h⟩
theorem RL.fore {x : Option (Option Own)} {y : Own} (h : RL (some (some y)) x) : ∃ z, x = some (some z) := by
  cases h <;> exact ⟨_, rfl⟩
theorem RL.stepE {B : Base} {S : St} {w : World} {μ : Nat → Option Nat} {objs' : List (Option Own)} (h : ∀ i : Nat, RL S.objs[i]? objs'[i]?) : Step [] ⟨w, μ, S.objs, B.ban⟩ ⟨w, μ, objs', B.ban⟩ := by
    refine ⟨⟨fun b j v ⟨h1, h2, h3⟩ => ⟨h1, fun lk ⟨o, x, k1, k2, k3⟩ => ?_, h3⟩, fun b c t fr hb => ⟨c, fr, hb, rfl⟩⟩, fun o ⟨x, hx⟩ _ => ?_, fun _ _ _ => rfl⟩
    · have k1 : objs'[o]? = some (some x) := k1
      obtain ⟨z, e1, _, e3⟩ := RL.back (k1 ▸ h o)
      obtain ⟨lk', e4, e5⟩ := e3 lk k3
      have := h2 lk' ⟨o, z, e1, k2, e4⟩
      omega
    · have hx : S.objs[o]? = some (some x) := hx
      obtain ⟨z, hz⟩ := RL.fore (hx ▸ h o)
      exact ⟨z, hz⟩
theorem Sat.relock {B : Base} {S : St} {a : Act} {w : World} {μ : Nat → Option Nat} (hS : Sat B S a w μ) {objs' : List (Option Own)} (h : ∀ i : Nat, RL S.objs[i]? objs'[i]?) : Sat B ⟨S.tmps, objs'⟩ a w μ := by
  have hs : Step [] ⟨w, μ, S.objs, B.ban⟩ ⟨w, μ, objs', B.ban⟩ := by
    refine ⟨⟨fun b j v ⟨h1, h2, h3⟩ => ⟨h1, fun lk ⟨o, x, k1, k2, k3⟩ => ?_, h3⟩, fun b c t fr hb => ⟨c, fr, hb, rfl⟩⟩, fun o ⟨x, hx⟩ _ => ?_, fun _ _ _ => rfl⟩
    · have k1 : objs'[o]? = some (some x) := k1
      obtain ⟨z, e1, _, e3⟩ := RL.back (k1 ▸ h o)
      obtain ⟨lk', e4, e5⟩ := e3 lk k3
      have := h2 lk' ⟨o, z, e1, k2, e4⟩
      omega
    · have hx : S.objs[o]? = some (some x) := hx
      obtain ⟨z, hz⟩ := RL.fore (hx ▸ h o)
      exact ⟨z, hz⟩
  have := hS.go hs ⟨fun o x hx => ?_, fun o o' x x' b h1 h2 hd hd' hb hb' => ?_⟩ (fun o x b h1 hd hb => ?_) hS.kept
  · rwa [killL_nil] at this
  · have hx : objs'[o]? = some (some x) := hx
    have hR := hx ▸ h o
    generalize hz : S.objs[o]? = z at hR
    cases hR with
    | dead => trivial
    | box hh =>
      have := hS.objs.at_ o _ hz
      obtain ⟨b, fr, u, h1, h2, h3, h4, h5⟩ := this
      exact ⟨b, fr, u, h1, h2, h3, Rep.step hs h4, h5⟩
    | buf hh hh' =>
      have := hS.objs.at_ o _ hz
      obtain ⟨h0, h1⟩ := this
      exact ⟨hh' h0, h1.imp id fun ⟨b, c, fr, c1, c2, h1, h2, h3, h4, h5⟩ => ⟨b, c, fr, c1, c2, h1, h2, h3, h4, RepR.stepC hs.toStepC _ _ _ h5⟩⟩
  · obtain ⟨z, e1, e2, _⟩ := RL.back (h1 ▸ h o)
    obtain ⟨z', e3, e4, _⟩ := RL.back (h2 ▸ h o')
    exact hS.objs.inj o o' z z' b e1 e3 (fun e => hd (e2.2 e)) (fun e => hd' (e4.2 e)) hb hb'
  · obtain ⟨z, e1, e2, e3⟩ := RL.back (h1 ▸ h o)
    rcases hS.fresh o z b e1 (fun e => hd (e2.2 e)) hb with h | ⟨lk, lk', k1, k2, k3⟩
    · exact .inl h
    · obtain ⟨l, hl⟩ : ∃ l, x.lock = some l := by cases x <;> first | exact ⟨_, rfl⟩ | exact absurd rfl hd
      obtain ⟨l', e5, e6⟩ := e3 l hl
      rw [k2] at e5; cases e5
      exact .inr ⟨lk, l, k1, hl, by omega⟩
def Own.lockAll : Own → Own
  | .box t x _ => .box t x true
  | .buf t sz l lk => .buf t sz l (max lk l.length)
  | .dead => .dead
def St.lockAll (S : St) : St := ⟨S.tmps, S.objs.map (Option.map Own.lockAll)⟩
theorem Sat.lockAll {B : Base} {S : St} {a : Act} {w : World} {μ : Nat → Option Nat} (hS : Sat B S a w μ) : Sat B S.lockAll a w μ := by
  refine hS.relock fun i => ?_
  rw [List.getElem?_map]
  cases h : S.objs[i]? with
  | none => exact .none
  | some x =>
    cases x with
    | none => exact .free
    | some y =>
      cases y with
      | box t x lk => exact .box fun _ => rfl
      | buf t sz l lk => exact .buf (Nat.le_max_left _ _) (fun h => Nat.max_le.2 ⟨h, Nat.le_refl _⟩)
      | dead => exact .dead
end Go.Proofs.YtdaojihnaajfeaaX

/- Calls of functions that write rows of the caller. Of no program. -/
set_option linter.unusedVariables false
set_option linter.unusedSimpArgs false
namespace Go.Proofs.YtdaojihnaajfeaaX
open Go Go.RowKit
mutual
def refsC : T → List Nat
  | .ref o _ _ _ => [o]
  | .rsl o _ _ _ => [o]
  | .agg l => refsCL l
  | .tup l => refsCL l
  | .fn _ l => refsCL l
  | .ifc _ x => refsC x
  | .imm _ => []
  | .sl .. => []
  | .pp _ => []
  | .junk => []
def refsCL : List T → List Nat
  | [] => []
  | x :: l => refsC x ++ refsCL l
end
/-! ### Other numbers -/
mutual
def renF (f : List Nat) : T → T
  | .imm v => .imm v
  | .agg l => .agg (renFL f l)
  | .sl sz full l => .sl sz full l
  | .pp x => .pp x
  | .ref o sz i c => .ref (f.getD o 0) sz i c
  | .rsl o sz off len => .rsl (f.getD o 0) sz off len
  | .fn g caps => .fn g (renFL f caps)
  | .ifc t x => .ifc t (renF f x)
  | .tup l => .tup (renFL f l)
  | .junk => .junk
def renFL (f : List Nat) : List T → List T
  | [] => []
  | x :: l => renF f x :: renFL f l
end
theorem renFL_length (f : List Nat) : ∀ l : List T, (renFL f l).length = l.length
  | [] => rfl
  | x :: l => by rw [renFL, List.length_cons, renFL_length f l, List.length_cons]
theorem cells_renF (f : List Nat) (x : T) : (renF f x).cells.length = x.cells.length := by
  cases x <;> simp only [renF, T.cells, renFL_length] <;> rfl
mutual
theorem Rep.renF {f : List Nat} {E E' : Env} (hc : StepC E E') (hm : ∀ i, E.has i → E'.has (f.getD i 0) ∧ E'.μ (f.getD i 0) = E.μ i) : ∀ (x : T) (cl : Bool) (v : Value), Rep E cl x v → Rep E' cl (Go.Proofs.YtdaojihnaajfeaaX.renF f x) v
  | .imm u, cl, v, k => by simpa only [Go.Proofs.YtdaojihnaajfeaaX.renF, Rep] using k
  | .agg l, cl, v, k => by
    simp only [Go.Proofs.YtdaojihnaajfeaaX.renF, Rep] at k ⊢
    obtain ⟨cs, h1, h2⟩ := k
    exact ⟨cs, h1, RepL.renF hc hm l cl _ h2⟩
  | .sl sz full l, cl, v, k => by
    simp only [Go.Proofs.YtdaojihnaajfeaaX.renF, Rep] at k ⊢
    obtain ⟨A, cap, c, h1, h2, h3, h4, h5⟩ := k
    exact ⟨A, cap, c, h1, h2, (fun hf => ⟨(h3 hf).1, fun e => ((h3 hf).2 e).step hc⟩), RepR.stepC hc l sz c h4, h5.step hc⟩
  | .pp x, cl, v, k => by
    simp only [Go.Proofs.YtdaojihnaajfeaaX.renF, Rep] at k ⊢
    obtain ⟨b', o', u, h1, h2, h3⟩ := k
    exact ⟨b', o', u, h1, Rep.stepC hc x u h2, h3.step hc⟩
  | .ref o' sz i c, cl, v, k => by
    simp only [Go.Proofs.YtdaojihnaajfeaaX.renF, Rep] at k ⊢
    obtain ⟨h1, h2, b', h3, h4⟩ := k
    obtain ⟨h5, h6⟩ := hm o' h2
    exact ⟨h1, h5, b', h6.trans h3, h4⟩
  | .rsl o' sz off len, cl, v, k => by
    simp only [Go.Proofs.YtdaojihnaajfeaaX.renF, Rep] at k ⊢
    obtain ⟨h1, h2, h3⟩ := k
    obtain ⟨h5, h6⟩ := hm o' h2
    refine ⟨h1, h5, ?_⟩
    rw [h6]
    refine h3.imp (fun ⟨q1, q2, q3, A, q4⟩ => ⟨q1, q2, q3, ⟨A.1, A.2.step hc⟩, q4⟩) fun ⟨b, p, cap, c, t, fr, k1, k2, k3, k4, k5, k6⟩ => ?_
    obtain ⟨c', fr', k7, k8⟩ := hc.sz b c t fr k5
    exact ⟨b, p, cap, c', t, fr', k1, k2, k3, k4, k7, k8 ▸ k6⟩
  | .fn g caps, cl, v, k => by
    simp only [Go.Proofs.YtdaojihnaajfeaaX.renF, Rep] at k ⊢
    obtain ⟨cs, h1, h2⟩ := k
    exact ⟨cs, h1, RepL.renF hc hm caps cl _ h2⟩
  | .ifc t x, cl, v, k => by
    simp only [Go.Proofs.YtdaojihnaajfeaaX.renF, Rep] at k ⊢
    obtain ⟨u, h1, h2⟩ := k
    exact ⟨u, h1, Rep.renF hc hm x cl u h2⟩
  | .tup l, cl, v, k => by
    simp only [Go.Proofs.YtdaojihnaajfeaaX.renF, Rep] at k ⊢
    obtain ⟨cs, h1, h2⟩ := k
    exact ⟨cs, h1, RepL.renF hc hm l cl _ h2⟩
  | .junk, cl, v, k => by simp only [Go.Proofs.YtdaojihnaajfeaaX.renF, Rep]
theorem RepL.renF {f : List Nat} {E E' : Env} (hc : StepC E E') (hm : ∀ i, E.has i → E'.has (f.getD i 0) ∧ E'.μ (f.getD i 0) = E.μ i) : ∀ (l : List T) (cl : Bool) (vs : List Value), RepL E cl l vs → RepL E' cl (renFL f l) vs
  | [], cl, vs, k => by simpa only [renFL, RepL] using k
  | x :: l, cl, vs, k => by
    simp only [renFL, RepL] at k ⊢
    obtain ⟨v, vs', h1, h2, h3⟩ := k
    exact ⟨v, vs', h1, Rep.renF hc hm x cl v h2, RepL.renF hc hm l cl vs' h3⟩
end
mutual
theorem Rep.unF {f : List Nat} {E E' : Env} (hc : StepC E E') : ∀ (x : T), (∀ i ∈ refsC x, E'.has i ∧ E'.μ i = E.μ (f.getD i 0)) → ∀ (cl : Bool) (v : Value), Rep E cl (Go.Proofs.YtdaojihnaajfeaaX.renF f x) v → Rep E' cl x v
  | .imm u, hm, cl, v, k => by simpa only [Go.Proofs.YtdaojihnaajfeaaX.renF, Rep] using k
  | .agg l, hm, cl, v, k => by
    simp only [Go.Proofs.YtdaojihnaajfeaaX.renF, Rep] at k ⊢
    obtain ⟨cs, h1, h2⟩ := k
    exact ⟨cs, h1, RepL.unF hc l hm cl _ h2⟩
  | .sl sz full l, hm, cl, v, k => by
    simp only [Go.Proofs.YtdaojihnaajfeaaX.renF, Rep] at k ⊢
    obtain ⟨A, cap, c, h1, h2, h3, h4, h5⟩ := k
    exact ⟨A, cap, c, h1, h2, (fun hf => ⟨(h3 hf).1, fun e => ((h3 hf).2 e).step hc⟩), RepR.stepC hc l sz c h4, h5.step hc⟩
  | .pp x, hm, cl, v, k => by
    simp only [Go.Proofs.YtdaojihnaajfeaaX.renF, Rep] at k ⊢
    obtain ⟨b', o', u, h1, h2, h3⟩ := k
    exact ⟨b', o', u, h1, Rep.stepC hc x u h2, h3.step hc⟩
  | .ref o' sz i c, hm, cl, v, k => by
    simp only [Go.Proofs.YtdaojihnaajfeaaX.renF, Rep] at k ⊢
    obtain ⟨h1, h2, b', h3, h4⟩ := k
    obtain ⟨h5, h6⟩ := hm o' (by simp [refsC])
    exact ⟨h1, h5, b', h6.trans h3, h4⟩
  | .rsl o' sz off len, hm, cl, v, k => by
    simp only [Go.Proofs.YtdaojihnaajfeaaX.renF, Rep] at k ⊢
    obtain ⟨h1, h2, h3⟩ := k
    obtain ⟨h5, h6⟩ := hm o' (by simp [refsC])
    refine ⟨h1, h5, ?_⟩
    rw [h6]
    refine h3.imp (fun ⟨q1, q2, q3, A, q4⟩ => ⟨q1, q2, q3, ⟨A.1, A.2.step hc⟩, q4⟩) fun ⟨b, p, cap, c, t, fr, k1, k2, k3, k4, k5, k6⟩ => ?_
    obtain ⟨c', fr', k7, k8⟩ := hc.sz b c t fr k5
    exact ⟨b, p, cap, c', t, fr', k1, k2, k3, k4, k7, k8 ▸ k6⟩
  | .fn g caps, hm, cl, v, k => by
    simp only [Go.Proofs.YtdaojihnaajfeaaX.renF, Rep] at k ⊢
    obtain ⟨cs, h1, h2⟩ := k
    exact ⟨cs, h1, RepL.unF hc caps hm cl _ h2⟩
  | .ifc t x, hm, cl, v, k => by
    simp only [Go.Proofs.YtdaojihnaajfeaaX.renF, Rep] at k ⊢
    obtain ⟨u, h1, h2⟩ := k
    exact ⟨u, h1, Rep.unF hc x hm cl u h2⟩
  | .tup l, hm, cl, v, k => by
    simp only [Go.Proofs.YtdaojihnaajfeaaX.renF, Rep] at k ⊢
    obtain ⟨cs, h1, h2⟩ := k
    exact ⟨cs, h1, RepL.unF hc l hm cl _ h2⟩
  | .junk, hm, cl, v, k => by simp only [Rep]
theorem RepL.unF {f : List Nat} {E E' : Env} (hc : StepC E E') : ∀ (l : List T), (∀ i ∈ refsCL l, E'.has i ∧ E'.μ i = E.μ (f.getD i 0)) → ∀ (cl : Bool) (vs : List Value), RepL E cl (renFL f l) vs → RepL E' cl l vs
  | [], hm, cl, vs, k => by simpa only [renFL, RepL] using k
  | x :: l, hm, cl, vs, k => by
    simp only [renFL, RepL] at k ⊢
    obtain ⟨v, vs', h1, h2, h3⟩ := k
    exact ⟨v, vs', h1, Rep.unF hc x (fun i hi => hm i (by simp [refsCL, hi])) cl v h2, RepL.unF hc l (fun i hi => hm i (by simp [refsCL, hi])) cl vs' h3⟩
end
/-! ### What is handed over -/
def rowsOk (n : Nat) : Nat → List (Option Own) → Bool
  | _, [] => true
  | i, some (.box t x false) :: l => (t / tagM == i + 1) && (refsC x).all (fun o => decide (o < n)) && rowsOk n (i + 1) l
  | i, some (.buf _ _ _ 0) :: l => rowsOk n (i + 1) l
  | _, _ => false
theorem rowsOk_get {n : Nat} : ∀ (l : List (Option Own)) (i : Nat), rowsOk n i l = true → ∀ (j : Nat) (y : Option Own), l[j]? = some y →
    (∃ t x, y = some (.box t x false) ∧ t / tagM = i + j + 1 ∧ ∀ o ∈ refsC x, o < n) ∨ (∃ t sz xs, y = some (.buf t sz xs 0))
  | [], i, h, j, y, hj => by simp at hj
  | some (.box t x false) :: l, i, h, 0, y, hj => by
    simp only [rowsOk, Bool.and_eq_true, beq_iff_eq, List.all_eq_true, decide_eq_true_eq] at h
    simp only [List.getElem?_cons_zero, Option.some.injEq] at hj
    exact .inl ⟨t, x, hj.symm, h.1.1, h.1.2⟩
  | some (.box t x false) :: l, i, h, j + 1, y, hj => by
    simp only [rowsOk, Bool.and_eq_true] at h
    rcases rowsOk_get l (i + 1) h.2 j y (by simpa using hj) with ⟨t, x, h1, h2, h3⟩ | h1
    · exact .inl ⟨t, x, h1, h2.trans (show (i + 1 + j + 1 : Nat) = i + (j + 1) + 1 by omega), h3⟩
    · exact .inr h1
  | some (.buf t sz xs 0) :: l, i, h, 0, y, hj => by
    simp only [List.getElem?_cons_zero, Option.some.injEq] at hj
    exact .inr ⟨t, sz, xs, hj.symm⟩
  | some (.buf t sz xs 0) :: l, i, h, j + 1, y, hj => by
    simp only [rowsOk] at h
    rcases rowsOk_get l (i + 1) h j y (by simpa using hj) with ⟨t, x, h1, h2, h3⟩ | h1
    · exact .inl ⟨t, x, h1, h2.trans (show (i + 1 + j + 1 : Nat) = i + (j + 1) + 1 by omega), h3⟩
    · exact .inr h1
  | none :: l, i, h, j, y, hj => by simp [rowsOk] at h
  | some .dead :: l, i, h, j, y, hj => by simp [rowsOk] at h
  | some (.box t x true) :: l, i, h, j, y, hj => by simp [rowsOk] at h
  | some (.buf t sz xs (k + 1)) :: l, i, h, j, y, hj => by simp [rowsOk] at h
def sameO : List (Option Own) → List (Option Own) → Bool
  | [], [] => true
  | some (.box t _ _) :: l, some (.box t' _ false) :: l' => t == t' && sameO l l'
  | some (.buf _ _ _ _) :: l, some (.buf _ _ _ _) :: l' => sameO l l'
  | some (.buf _ _ _ _) :: l, some .dead :: l' => sameO l l'
  | _, _ => false
def sameR (x x' : Option Own) : Prop := (∃ t y z, x = some (.box t y false) ∧ x' = some (.box t z false)) ∨ ((∃ t sz l, x = some (.buf t sz l 0)) ∧ ((∃ t sz l lk, x' = some (.buf t sz l lk)) ∨ x' = some .dead))
theorem sameO_len : ∀ (l l' : List (Option Own)), sameO l l' = true → l'.length = l.length := by
  intro l
  induction l with
  | nil => intro l' h; cases l' <;> simp [sameO] at h ⊢
  | cons x l ih =>
    intro l' h
    cases l' with
    | nil => cases x with
      | none => simp [sameO] at h
      | some x => cases x <;> simp [sameO] at h
    | cons x' l' =>
      cases x with
      | none => simp [sameO] at h
      | some x =>
        cases x' with
        | none => cases x <;> simp [sameO] at h
        | some x' =>
          cases x <;> cases x' <;> (try simp [sameO] at h)
          · rename_i t x lk t' x' lk'
            cases lk' with
            | true => simp [sameO] at h
            | false =>
              simp only [sameO, Bool.and_eq_true] at h
              simp [ih _ h.2]
          · simp [ih _ h]
          · simp [ih _ h]
theorem sameO_get {n : Nat} : ∀ (l l' : List (Option Own)) (k : Nat), rowsOk n k l = true → sameO l l' = true → ∀ (i : Nat) (x' : Option Own), l'[i]? = some x' → ∃ x, l[i]? = some x ∧ sameR x x' := by
  intro l
  induction l with
  | nil => intro l' k _ h i x' hi; cases l' <;> simp [sameO] at h; simp at hi
  | cons x l ih =>
    intro l' k hk h i x' hi
    have h0 := rowsOk_get (x :: l) k hk 0 x rfl
    have htl : ∃ k', rowsOk n k' l = true := by
      rcases h0 with ⟨t, y, rfl, _, _⟩ | ⟨t, sz, xs, rfl⟩
      · simp only [rowsOk, Bool.and_eq_true] at hk; exact ⟨_, hk.2⟩
      · simp only [rowsOk] at hk; exact ⟨_, hk⟩
    obtain ⟨k', hk'⟩ := htl
    cases l' with
    | nil => simp at hi
    | cons z l' =>
      rcases h0 with ⟨t, y, rfl, _, _⟩ | ⟨t, sz, xs, rfl⟩
      · cases z with
        | none => simp [sameO] at h
        | some z =>
          cases z <;> (try simp [sameO] at h)
          rename_i t' x'' lk'
          cases lk' with
          | true => simp [sameO] at h
          | false =>
          simp only [sameO, Bool.and_eq_true, beq_iff_eq] at h
          obtain ⟨rfl, h⟩ := h
          cases i with
          | zero => simp at hi; subst hi; exact ⟨_, rfl, .inl ⟨t, y, x'', rfl, rfl⟩⟩
          | succ i => simpa using ih l' k' hk' h i x' (by simpa using hi)
      · cases z with
        | none => simp [sameO] at h
        | some z =>
          cases z <;> simp [sameO] at h
          · cases i with
            | zero => simp at hi; subst hi; exact ⟨_, rfl, .inr ⟨⟨_, _, _, rfl⟩, .inl ⟨_, _, _, _, rfl⟩⟩⟩
            | succ i => simpa using ih l' k' hk' h i x' (by simpa using hi)
          · cases i with
            | zero => simp at hi; subst hi; exact ⟨_, rfl, .inr ⟨⟨_, _, _, rfl⟩, .inr rfl⟩⟩
            | succ i => simpa using ih l' k' hk' h i x' (by simpa using hi)
def OwnsR (B : Base) (μ : Nat → Option Nat) (n : Nat) : Prop := (∀ k lk, B.own k lk ↔ lk = 0 ∧ ∃ o, o < n ∧ μ o = some k) ∧ (∀ t b, B.ban.pin t b ↔ μ (t / tagM - 1) = some b)
def FnR (P : Program) (f : FuncId) (objs : List (Option Own)) (args : List T) (res : T) (objs' : List (Option Own)) : Prop :=
  enters P f ∧ rowsOk objs.length 0 objs = true ∧ sameO objs objs' = true ∧ (refsCL args).all (fun o => decide (o < objs.length)) = true ∧
  ∀ (B : Base) (μ : Nat → Option Nat) (vs : Array Value), Objs ⟨B.w, μ, objs, B.ban⟩ → OwnsR B μ objs.length → RepL ⟨B.w, μ, objs, B.ban⟩ false args vs.toList →
    Calls P f vs B.w fun e w' => ∃ u μ', e = .returned u ∧ Objs ⟨w', μ', objs', B.ban⟩ ∧ Rep ⟨w', μ', objs', B.ban⟩ false res u ∧ Kept B w' ∧
      (∀ (o : Nat) (x : Own) (b : Nat), objs'[o]? = some (some x) → x ≠ .dead → μ' o = some b → B.w.heap.size ≤ b ∨ B.own b 0)
def newO (f : List Nat) (y x' : Option Own) : Own :=
  match y, x' with
  | some (.box t _ _), some (.box _ x lk) => .box t (renF f x) lk
  | _, some (.buf t sz l lk) => .buf t sz l lk
  | _, _ => .dead
def relO (f : List Nat) (y x : Option Own) : Prop :=
  match y, x with
  | some (.box t0 y false), some (.box t x false) => t0 % tagM = t % tagM ∧ (∀ (E : Env) (v : Value), Rep E false y v → Rep E false (renF f x) v) ∧ y.cells.length = x.cells.length
  | some (.buf t sz l 0), some (.buf t' sz' l' 0) => t = t' ∧ sz = sz' ∧ l = l'
  | _, _ => False
def relsO (f : List Nat) (look : Nat → Option Own) : List Nat → List (Option Own) → Prop
  | [], [] => True
  | o :: os, x :: xs => relO f (look o) x ∧ relsO f look os xs
  | _, _ => False
def newsO (f : List Nat) (look : Nat → Option Own) : List Nat → List (Option Own) → List (Nat × Own)
  | o :: os, x :: xs => (o, newO f (look o) x) :: newsO f look os xs
  | _, _ => []
def movesO : List Nat → List (Option Own) → List Nat
  | o :: os, some (.box ..) :: xs => movesO os xs
  | o :: os, _ :: xs => o :: movesO os xs
  | _, _ => []
theorem relsO_get {f : List Nat} {look : Nat → Option Own} : ∀ (os : List Nat) (xs : List (Option Own)), relsO f look os xs → os.length = xs.length ∧ ∀ (i : Nat) (x : Option Own), xs[i]? = some x → relO f (look (os.getD i 0)) x
  | [], [], _ => ⟨rfl, fun i x h => by simp at h⟩
  | [], _ :: _, h => h.elim
  | _ :: _, [], h => h.elim
  | o :: os, x :: xs, h => by
    obtain ⟨h1, h2⟩ := relsO_get os xs h.2
    refine ⟨by simp [h1], fun i z hi => ?_⟩
    cases i with
    | zero => simp at hi; subst hi; exact h.1
    | succ i => simpa using h2 i z (by simpa using hi)
theorem newsO_fst {f : List Nat} {look : Nat → Option Own} : ∀ (os : List Nat) (xs : List (Option Own)) (p : Nat × Own), p ∈ newsO f look os xs → p.1 ∈ os
  | [], xs, p, h => by cases xs <;> simp [newsO] at h
  | o :: os, [], p, h => by simp [newsO] at h
  | o :: os, x :: xs, p, h => by
    simp only [newsO, List.mem_cons] at h
    rcases h with rfl | h
    · simp
    · simp [newsO_fst os xs p h]
theorem setsO_out : ∀ (l : List (Nat × Own)) (O : List (Option Own)) (o : Nat), (∀ p ∈ l, p.1 ≠ o) → (setsO l O)[o]? = O[o]?
  | [], O, o, h => rfl
  | (i, x) :: l, O, o, h => by
    rw [setsO, setsO_out l _ o fun p hp => h p (by simp [hp]), List.getElem?_set, if_neg (h (i, x) (by simp))]
theorem newsO_get {f : List Nat} {look : Nat → Option Own} : ∀ (os : List Nat) (xs : List (Option Own)) (O : List (Option Own)), os.Nodup → os.length = xs.length → (∀ o ∈ os, o < O.length) → ∀ (i : Nat) (x : Option Own), xs[i]? = some x →
    (setsO (newsO f look os xs) O)[os.getD i 0]? = some (some (newO f (look (os.getD i 0)) x))
  | [], [], O, _, _, _, i, x, h => by simp at h
  | o :: os, [], O, _, hl, _, i, x, h => by simp at h
  | [], x :: xs, O, _, hl, _, i, z, h => by simp at hl
  | o :: os, x :: xs, O, hn, hl, hO, i, z, h => by
    rw [List.nodup_cons] at hn
    cases i with
    | zero =>
      simp at h; subst h
      rw [newsO, setsO, setsO_out _ _ _ fun p hp e => hn.1 (by have := newsO_fst _ _ p hp; rw [e] at this; simpa using this), List.getElem?_set]
      simp [hO o (by simp)]
    | succ i =>
      rw [newsO, setsO]
      simpa using newsO_get os xs (O.set o (some (newO f (look o) x))) hn.2 (by simpa using hl) (fun q hq => by simpa using hO q (by simp [hq])) i z (by simpa using h)
theorem movesO_in : ∀ (os : List Nat) (xs : List (Option Own)) (i : Nat) (x : Option Own), xs[i]? = some x → i < os.length → (∀ t y lk, x ≠ some (.box t y lk)) → os.getD i 0 ∈ movesO os xs
  | [], xs, i, x, h, hi, _ => by simp at hi
  | q :: os, [], i, x, h, hi, _ => by simp at h
  | q :: os, z :: xs, i, x, h, hi, hx => by
    cases i with
    | zero =>
      simp at h; subst h
      cases z with
      | none => simp [movesO]
      | some z => cases z with
        | box t y lk => exact absurd rfl (hx t y lk)
        | _ => simp [movesO]
    | succ i =>
      have := movesO_in os xs i x (by simpa using h) (by simpa using hi) hx
      cases z with
      | none => simp [movesO]; exact .inr (by simpa using this)
      | some z => cases z with
        | box t y lk => simpa [movesO] using this
        | _ => simp [movesO]; exact .inr (by simpa using this)
end Go.Proofs.YtdaojihnaajfeaaX

/- The call of a function that writes rows of the caller. Of no program. -/
set_option linter.unusedVariables false
set_option linter.unusedSimpArgs false
namespace Go.Proofs.YtdaojihnaajfeaaX
open Go Go.RowKit
theorem nodup_inj {l : List Nat} (hn : l.Nodup) {i j : Nat} (hi : i < l.length) (hj : j < l.length) (h : l.getD i 0 = l.getD j 0) : i = j := by
  rw [List.getD_eq_getElem?_getD, List.getD_eq_getElem?_getD, List.getElem?_eq_getElem hi, List.getElem?_eq_getElem hj] at h
  exact (List.getElem_inj hn).1 (by simpa using h)
theorem mem_getD {l : List Nat} {i : Nat} (hi : i < l.length) : l.getD i 0 ∈ l := by
  rw [List.getD_eq_getElem?_getD, List.getElem?_eq_getElem hi]; exact List.getElem_mem hi
theorem getD_mem {l : List Nat} {o : Nat} (h : o ∈ l) : ∃ i, i < l.length ∧ l.getD i 0 = o := by
  obtain ⟨i, hi, h⟩ := List.mem_iff_getElem.1 h
  exact ⟨i, hi, by rw [List.getD_eq_getElem?_getD, List.getElem?_eq_getElem hi]; exact h⟩
theorem idx_getD {l : List Nat} (hn : l.Nodup) {i : Nat} (hi : i < l.length) : l.idxOf (l.getD i 0) = i := by
  have h := mem_getD hi
  have h1 := List.idxOf_lt_length_of_mem h
  refine nodup_inj hn h1 hi ?_
  rw [List.getD_eq_getElem?_getD, List.getElem?_eq_getElem h1]
  exact List.getElem_idxOf h1
theorem relO_cases {f : List Nat} {y : Own} {x : Option Own} (h : relO f (some y) x) : (∃ t0 y0 t x0, y = .box t0 y0 false ∧ x = some (.box t x0 false) ∧ t0 % tagM = t % tagM ∧ (∀ (E : Env) (v : Value), Rep E false y0 v → Rep E false (renF f x0) v) ∧ y0.cells.length = x0.cells.length) ∨ (∃ t sz l, y = .buf t sz l 0 ∧ x = some (.buf t sz l 0)) := by
  cases y with
  | dead => exact h.elim
  | box t0 y0 lk =>
    cases lk with
    | true => exact h.elim
    | false =>
      cases x with
      | none => exact h.elim
      | some x => cases x with
        | dead => exact h.elim
        | buf t sz l lk => exact h.elim
        | box t x0 lk => cases lk with
          | true => exact h.elim
          | false => exact .inl ⟨t0, y0, t, x0, rfl, rfl, h⟩
  | buf t sz l lk =>
    cases lk with
    | succ n => exact h.elim
    | zero =>
      cases x with
      | none => exact h.elim
      | some x => cases x with
        | dead => exact h.elim
        | box t x0 lk => exact h.elim
        | buf t' sz' l' lk => cases lk with
          | succ n => exact h.elim
          | zero =>
            obtain ⟨rfl, rfl, rfl⟩ := h
            exact .inr ⟨t, sz, l, rfl, rfl⟩
theorem newO_lock {f : List Nat} {y x x' : Option Own} (hr : relO f y x) (hs : sameR x x') : ∃ z, x' = some z ∧ (newO f y x').lock = z.lock ∧ (newO f y x' = .dead ↔ z = .dead) := by
  rcases hs with ⟨t, p, q, rfl, rfl⟩ | ⟨⟨t, sz, l, rfl⟩, ⟨t', sz', l', lk, rfl⟩ | rfl⟩
  · refine ⟨_, rfl, ?_⟩
    cases y with
    | none => exact hr.elim
    | some y =>
      rcases relO_cases hr with ⟨t0, y0, t1, x0, rfl, e, _⟩ | ⟨_, _, _, _, e⟩
      · simp [newO, Own.lock, cells_renF]
      · cases e
  · refine ⟨_, rfl, ?_⟩
    unfold newO
    split
    · rename_i h; cases h
    · rename_i h; cases h; simp
    · rename_i h1 h2; first | exact absurd rfl (h1 t' sz' l' lk) | exact absurd rfl (h2 t' sz' l' lk)
  · refine ⟨_, rfl, ?_⟩
    unfold newO
    split
    · rename_i h; cases h
    · rename_i h; cases h
    · simp [Own.lock]
set_option maxHeartbeats 2000000 in
theorem callR_sound {P : Program} {B : Base} {S : St} {a : Act} {w : World} {μ : Nat → Option Nat} {g : FuncId} {look : Nat → Option Own} {σ : List Nat} {objs objs' : List (Option Own)} {args' : List T} {res : T} {vs : Array Value} (k : Nat)
    (hS : Sat B S a w μ) (hl : ∀ i x, look i = some x → S.objs[i]? = some (some x)) (hF : FnR P g objs args' res objs') (hnd : σ.Nodup) (hrel : relsO σ look σ objs)
    (hargs : RepL ⟨w, μ, S.objs, B.ban⟩ false (renFL σ args') vs.toList) :
    Calls P g vs w fun e w' => ∃ u, e = .returned u ∧ ∃ μ', Sat B (S.eff k (.many (movesO σ objs) (newsO σ look σ objs'))) a w' μ' ∧
      Rep ⟨w', μ', (S.eff k (.many (movesO σ objs) (newsO σ look σ objs'))).objs, B.ban⟩ false (renF σ res) u := by
  obtain ⟨_, hrows, hsame, hrefs, hF⟩ := hF
  obtain ⟨hlen, hrel⟩ := relsO_get σ objs hrel
  have hlen' := sameO_len objs objs' hsame
  have hsg : ∀ (i : Nat) (x' : Option Own), objs'[i]? = some x' → ∃ x, objs[i]? = some x ∧ sameR x x' := fun i x' h => sameO_get objs objs' 0 hrows hsame i x' h
  have hrg := rowsOk_get objs 0 hrows
  -- the caller's rows that are handed over
  have own0 : ∀ i, i < objs.length → ∃ x y, objs[i]? = some x ∧ look (σ.getD i 0) = some y ∧ S.objs[σ.getD i 0]? = some (some y) ∧ relO σ (some y) x ∧ y ≠ .dead ∧ y.lock = some 0 := by
    intro i hi
    obtain ⟨x, hx⟩ : ∃ x, objs[i]? = some x := ⟨_, List.getElem?_eq_getElem hi⟩
    have hr := hrel i x hx
    cases hy : look (σ.getD i 0) with
    | none => rw [hy] at hr; exact hr.elim
    | some y =>
      refine ⟨x, y, hx, rfl, hl _ _ hy, hy ▸ hr, ?_, ?_⟩
      · intro e; rw [hy, e] at hr; exact hr.elim
      · rw [hy] at hr
        rcases relO_cases hr with ⟨t0, y0, t1, x0, rfl, _⟩ | ⟨_, _, _, rfl, _⟩ <;> simp [Own.lock]
  have hlt : ∀ i, i < objs.length → ∀ b, μ (σ.getD i 0) = some b → b < w.heap.size := fun i hi b hb => by
    obtain ⟨x, y, _, _, h3, _, h5, _⟩ := own0 i hi
    exact Own.lt hS h3 h5 hb
  let μc : Nat → Option Nat := fun i => if i < objs.length then μ (σ.getD i 0) else none
  have μc_in : ∀ i, i < objs.length → μc i = μ (σ.getD i 0) := fun i hi => if_pos hi
  have inj0 : ∀ (o : Nat) (x : Own) (b i : Nat), S.objs[o]? = some (some x) → x ≠ .dead → μ o = some b → i < objs.length → μc i = some b → o = σ.getD i 0 := by
    intro o x b i h1 h2 h3 h4 h5
    obtain ⟨_, y, _, _, k3, _, k5, _⟩ := own0 i h4
    rw [μc_in i h4] at h5
    exact hS.objs.inj _ _ _ _ b h1 k3 h2 k5 h3 h5
  let B' : Base := {
    w := w
    own := fun k lk => lk = 0 ∧ ∃ o, o < objs.length ∧ μc o = some k
    lt := fun k lk ⟨_, o, h1, h2⟩ => hlt o h1 k ((μc_in o h1).symm.trans h2)
    one := fun k lk lk' ⟨h1, _⟩ ⟨h2, _⟩ => h1.trans h2.symm
    zero := fun k lk h => h.1
    ban := ⟨fun b j => B.ban b j ∨ ∃ o x lk, S.objs[o]? = some (some x) ∧ o ∉ σ ∧ μ o = some b ∧ x.lock = some lk ∧ ¬ j < lk, fun t b => μc (t / tagM - 1) = some b⟩
    banlt := by
      rintro b j (h | ⟨o, x, lk, h1, _, h3, h4, _⟩)
      · exact Nat.lt_of_lt_of_le (B.banlt b j h) hS.kept.size
      · exact Own.lt hS h1 (fun e => by subst e; cases h4) h3
    banown := by
      rintro b lk ⟨_, o, h1, h2⟩ j (h | ⟨o', x, lk', h3, h4, h5, h6, _⟩)
      · obtain ⟨x, y, _, _, k3, _, k5, k6⟩ := own0 o h1
        rcases hS.fresh _ y b k3 k5 ((μc_in o h1).symm.trans h2) with q | ⟨lk1, lk2, q1, _⟩
        · have := B.banlt b j h; omega
        · exact B.banown b lk1 q1 j h
      · have := inj0 o' x b o h3 (fun e => by subst e; cases h6) h5 h1 h2
        exact h4 (this ▸ mem_getD (by omega))
    gi := hS.kept.gi
    giown := by
      rintro g hg lk ⟨_, o, h1, h2⟩
      obtain ⟨x, y, _, _, k3, _, k5, k6⟩ := own0 o h1
      obtain ⟨m, hm⟩ := B.gi g hg
      rcases hS.fresh _ y g k3 k5 ((μc_in o h1).symm.trans h2) with q | ⟨lk1, lk2, q1, _⟩
      · have := cell_lt hm; omega
      · exact B.giown g hg lk1 q1 }
  have hown : OwnsR B' μc objs.length := ⟨fun k lk => Iff.rfl, fun t b => Iff.rfl⟩
  -- from the caller's side to the other
  have hin : StepC ⟨w, μ, S.objs, B.ban⟩ ⟨w, μc, objs, B'.ban⟩ := by
    refine ⟨fun b j v ⟨h1, h2, h3⟩ => ⟨h1, fun lk ⟨i, x, k1, k2, k3⟩ => ?_, fun h => ?_⟩, fun b c t fr h => ⟨c, fr, h, rfl⟩⟩
    · have hi : i < objs.length := (List.getElem?_eq_some_iff.1 (show objs[i]? = some (some x) from k1)).1
      obtain ⟨_, y, _, _, q3, _, _, q6⟩ := own0 i hi
      have := h2 0 ⟨_, y, q3, (μc_in i hi).symm.trans k2, q6⟩
      omega
    · rcases h with h | ⟨o, x, lk, q1, _, q3, q4, q5⟩
      · exact h3 h
      · exact q5 (h2 lk ⟨o, x, q1, q3, q4⟩)
  have hhas : ∀ i, i < objs.length → (⟨w, μc, objs, B'.ban⟩ : Env).has i ∧ μc i = μ (σ.getD i 0) := by
    intro i hi
    refine ⟨?_, μc_in i hi⟩
    rcases hrg i _ (List.getElem?_eq_getElem hi) with ⟨t, x, h1, _⟩ | ⟨t, sz, l, h1⟩
    · exact ⟨_, by show objs[i]? = _; rw [List.getElem?_eq_getElem hi, h1]⟩
    · exact ⟨_, by show objs[i]? = _; rw [List.getElem?_eq_getElem hi, h1]⟩
  have hA : RepL ⟨w, μc, objs, B'.ban⟩ false args' vs.toList := RepL.unF hin args' (fun i hi => hhas i (by
    rw [List.all_eq_true] at hrefs; simpa using hrefs i hi)) false _ hargs
  have hO : Objs ⟨w, μc, objs, B'.ban⟩ := by
    refine ⟨fun i x hx => ?_, fun i i' x x' b h1 h2 _ _ h5 h6 => ?_⟩
    · have hx : objs[i]? = some (some x) := hx
      have hi := (List.getElem?_eq_some_iff.1 hx).1
      obtain ⟨x0, y, q1, q2, q3, q4, q5, q6⟩ := own0 i hi
      rw [hx] at q1; cases q1
      have hat := hS.objs.at_ _ _ q3
      rcases relO_cases q4 with ⟨t0, y0, t1, z1, rfl, e0, r1, r2, r3⟩ | ⟨t, sz, l, rfl, e0⟩
      · cases e0
        rcases hrg i _ hx with ⟨t, z, e1, e2, e3⟩ | ⟨t, sz, l, e1⟩
        · cases e1
          obtain ⟨b, fr, u, p1, p2, p3, p4, p5, p6⟩ := hat
          refine ⟨b, fr, u, (μc_in i hi).trans p1, by rw [← r1]; exact p2, p3, Rep.unF hin z1 (fun j hj => hhas j (e3 j hj)) false u (r2 _ _ p4), r3.symm.trans p5, fun _ => ?_⟩
          show μc (t1 / tagM - 1) = some b
          rw [e2, show 0 + i + 1 - 1 = i by omega]
          exact (μc_in i hi).trans p1
        · cases e1
      · cases e0
        obtain ⟨p0, p1⟩ := hat
        exact ⟨p0, p1.imp (fun h => ⟨(μc_in i hi).trans h.1, h.2⟩) fun ⟨b, c, fr, c1, c2, g1, g2, g3, g4, g5⟩ => ⟨b, c, fr, c1, c2, (μc_in i hi).trans g1, g2, g3, g4, RepR.stepC hin _ _ _ g5⟩⟩
    · have h1 : objs[i]? = some (some x) := h1
      have h2 : objs[i']? = some (some x') := h2
      have hi := (List.getElem?_eq_some_iff.1 h1).1
      have hi' := (List.getElem?_eq_some_iff.1 h2).1
      obtain ⟨_, y, _, _, q3, _, q5, _⟩ := own0 i hi
      have := inj0 _ y b i' q3 q5 ((μc_in i hi).symm.trans h5) hi' h6
      exact nodup_inj hnd (by omega) (by omega) this
  refine (hF B' μc vs hO hown hA).mono fun e w' ⟨u, μ1, he, hO', hr, hk, hfr⟩ => ⟨u, he, ?_⟩
  -- boxes stay where they are
  have hbox : ∀ i, i < objs.length → ∀ t y, objs[i]? = some (some (.box t y false)) → μ1 i = μc i := by
    intro i hi t y hx
    obtain ⟨x', hx'⟩ : ∃ x', objs'[i]? = some x' := ⟨_, List.getElem?_eq_getElem (by omega)⟩
    obtain ⟨x0, e0, hs⟩ := hsg i x' hx'
    rw [hx] at e0; cases e0
    rcases hs with ⟨t', p, q, e1, rfl⟩ | ⟨⟨_, _, _, e1⟩, _⟩
    · cases e1
      obtain ⟨b, fr, v, p1, p2, p3, p4, p5, p6⟩ := hO'.at_ i _ hx'
      have htag : t / tagM = i + 1 := by
        rcases hrg i _ hx with ⟨t2, z2, e1, e2, _⟩ | ⟨_, _, _, e1⟩
        · cases e1; exact e2.trans (show (0 + i + 1 : Nat) = i + 1 by omega)
        · cases e1
      have hpin : μc (t / tagM - 1) = some b := p6 (by
        rcases Nat.lt_or_ge t tagM with h | h
        · rw [Nat.div_eq_of_lt h] at htag; cases htag
        · exact h)
      rw [htag, show i + 1 - 1 = i by omega] at hpin
      exact (show μ1 i = some b from p1).trans hpin.symm
    · cases e1
  generalize hks : movesO σ objs = ks
  let μ' : Nat → Option Nat := fun o => if o ∈ σ then μ1 (σ.idxOf o) else μ o
  have μ'_in : ∀ i, i < objs.length → μ' (σ.getD i 0) = μ1 i := fun i hi => by
    show (if _ then _ else _) = _
    rw [if_pos (mem_getD (by omega)), idx_getD hnd (by omega)]
  have μ'_out : ∀ o, o ∉ σ → μ' o = μ o := fun o ho => if_neg ho
  have hσlt : ∀ o ∈ σ, o < (S.objs.map (Option.map (Own.kill ks))).length := fun o ho => by
    obtain ⟨i, hi, rfl⟩ := getD_mem ho
    obtain ⟨_, y, _, _, q3, _⟩ := own0 i (by omega)
    simpa using (List.getElem?_eq_some_iff.1 q3).1
  generalize hO2 : setsO (newsO σ look σ objs') (S.objs.map (Option.map (Own.kill ks))) = O2
  have get_in : ∀ i x', objs'[i]? = some x' → O2[σ.getD i 0]? = some (some (newO σ (look (σ.getD i 0)) x')) := fun i x' h => by
    rw [← hO2]; exact newsO_get σ objs' _ hnd (by omega) hσlt i x' h
  have get_out : ∀ o, o ∉ σ → O2[o]? = (S.objs[o]?).map (Option.map (Own.kill ks)) := fun o ho => by
    rw [← hO2, setsO_out _ _ _ (fun p hp e => ho (by rw [← e]; exact newsO_fst _ _ p hp)), List.getElem?_map]
  -- what stands in the new list
  have back : ∀ o z, O2[o]? = some (some z) → (∃ i x', i < objs.length ∧ o = σ.getD i 0 ∧ objs'[i]? = some (some x') ∧ z = newO σ (look (σ.getD i 0)) (some x') ∧ z.lock = x'.lock ∧ (z = .dead ↔ x' = .dead)) ∨ (o ∉ σ ∧ ∃ x, S.objs[o]? = some (some x) ∧ z = x.kill ks) := by
    intro o z hz
    by_cases ho : o ∈ σ
    · obtain ⟨i, hi, rfl⟩ := getD_mem ho
      have hi' : i < objs.length := by omega
      obtain ⟨x', hx'⟩ : ∃ x', objs'[i]? = some x' := ⟨_, List.getElem?_eq_getElem (by omega)⟩
      rw [get_in i x' hx'] at hz
      injection hz with hz; injection hz with hz
      obtain ⟨x0, e0, hs⟩ := hsg i x' hx'
      obtain ⟨zz, rfl, l1, l2⟩ := newO_lock (hrel i x0 e0) hs
      exact .inl ⟨i, zz, hi', rfl, hx', hz.symm, hz ▸ l1, hz ▸ l2⟩
    · rw [get_out o ho] at hz
      cases hx : S.objs[o]? with
      | none => rw [hx] at hz; cases hz
      | some x =>
        rw [hx] at hz
        cases x with
        | none => cases hz
        | some x =>
          have hz : some (some (x.kill ks)) = some (some z) := hz
          injection hz with hz; injection hz with hz
          exact .inr ⟨ho, x, rfl, hz.symm⟩
  -- blocks that were not handed over stay
  have blk : ∀ b, b < w.heap.size → (∀ i, i < objs.length → μc i ≠ some b) → w'.heap[b]? = w.heap[b]? := fun b hb hn => hk.block b hb fun lk ⟨_, o, h1, h2⟩ => hn o h1 h2
  have notown : ∀ b j v, (⟨w, μ, S.objs, B.ban⟩ : Env).pc b j v → ∀ i, i < objs.length → μc i ≠ some b := by
    intro b j v ⟨_, h2, _⟩ i hi e
    obtain ⟨_, y, _, _, q3, _, _, q6⟩ := own0 i hi
    have := h2 0 ⟨_, y, q3, (μc_in i hi).symm.trans e, q6⟩
    omega
  have hst : Step ks ⟨w, μ, S.objs, B.ban⟩ ⟨w', μ', O2, B.ban⟩ := by
    refine ⟨⟨fun b j v hpc => ⟨?_, fun lk ⟨o, z, k1, k2, k3⟩ => ?_, hpc.2.2⟩, fun b c t fr hb => ?_⟩, fun o ⟨x, hx⟩ ho => ?_, fun o ⟨x, hx⟩ ho => ?_⟩
    · exact (cell_of_block (blk b (cell_lt hpc.1) (notown b j v hpc))).trans hpc.1
    · rcases back o z k1 with ⟨i, x', hi, rfl, h2, h3, h4, h5⟩ | ⟨ho, x, h2, rfl⟩
      · have hb : μ1 i = some b := (μ'_in i hi).symm.trans k2
        rcases hfr i x' b h2 (fun e => by rw [h4, e] at k3; cases k3) hb with q | ⟨_, o2, q1, q2⟩
        · have : b < w.heap.size := cell_lt hpc.1
          have q : w.heap.size ≤ b := q
          omega
        · exact absurd q2 (notown b j v hpc o2 q1)
      · rw [Own.kill_lock] at k3
        exact hpc.2.1 lk ⟨o, x, h2, (μ'_out o ho).symm.trans k2, k3⟩
    · by_cases hq : ∃ i, i < objs.length ∧ μc i = some b
      · exact hk.rows b 0 ⟨rfl, hq⟩ c t fr hb
      · exact ⟨c, fr, (blk b (Array.getElem?_eq_some_iff.1 hb).1 fun i hi e => hq ⟨i, hi, e⟩).trans hb, rfl⟩
    · by_cases hs : o ∈ σ
      · obtain ⟨i, hi, rfl⟩ := getD_mem hs
        obtain ⟨x', hx'⟩ : ∃ x', objs'[i]? = some x' := ⟨_, List.getElem?_eq_getElem (by omega)⟩
        exact ⟨_, get_in i x' hx'⟩
      · refine ⟨x.kill ks, ?_⟩
        have hx : S.objs[o]? = some (some x) := hx
        show O2[o]? = _
        rw [get_out o hs, hx]; rfl
    · by_cases hs : o ∈ σ
      · obtain ⟨i, hi, rfl⟩ := getD_mem hs
        have hi' : i < objs.length := by omega
        have e := μ'_in i hi'
        show μ' _ = μ _
        rw [e]
        rcases hrg i _ (List.getElem?_eq_getElem hi') with ⟨t, y, e1, _⟩ | ⟨t, sz, l, e1⟩
        · rw [hbox i hi' t y (by rw [List.getElem?_eq_getElem hi', e1]), μc_in i hi']
        · have := movesO_in σ objs i _ (List.getElem?_eq_getElem hi') hi (by rw [e1]; intro t' y' lk' h; cases h)
          rw [hks] at this
          rw [List.contains_iff_mem.2 this] at ho
          cases ho
      · exact μ'_out o hs
  -- from the other side to the caller's
  have hout : StepC ⟨w', μ1, objs', B'.ban⟩ ⟨w', μ', O2, B.ban⟩ := by
    refine ⟨fun b j v ⟨h1, h2, h3⟩ => ⟨h1, fun lk ⟨o, z, k1, k2, k3⟩ => ?_, fun h => h3 (.inl h)⟩, fun b c t fr h => ⟨c, fr, h, rfl⟩⟩
    rcases back o z k1 with ⟨i, x', hi, rfl, q2, q3, q4, q5⟩ | ⟨ho, x, q2, rfl⟩
    · exact h2 lk ⟨i, x', q2, (μ'_in i hi).symm.trans k2, by rw [← q4]; exact k3⟩
    · rw [Own.kill_lock] at k3
      refine Classical.byContradiction fun hn => h3 (.inr ⟨o, x, lk, q2, ho, (μ'_out o ho).symm.trans k2, k3, hn⟩)
  have hm : ∀ i, (⟨w', μ1, objs', B'.ban⟩ : Env).has i → (⟨w', μ', O2, B.ban⟩ : Env).has (σ.getD i 0) ∧ μ' (σ.getD i 0) = μ1 i := by
    intro i ⟨x', hx'⟩
    have hx' : objs'[i]? = some (some x') := hx'
    have hi : i < objs.length := by have := (List.getElem?_eq_some_iff.1 hx').1; omega
    exact ⟨⟨_, get_in i _ hx'⟩, μ'_in i hi⟩
  have hfresh : ∀ (o : Nat) (z : Own) (b : Nat), O2[o]? = some (some z) → z ≠ .dead → μ' o = some b → B.w.heap.size ≤ b ∨ ∃ lk lk', B.own b lk ∧ z.lock = some lk' ∧ lk ≤ lk' := by
    intro o z b h1 h2 h3
    rcases back o z h1 with ⟨i, x', hi, rfl, q2, q3, q4, q5⟩ | ⟨ho, x, q2, rfl⟩
    · rcases hfr i x' b q2 (fun e => h2 (q5.2 e)) ((μ'_in i hi).symm.trans h3) with q | ⟨_, o2, r1, r2⟩
      · exact .inl (Nat.le_trans hS.kept.size q)
      · obtain ⟨_, y, _, _, k3, _, k5, k6⟩ := own0 o2 r1
        rcases hS.fresh _ y b k3 k5 ((μc_in o2 r1).symm.trans r2) with q | ⟨lk1, lk2, s1, s2, s3⟩
        · exact .inl q
        · rw [k6] at s2; cases s2
          obtain ⟨l, hl2⟩ : ∃ l, z.lock = some l := by cases z <;> first | exact ⟨_, rfl⟩ | exact absurd rfl h2
          exact .inr ⟨lk1, l, s1, hl2, by omega⟩
    · rw [Own.kill_lock]
      exact hS.fresh o x b q2 (fun e => h2 (by rw [e]; rfl)) ((μ'_out o ho).symm.trans h3)
  have hobj : Objs ⟨w', μ', O2, B.ban⟩ := by
    refine ⟨fun o z hz => ?_, fun o o' z z' b h1 h2 hd hd' hb hb' => ?_⟩
    · rcases back o z hz with ⟨i, x', hi, rfl, q2, q3, q4, q5⟩ | ⟨ho, x, q2, rfl⟩
      · have hat := hO'.at_ i x' q2
        obtain ⟨x0, y, p1, p2, p3, p4, p5, p6⟩ := own0 i hi
        obtain ⟨x0', e0, hs⟩ := hsg i _ q2
        rw [p1] at e0; cases e0
        rw [q3, p2]
        rcases hs with ⟨t, p, q, rfl, e2⟩ | ⟨⟨t, sz, l, rfl⟩, ⟨t', sz', l', lk, e2⟩ | e2⟩
        · cases e2
          rcases relO_cases p4 with ⟨t0, y0, t1, x1, rfl, e0, r1, _⟩ | ⟨_, _, _, _, e0⟩
          · cases e0
            obtain ⟨b, fr, v, s1, s2, s3, s4, s5, s6⟩ := hat
            obtain ⟨b0, fr0, v0, z1, z2, z3, z4, z5, z6⟩ := hS.objs.at_ _ _ p3
            have hbb : b = b0 := by
              have e1 : μ1 i = some b := s1
              rw [hbox i hi _ _ p1, μc_in i hi] at e1
              have z1 : μ (σ.getD i 0) = some b0 := z1
              rw [e1] at z1; cases z1; rfl
            subst hbb
            exact ⟨b, fr, v, (μ'_in i hi).trans s1, by rw [r1]; exact s2, s3, Rep.renF hout hm _ _ _ s4, (cells_renF σ q).trans s5, z6⟩
          · cases e0
        · cases e2
          have e3 : newO σ (some y) (some (.buf t' sz' l' lk)) = .buf t' sz' l' lk := by
            unfold newO
            split
            · rename_i h; cases h
            · rename_i h; cases h; rfl
            · rename_i h1 h2; first | exact absurd rfl (h1 t' sz' l' lk) | exact absurd rfl (h2 t' sz' l' lk)
          rw [e3]
          obtain ⟨s0, s1⟩ := hat
          exact ⟨s0, s1.imp (fun h => ⟨(μ'_in i hi).trans h.1, h.2⟩) fun ⟨b, c, fr, c1, c2, g1, g2, g3, g4, g5⟩ => ⟨b, c, fr, c1, c2, (μ'_in i hi).trans g1, g2, g3, g4, RepR.stepC hout _ _ _ g5⟩⟩
        · cases e2
          have e3 : newO σ (some y) (some .dead) = .dead := by
            unfold newO
            split
            · rename_i h; cases h
            · rename_i h; cases h
            · rfl
          rw [e3]; trivial
      · have hat := hS.objs.at_ o x q2
        have stay : ∀ b, x ≠ .dead → μ o = some b → w'.heap[b]? = w.heap[b]? := fun b hd hb => blk b (Own.lt hS q2 hd hb) fun i hi e => ho (inj0 o x b i q2 hd hb hi e ▸ mem_getD (by omega))
        cases x with
        | box t x lk =>
          obtain ⟨b, fr, v, s1, s2, s3, s4, s5⟩ := hat
          exact ⟨b, fr, v, (μ'_out o ho).trans s1, (stay b (by simp) s1).trans s2, s3, Rep.kill hst _ _ _ s4, by rw [cells_kill]; exact s5⟩
        | buf t sz l lk =>
          obtain ⟨s0, s1⟩ := hat
          refine ⟨s0, s1.imp (fun h => ⟨(μ'_out o ho).trans h.1, h.2⟩) fun ⟨b, c, fr, c1, c2, g1, g2, g3, g4, g5⟩ => ⟨b, c, fr, c1, c2, (μ'_out o ho).trans g1, (stay b (by simp) g1).trans g2, g3, g4, RepR.stepC hst.toStepC _ _ _ g5⟩⟩
        | dead => trivial
    · have mix : ∀ o z o' z' b, O2[o]? = some (some z) → O2[o']? = some (some z') → z ≠ .dead → z' ≠ .dead → μ' o = some b → μ' o' = some b → o ∈ σ → o' ∉ σ → False := by
        intro o z o' z' b h1 h2 hd hd' hb hb' ho ho'
        rcases back o z h1 with ⟨i, x', hi, rfl, q2, q3, q4, q5⟩ | ⟨hn, _⟩
        · rcases back o' z' h2 with ⟨i2, x2, hi2, rfl, _⟩ | ⟨_, x, r2, rfl⟩
          · exact ho' (mem_getD (by omega))
          · have hdx : x ≠ .dead := fun e => hd' (by rw [e]; rfl)
            have hb2 : μ o' = some b := (μ'_out o' ho').symm.trans hb'
            have hblt := Own.lt hS r2 hdx hb2
            rcases hfr i x' b q2 (fun e => hd (q5.2 e)) ((μ'_in i hi).symm.trans hb) with q | ⟨_, o2, s1, s2⟩
            · have q : w.heap.size ≤ b := q
              omega
            · exact ho' (inj0 o' x b o2 r2 hdx hb2 s1 s2 ▸ mem_getD (by omega))
        · exact hn ho
      rcases back o z h1 with ⟨i, x', hi, rfl, q2, q3, q4, q5⟩ | ⟨ho, x, q2, rfl⟩
      · rcases back o' z' h2 with ⟨i2, x2, hi2, rfl, r2, r3, r4, r5⟩ | ⟨ho', x, r2, rfl⟩
        · have := hO'.inj i i2 x' x2 b q2 r2 (fun e => hd (q5.2 e)) (fun e => hd' (r5.2 e)) ((μ'_in i hi).symm.trans hb) ((μ'_in i2 hi2).symm.trans hb')
          rw [this]
        · exact (mix _ _ _ _ b h1 h2 hd hd' hb hb' (mem_getD (by omega)) ho').elim
      · rcases back o' z' h2 with ⟨i2, x2, hi2, rfl, r2, r3, r4, r5⟩ | ⟨ho', x2, r2, rfl⟩
        · exact (mix _ _ _ _ b h2 h1 hd' hd hb' hb (mem_getD (by omega)) ho).elim
        · exact hS.objs.inj o o' x x2 b q2 r2 (fun e => hd (by rw [e]; rfl)) (fun e => hd' (by rw [e]; rfl)) ((μ'_out o ho).symm.trans hb) ((μ'_out o' ho').symm.trans hb')
  have hkept : Kept B w' := by
    have h1 := hS.kept
    have notB : ∀ k, k < B.w.heap.size → (∀ lk, ¬ B.own k lk) → ∀ i, i < objs.length → μc i ≠ some k := by
      intro k hk1 hk2 i hi e
      obtain ⟨_, y, _, _, k3, _, k5, k6⟩ := own0 i hi
      rcases hS.fresh _ y k k3 k5 (((μc_in i hi).symm.trans e)) with q | ⟨lk1, lk2, s1, s2, s3⟩
      · omega
      · exact hk2 lk1 s1
    refine ⟨hk.os.trans h1.os, hk.tape.trans h1.tape, hk.output.trans h1.output, Nat.le_trans h1.size hk.size, fun k q1 q2 => ?_, fun k lk q1 j hj => ?_, fun k lk q1 c t fr hb => ?_⟩
    · exact (blk k (Nat.lt_of_lt_of_le q1 h1.size) (notB k q1 q2)).trans (h1.block k q1 q2)
    · have hklt := Nat.lt_of_lt_of_le (B.lt k lk q1) h1.size
      by_cases hq : ∃ i, i < objs.length ∧ μc i = some k
      · obtain ⟨i, hi, e⟩ := hq
        obtain ⟨_, y, _, _, k3, _, k5, k6⟩ := own0 i hi
        rcases hS.fresh _ y k k3 k5 (((μc_in i hi).symm.trans e)) with q | ⟨lk1, lk2, s1, s2, s3⟩
        · have := B.lt k lk q1; omega
        · rw [k6] at s2; cases s2
          have := B.one k lk lk1 q1 s1
          omega
      · exact (cell_of_block (blk k hklt fun i hi e => hq ⟨i, hi, e⟩)).trans (h1.lock k lk q1 j hj)
    · obtain ⟨c', fr', e1, e2⟩ := h1.rows k lk q1 c t fr hb
      obtain ⟨c2, fr2, e3, e4⟩ := hst.sz k c' t fr' e1
      exact ⟨c2, fr2, e3, e4.trans e2⟩
  have hfin := hS.go hst hobj hfresh hkept
  refine ⟨μ', ?_, ?_⟩
  · show Sat B ⟨killL ks S.tmps, setsO _ (S.objs.map (Option.map (Own.kill ks)))⟩ a w' μ'
    rw [hO2]; exact hfin
  · show Rep ⟨w', μ', setsO _ (S.objs.map (Option.map (Own.kill ks))), B.ban⟩ false (renF σ res) u
    rw [hO2]; exact Rep.renF hout hm _ _ _ hr
end Go.Proofs.YtdaojihnaajfeaaX

/- A function that writes a row of the caller's in its place. Of no program. -/
set_option linter.unusedVariables false
set_option linter.unusedSimpArgs false
namespace Go.Proofs.YtdaojihnaajfeaaX
open Go Go.RowKit
def FnI (P : Program) (g : FuncId) (t : TypeId) (sz : Nat) (l l' : List T) (more : List T) : Prop :=
  enters P g ∧
  (l = [] → l' = [] ∧ ∀ (E : Env) (p : Option Addr) (cap : Nat) (vs : List Value), RepL E false more vs → Calls P g ⟨.slice p 0 cap :: vs⟩ E.w fun e w' => e = .returned (.tuple #[]) ∧ w' = E.w) ∧
  (l ≠ [] → ∀ (E : Env) (b cap : Nat) (c : Array Value) (fr : Nat × Nat) (c1 c2 : List Value) (vs : List Value), RepL E false more vs → E.w.heap[b]? = some (Go.Obj.cells c t fr) → Unf fr c.size → c.toList = c1 ++ c2 → RepR E sz l c1 → l.length ≤ cap →
     Calls P g ⟨.slice (some ⟨b, 0, none⟩) l.length cap :: vs⟩ E.w fun e w' => e = .returned (.tuple #[]) ∧ (w'.os = E.w.os ∧ w'.tape = E.w.tape ∧ w'.output = E.w.output ∧ E.w.heap.size ≤ w'.heap.size ∧ (∀ j, j < E.w.heap.size → j ≠ b → w'.heap[j]? = E.w.heap[j]?)) ∧
       ∃ (c' : Array Value) (c1' : List Value), w'.heap[b]? = some (Go.Obj.cells c' t fr) ∧ c'.size = c.size ∧ c'.toList = c1' ++ c2 ∧ ∀ E', RepR E' sz l' c1')
theorem Sat.inplace {B : Base} {S : St} {a : Act} {w w' : World} {μ : Nat → Option Nat} (hS : Sat B S a w μ) {o b sz : Nat} {t : TypeId} {l l' : List T} (ho : S.objs[o]? = some (some (.buf t sz l 0))) {c c' : Array Value} {fr : Nat × Nat} {c1' c2 : List Value}
    (hμ : μ o = some b) (hb : w.heap[b]? = some (Go.Obj.cells c t fr)) (hunf : Unf fr c.size) (hw : w'.os = w.os ∧ w'.tape = w.tape ∧ w'.output = w.output ∧ w.heap.size ≤ w'.heap.size ∧ (∀ j, j < w.heap.size → j ≠ b → w'.heap[j]? = w.heap[j]?))
    (hb' : w'.heap[b]? = some (Go.Obj.cells c' t fr)) (hsz : c'.size = c.size) (hc' : c'.toList = c1' ++ c2) (hR : ∀ E, RepR E sz l' c1') : Sat B ⟨S.tmps, S.objs.set o (some (.buf t sz l' 0))⟩ a w' μ := by
  obtain ⟨k1, k2, k3, k4, k5⟩ := hw
  have hlt := (List.getElem?_eq_some_iff.1 ho).1
  have hget : ∀ (i : Nat) (x : Own), (S.objs.set o (some (Own.buf t sz l' 0)))[i]? = some (some x) → (i = o ∧ x = .buf t sz l' 0) ∨ (i ≠ o ∧ S.objs[i]? = some (some x)) := by
    intro i x hx
    by_cases hi : i = o
    · subst hi
      rw [List.getElem?_set_self hlt] at hx
      injection hx with hx; injection hx with hx
      exact .inl ⟨rfl, hx.symm⟩
    · rw [List.getElem?_set_ne (fun e => hi e.symm)] at hx
      exact .inr ⟨hi, hx⟩
  have old : ∀ (i : Nat) (x : Own), (S.objs.set o (some (Own.buf t sz l' 0)))[i]? = some (some x) → ∃ y, S.objs[i]? = some (some y) ∧ (x ≠ Own.dead → y ≠ Own.dead) ∧ y.lock = x.lock := by
    intro i x hx
    rcases hget i x hx with ⟨rfl, rfl⟩ | ⟨_, h⟩
    · exact ⟨_, ho, (fun _ e => nomatch e), rfl⟩
    · exact ⟨x, h, id, rfl⟩
  have hst : Step [] ⟨w, μ, S.objs, B.ban⟩ ⟨w', μ, S.objs.set o (some (.buf t sz l' 0)), B.ban⟩ := by
    have hne : ∀ b' j, (∀ lk, (⟨w, μ, S.objs, B.ban⟩ : Env).own b' lk → j < lk) → b' ≠ b := by
      rintro b' j h rfl
      exact absurd (h 0 ⟨o, .buf t sz l 0, ho, hμ, by simp [Own.lock]⟩) (Nat.not_lt_zero _)
    refine ⟨⟨fun b' j v ⟨h1, h2, h3⟩ => ⟨?_, fun lk ⟨o', y, q1, q2, q3⟩ => ?_, h3⟩, fun b' c0 t0 fr0 hb0 => ?_⟩, fun i ⟨x, hx⟩ _ => ?_, fun _ _ _ => rfl⟩
    · exact (cell_of_block (k5 b' (cell_lt h1) (hne b' j h2))).trans h1
    · have q1 : (S.objs.set o (some (Own.buf t sz l' 0)))[o']? = some (some y) := q1
      obtain ⟨z, e1, _, e3⟩ := old o' y q1
      exact h2 lk ⟨o', z, e1, q2, e3.trans q3⟩
    · have hb0 : w.heap[b']? = some (Go.Obj.cells c0 t0 fr0) := hb0
      by_cases e : b' = b
      · subst e
        rw [hb] at hb0
        obtain ⟨rfl, rfl, rfl⟩ := Go.Obj.cells.inj (Option.some.inj hb0)
        exact ⟨_, _, hb', hsz⟩
      · exact ⟨c0, fr0, (k5 b' (Array.getElem?_eq_some_iff.1 hb0).1 e).trans hb0, rfl⟩
    · have hx : S.objs[i]? = some (some x) := hx
      by_cases hi : i = o
      · subst hi; exact ⟨_, List.getElem?_set_self hlt⟩
      · exact ⟨x, by show (S.objs.set o _)[i]? = _; rw [List.getElem?_set_ne (fun e => hi e.symm)]; exact hx⟩
  refine ⟨RepL.step hst hS.tmps, hS.defers, ⟨fun i x hx => ?_, fun i i' x x' b1 h1 h2 hd hd' hb1 hb2 => ?_⟩, fun i x b1 h1 hd hb1 => ?_, ⟨k1.trans hS.kept.os, k2.trans hS.kept.tape, k3.trans hS.kept.output, Nat.le_trans hS.kept.size k4, fun j hj hno => ?_, fun j lk ho1 i hi => ?_, fun j lk ho1 cc tt ff hj => ?_⟩⟩
  · rcases hget i x hx with ⟨rfl, rfl⟩ | ⟨hne, h⟩
    · exact ⟨Nat.zero_le _, .inr ⟨b, c', fr, c1', c2, hμ, hb', by rw [hsz]; exact hunf, hc', hR _⟩⟩
    · have hq := hS.objs.at_ i _ h
      have nb : ∀ b1, x ≠ .dead → μ i = some b1 → b1 ≠ b := by
        rintro b1 hd e rfl
        exact hne (hS.objs.inj i o x _ b1 h ho hd (fun e => by cases e) e hμ)
      cases x with
      | box t' x' lk' =>
        obtain ⟨b1, fr1, u, h1, h2, h3, h4, h5⟩ := hq
        exact ⟨b1, fr1, u, h1, (k5 b1 (Array.getElem?_eq_some_iff.1 h2).1 (nb b1 (fun e => by cases e) h1)).trans h2, h3, Rep.step hst h4, h5⟩
      | buf t' sz' l0 lk' =>
        obtain ⟨h0, h1⟩ := hq
        exact ⟨h0, h1.imp id fun ⟨b1, c0, fr1, d1, d2, h1, h2, h3, h4, h5⟩ => ⟨b1, c0, fr1, d1, d2, h1, (k5 b1 (Array.getElem?_eq_some_iff.1 h2).1 (nb b1 (fun e => by cases e) h1)).trans h2, h3, h4, RepR.stepC hst.toStepC _ _ _ h5⟩⟩
      | dead => trivial
  · obtain ⟨y, e1, e2, _⟩ := old i x h1
    obtain ⟨y', e3, e4, _⟩ := old i' x' h2
    exact hS.objs.inj i i' y y' b1 e1 e3 (e2 hd) (e4 hd') hb1 hb2
  · obtain ⟨y, e1, e2, e3⟩ := old i x h1
    rcases hS.fresh i y b1 e1 (e2 hd) hb1 with h | ⟨lk1, lk2, q1, q2, q3⟩
    · exact .inl h
    · exact .inr ⟨lk1, lk2, q1, e3 ▸ q2, q3⟩
  · have hjb : j ≠ b := by
      rintro rfl
      rcases hS.fresh o _ j ho (fun e => by cases e) hμ with h | ⟨lk1, _, q1, _⟩
      · omega
      · exact hno lk1 q1
    exact (k5 j (Nat.lt_of_lt_of_le hj hS.kept.size) hjb).trans (hS.kept.block j hj hno)
  · have := B.zero j lk ho1
    omega
  · obtain ⟨c0, fr0, h1, h2⟩ := hS.kept.rows j lk ho1 cc tt ff hj
    by_cases e : j = b
    · subst e
      rw [hb] at h1
      obtain ⟨rfl, rfl, rfl⟩ := Go.Obj.cells.inj (Option.some.inj h1)
      exact ⟨_, _, hb', hsz.trans h2⟩
    · exact ⟨c0, fr0, (k5 j (Array.getElem?_eq_some_iff.1 h1).1 e).trans h1, h2⟩
theorem Sat.sameBuf {B : Base} {S : St} {a : Act} {w : World} {μ : Nat → Option Nat} (hS : Sat B S a w μ) {o : Nat} {x : Own} (ho : S.objs[o]? = some (some x)) : Sat B ⟨S.tmps, S.objs.set o (some x)⟩ a w μ := by
  have : S.objs.set o (some x) = S.objs := by
    refine List.ext_getElem? fun i => ?_
    rw [List.getElem?_set]
    split
    · rename_i e; subst e
      rw [if_pos (List.getElem?_eq_some_iff.1 ho).1, ho]
    · rfl
  rw [this]; exact hS
theorem callI_sound {P : Program} {B : Base} {S : St} {a : Act} {w : World} {μ : Nat → Option Nat} {g : FuncId} {o sz : Nat} {t : TypeId} {l l' more : List T} {vs : Array Value} (hS : Sat B S a w μ) (ho : S.objs[o]? = some (some (.buf t sz l 0))) (hF : FnI P g t sz l l' more)
    (hargs : RepL ⟨w, μ, S.objs, B.ban⟩ false (.rsl o sz 0 l.length :: more) vs.toList ∨ (l = [] ∧ RepL ⟨w, μ, S.objs, B.ban⟩ false (.sl sz false l :: more) vs.toList)) :
    Calls P g vs w fun e w' => e = .returned (.tuple #[]) ∧ Sat B ⟨S.tmps, S.objs.set o (some (.buf t sz l' 0))⟩ a w' μ := by
  obtain ⟨hen, hN, hC⟩ := hF
  obtain ⟨q⟩ := vs
  have nilcase : ∀ (p : Option Addr) (cap : Nat) (vs' : List Value), l = [] → RepL ⟨w, μ, S.objs, B.ban⟩ false more vs' → q = .slice p 0 cap :: vs' → Calls P g ⟨q⟩ w fun e w' => e = .returned (.tuple #[]) ∧ Sat B ⟨S.tmps, S.objs.set o (some (.buf t sz l' 0))⟩ a w' μ := by
    rintro p cap vs' rfl hm rfl
    obtain ⟨hl', hN2⟩ := hN rfl
    subst hl'
    refine (hN2 ⟨w, μ, S.objs, B.ban⟩ p cap vs' hm).mono ?_
    rintro e w' ⟨rfl, hw⟩
    have hw : w' = w := hw
    subst hw
    exact ⟨rfl, hS.sameBuf ho⟩
  rcases hargs with h | ⟨hl, h⟩
  · simp only [RepL, Rep] at h
    obtain ⟨v, vs', e1, ⟨_, _, hr⟩, hm⟩ := h
    have e1 : q = v :: vs' := e1
    rcases hr with ⟨_, hz, _, aa, e⟩ | ⟨b, p, cap, c, t', fr, hμ, e, hcap, hp, hheap, hroom⟩
    · have hl : l = [] := List.length_eq_zero_iff.1 hz
      exact nilcase _ _ vs' hl hm (by rw [e1, e])
    · by_cases hnil : l = []
      · subst hnil
        exact nilcase _ _ vs' rfl hm (by rw [e1, e]; rfl)
      · have hlen : 0 < l.length := List.length_pos_iff.2 hnil
        obtain rfl : p = 0 := by rcases hp with h | h <;> omega
        obtain ⟨_, hO0⟩ := hS.objs.at_ o _ ho
        have hμ : μ o = some b := hμ
        rcases hO0 with ⟨hn, _⟩ | ⟨b', c', fr', c1, c2, hμ', hheap', hunf, hc, hRR⟩
        · have hn : μ o = none := hn
          rw [hn] at hμ; cases hμ
        · have hμ' : μ o = some b' := hμ'
          rw [hμ] at hμ'
          obtain rfl := Option.some.inj hμ'
          subst e1 e
          refine (hC hnil ⟨w, μ, S.objs, B.ban⟩ b cap c' fr' c1 c2 vs' hm hheap' hunf hc hRR hcap).mono ?_
          rintro e w' ⟨rfl, hw, c3, c4, h1, h2, h3, h4⟩
          exact ⟨rfl, hS.inplace ho hμ hheap' hunf hw h1 h2 h3 h4⟩
  · simp only [RepL, Rep] at h
    obtain ⟨v, vs', e1, ⟨aa, cap, c, e, _⟩, hm⟩ := h
    have e1 : q = v :: vs' := e1
    rw [hl] at e
    exact nilcase _ _ vs' hl hm (by rw [e1, e]; try rfl)
end Go.Proofs.YtdaojihnaajfeaaX

/- Structs and arrays, one beside the other. Of no program. -/
set_option linter.unusedVariables false
set_option linter.unusedSimpArgs false
namespace Go.Proofs.YtdaojihnaajfeaaX
open Go Go.RowKit
def eqFs (P : Program) (R : TypeId → T → T → (Bool → Prop) → Prop) : List Field → List T → List T → (Bool → Prop) → Prop
  | [], _, _, K => K true
  | f :: fs, l, m, K => if f.name ≠ "_" then partW P f.type l f.offset fun x => partW P f.type m f.offset fun y => R f.type x y fun b => eqFs P R fs l m fun b' => K (b && b') else eqFs P R fs l m K
def eqEs (P : Program) (R : TypeId → T → T → (Bool → Prop) → Prop) (e : TypeId) (n : Nat) : Nat → Nat → List T → List T → (Bool → Prop) → Prop
  | 0, _, _, _, K => K true
  | k + 1, i, l, m, K => partW P e l (i * n) fun x => partW P e m (i * n) fun y => R e x y fun b => eqEs P R e n k (i + 1) l m fun b' => K (b && b')
def eqW (P : Program) : Nat → TypeId → T → T → (Bool → Prop) → Prop
  | 0, _, _, _, _ => False
  | d + 1, t, x, y, K => match P.underlying t, x, y with
    | some .bool, .imm (.bool a), .imm (.bool b) => K (a == b)
    | some (.int _), .imm (.int k a), .imm (.int k' b) => k = k' ∧ K (a == b)
    | some .string, .imm (.string a), .imm (.string b) => K (a.toList == b.toList)
    | some (.struct ⟨fs⟩), .agg l, .agg m => P.stoodInHeld t = false ∧ eqFs P (eqW P d) fs l m K
    | some (.array n e), .agg l, .agg m => okT P e = true ∧ eqEs P (eqW P d) e (szOf P e) n 0 l m K
    | _, _, _ => False
section
variable {P : Program} {E : Env} {cl : Bool}
theorem eqFs_sound {R : TypeId → T → T → (Bool → Prop) → Prop} {d : Nat} {w : World} (hR : ∀ (t : TypeId) (x y : T) (u v : Value) (K : Bool → Prop), R t x y K → Rep E cl x u → Rep E cl y v → ∃ b, K b ∧ (Op.equalIn d t u v).run P w = .ok b w) {l m : List T} {xs ys : Array Value} (hl : RepL E cl l xs.toList) (hm : RepL E cl m ys.toList) : ∀ (fs : List Field) (K : Bool → Prop), eqFs P R fs l m K → ∃ b, K b ∧ (Op.eqFields d xs ys fs).run P w = .ok b w
  | [], K, h => ⟨true, h, by simp [Op.eqFields]⟩
  | f :: fs, K, h => by
    unfold eqFs at h
    by_cases hn : f.name ≠ "_"
    · rw [if_pos hn] at h
      obtain ⟨x, u, h, hu, hxu⟩ := part_sound (P := P) (w := w) h hl
      obtain ⟨y, v, h, hv, hyv⟩ := part_sound (P := P) (w := w) h hm
      obtain ⟨b, h, hb⟩ := hR _ _ _ _ _ _ h hxu hyv
      obtain ⟨b', h, hb'⟩ := eqFs_sound hR hl hm fs _ h
      refine ⟨b && b', h, ?_⟩
      rw [Op.eqFields]
      simp only [if_pos hn, Sem.run_bind, hu, hv, hb, Result.andThen_ok]
      cases b
      · simp
      · simpa using hb'
    · rw [if_neg hn] at h
      obtain ⟨b', h, hb'⟩ := eqFs_sound hR hl hm fs _ h
      refine ⟨b', h, ?_⟩
      rw [Op.eqFields, if_neg hn]
      exact hb'
def eqElems (d : Nat) (e : TypeId) (n : Nat) (xs ys : Array Value) : List Nat → Sem Bool
  | [] => pure true
  | i :: is => do
    let a ← part e xs (i * n)
    let b ← part e ys (i * n)
    let r ← Op.equalIn d e a b
    if (!r) = true then pure false else eqElems d e n xs ys is
theorem run_equalIn_array {w : World} (d : Nat) {t e : TypeId} {len n : Nat} (xs ys : Array Value) (ht : P.underlying t = some (.array len e)) (hn : (sizeOf e).run P w = .ok n w) :
    (Op.equalIn (d + 1) t (.agg xs) (.agg ys)).run P w = (eqElems d e n xs ys (List.range' 0 len)).run P w := by
  have hu : (underlying t).run P w = .ok (.array len e) w := by simp [underlying, go_sem, ht]
  simp only [Op.equalIn, Sem.run_bind, hu, hn, Result.andThen_ok]
  rw [Std.Legacy.Range.forIn_eq_forIn_range']
  simp only [Std.Legacy.Range.size, Nat.sub_zero, Nat.add_sub_cancel, Nat.div_one]
  generalize List.range' 0 len = is
  clear hu hn ht
  induction is generalizing w with
  | nil => simp [eqElems]
  | cons i is ih =>
    simp only [List.forIn_cons, eqElems, Sem.run_bind]
    generalize (part e xs (i * n)).run P w = r1
    cases r1 with
    | ok a w1 =>
      simp only [Result.andThen_ok]
      generalize (part e ys (i * n)).run P w1 = r2
      cases r2 with
      | ok b w2 =>
        simp only [Result.andThen_ok]
        generalize (Op.equalIn d e a b).run P w2 = r3
        cases r3 with
        | ok r w3 =>
          simp only [Result.andThen_ok, Sem.run_ite]
          cases r with
          | false => simp
          | true => simpa using ih
        | _ => simp
      | _ => simp
    | _ => simp
theorem eqEs_sound {R : TypeId → T → T → (Bool → Prop) → Prop} {d : Nat} {w : World} {e : TypeId} {n : Nat} (hR : ∀ (t : TypeId) (x y : T) (u v : Value) (K : Bool → Prop), R t x y K → Rep E cl x u → Rep E cl y v → ∃ b, K b ∧ (Op.equalIn d t u v).run P w = .ok b w) {l m : List T} {xs ys : Array Value} (hl : RepL E cl l xs.toList) (hm : RepL E cl m ys.toList) : ∀ (k i : Nat) (K : Bool → Prop), eqEs P R e n k i l m K → ∃ b, K b ∧ (eqElems d e n xs ys (List.range' i k)).run P w = .ok b w
  | 0, i, K, h => ⟨true, h, by simp [eqElems]⟩
  | k + 1, i, K, h => by
    unfold eqEs at h
    obtain ⟨x, u, h, hu, hxu⟩ := part_sound (P := P) (w := w) h hl
    obtain ⟨y, v, h, hv, hyv⟩ := part_sound (P := P) (w := w) h hm
    obtain ⟨b, h, hb⟩ := hR _ _ _ _ _ _ h hxu hyv
    obtain ⟨b', h, hb'⟩ := eqEs_sound hR hl hm k (i + 1) _ h
    refine ⟨b && b', h, ?_⟩
    rw [List.range'_succ, eqElems]
    simp only [Sem.run_bind, hu, hv, hb, Result.andThen_ok]
    cases b
    · simp
    · simpa using hb'
theorem eq_sound {w : World} : ∀ (d : Nat) (t : TypeId) (x y : T) (u v : Value) (K : Bool → Prop), eqW P d t x y K → Rep E cl x u → Rep E cl y v → ∃ b, K b ∧ (Op.equalIn d t u v).run P w = .ok b w
  | 0, t, x, y, u, v, K, h, _, _ => h.elim
  | d + 1, t, x, y, u, v, K, h, hx, hy => by
    unfold eqW at h
    split at h
    · rename_i ht
      simp only [Rep, flat, and_true] at hx hy; subst hx; subst hy
      exact ⟨_, h, run_equalIn_bool' w d t _ _ ht⟩
    · rename_i ht
      obtain ⟨rfl, h⟩ := h
      simp only [Rep, flat, and_true] at hx hy; subst hx; subst hy
      exact ⟨_, h, run_equalIn_int w d t _ _ _ _ ht⟩
    · rename_i ht
      simp only [Rep, flat, and_true] at hx hy; subst hx; subst hy
      exact ⟨_, h, run_equalIn_string w d t _ _ ht⟩
    · rename_i fs l m ht
      obtain ⟨hp, h⟩ := h
      simp only [Rep] at hx hy
      obtain ⟨xs, rfl, hl⟩ := hx
      obtain ⟨ys, rfl, hm⟩ := hy
      have hf : P.fieldsOf t = ⟨fs⟩ := by simp [Program.fieldsOf, ht]
      obtain ⟨b, h1, h2⟩ := eqFs_sound (eq_sound d) hl hm _ _ h
      refine ⟨b, h1, ?_⟩
      rw [run_equalIn_struct (P := P) w d t xs ys (by rw [hf]; exact ht) hp, hf]
      exact h2
    · rename_i n e l m ht
      obtain ⟨ho, h⟩ := h
      obtain ⟨i, z, hi, hz, hs, _⟩ := okT_out ho
      simp only [Rep] at hx hy
      obtain ⟨xs, rfl, hl⟩ := hx
      obtain ⟨ys, rfl, hm⟩ := hy
      obtain ⟨b, h1, h2⟩ := eqEs_sound (eq_sound d) hl hm _ _ _ h
      refine ⟨b, h1, ?_⟩
      rw [run_equalIn_array d xs ys ht (n := szOf P e) (by rw [hs]; exact run_sizeOf hi)]
      exact h2
    · exact h.elim
theorem eqFs_split {R : TypeId → T → T → (Bool → Prop) → Prop} (psplit : ∀ (t : TypeId) (l : List T) (off : Nat) (K : T → Prop), partW P t l off K → ∃ v, K v ∧ ∀ K' : T → Prop, K' v → partW P t l off K') (hR : ∀ t x y K, R t x y K → ∃ b, K b ∧ ∀ K' : Bool → Prop, K' b → R t x y K') (l m : List T) : ∀ (fs : List Field) (K : Bool → Prop), eqFs P R fs l m K → ∃ b, K b ∧ ∀ K' : Bool → Prop, K' b → eqFs P R fs l m K'
  | [], K, h => ⟨true, h, fun K' hk => hk⟩
  | f :: fs, K, h => by
    unfold eqFs at h ⊢
    by_cases hn : f.name ≠ "_"
    · rw [if_pos hn] at h
      obtain ⟨x, h, hx⟩ := psplit _ _ _ _ h
      obtain ⟨y, h, hy⟩ := psplit _ _ _ _ h
      obtain ⟨b, h, hb⟩ := hR _ _ _ _ h
      obtain ⟨b', h, hb'⟩ := eqFs_split psplit hR l m fs _ h
      exact ⟨b && b', h, fun K' hk => by rw [if_pos hn]; exact hx _ (hy _ (hb _ (hb' _ hk)))⟩
    · rw [if_neg hn] at h
      obtain ⟨b', h, hb'⟩ := eqFs_split psplit hR l m fs _ h
      exact ⟨b', h, fun K' hk => by rw [if_neg hn]; exact hb' _ hk⟩
theorem eqEs_split {R : TypeId → T → T → (Bool → Prop) → Prop} {e : TypeId} {n : Nat} (psplit : ∀ (t : TypeId) (l : List T) (off : Nat) (K : T → Prop), partW P t l off K → ∃ v, K v ∧ ∀ K' : T → Prop, K' v → partW P t l off K') (hR : ∀ t x y K, R t x y K → ∃ b, K b ∧ ∀ K' : Bool → Prop, K' b → R t x y K') (l m : List T) : ∀ (k i : Nat) (K : Bool → Prop), eqEs P R e n k i l m K → ∃ b, K b ∧ ∀ K' : Bool → Prop, K' b → eqEs P R e n k i l m K'
  | 0, i, K, h => ⟨true, h, fun K' hk => hk⟩
  | k + 1, i, K, h => by
    unfold eqEs at h ⊢
    obtain ⟨x, h, hx⟩ := psplit _ _ _ _ h
    obtain ⟨y, h, hy⟩ := psplit _ _ _ _ h
    obtain ⟨b, h, hb⟩ := hR _ _ _ _ h
    obtain ⟨b', h, hb'⟩ := eqEs_split psplit hR l m k (i + 1) _ h
    exact ⟨b && b', h, fun K' hk => hx _ (hy _ (hb _ (hb' _ hk)))⟩
theorem eqW_split (psplit : ∀ (t : TypeId) (l : List T) (off : Nat) (K : T → Prop), partW P t l off K → ∃ v, K v ∧ ∀ K' : T → Prop, K' v → partW P t l off K') : ∀ (d : Nat) (t : TypeId) (x y : T) (K : Bool → Prop), eqW P d t x y K → ∃ b, K b ∧ ∀ K' : Bool → Prop, K' b → eqW P d t x y K'
  | 0, t, x, y, K, h => h.elim
  | d + 1, t, x, y, K, h => by
    unfold eqW at h ⊢
    split at h
    · exact ⟨_, h, fun K' hk => hk⟩
    · exact ⟨_, h.2, fun K' hk => ⟨h.1, hk⟩⟩
    · exact ⟨_, h, fun K' hk => hk⟩
    · obtain ⟨b, h1, h2⟩ := eqFs_split psplit (eqW_split psplit d) _ _ _ _ h.2
      exact ⟨b, h1, fun K' hk => ⟨h.1, h2 _ hk⟩⟩
    · obtain ⟨b, h1, h2⟩ := eqEs_split psplit (eqW_split psplit d) _ _ _ _ _ h.2
      exact ⟨b, h1, fun K' hk => ⟨h.1, h2 _ hk⟩⟩
    · exact h.elim
def binXW (P : Program) (t : TypeId) (op : BinOp) (x y : T) (K : T → Prop) : Prop :=
  match x, y with
  | .agg l, .agg m => (match op with
    | .eql => P.eqGuardType P.depth t = false ∧ eqW P 10000 t (.agg l) (.agg m) fun b => K (.imm (.bool b))
    | .neq => P.eqGuardType P.depth t = false ∧ eqW P 10000 t (.agg l) (.agg m) fun b => K (.imm (.bool (!b)))
    | _ => False)
  | .imm p, .imm q => binV P t op p q K
  | _, _ => False
theorem run_eqGuard_agg {w : World} {op : BinOp} {t : TypeId} {x y : Operand} {xs ys : Array Value} (h : P.eqGuardType P.depth t = false) : (eqGuard op t x y (.agg xs) (.agg ys)).run P w = .ok () w := by
  unfold eqGuard
  cases op <;> first
    | rfl
    | (rw [if_neg (by decide), run_bind run_program, run_bind run_program, h]; rfl)
theorem binX_sound {w : World} {op : BinOp} {t : TypeId} {x y : Operand} {a b : T} {u v : Value} {K : T → Prop} (h : binXW P t op a b K) (ha : Rep E false a u) (hb : Rep E false b v) :
    ∃ r q, K r ∧ (do eqGuard op t x y u v; binOp op t u v : Sem Value).run P w = .ok q w ∧ Rep E false r q := by
  unfold binXW at h
  split at h
  · rename_i l m
    have ha' := ha
    have hb' := hb
    simp only [Rep] at ha hb
    obtain ⟨xs, rfl, _⟩ := ha
    obtain ⟨ys, rfl, _⟩ := hb
    split at h
    · obtain ⟨hg, h⟩ := h
      obtain ⟨r, h1, h2⟩ := eq_sound (P := P) (w := w) 10000 _ _ _ _ _ _ h ha' hb'
      refine ⟨_, .bool r, h1, ?_, by simp only [Rep, flat, and_true]⟩
      rw [run_bind (run_eqGuard_agg hg)]
      show (do pure (.bool (← Op.equal t (.agg xs) (.agg ys))) : Sem Value).run P w = _
      rw [run_bind (show (Op.equal t (.agg xs) (.agg ys)).run P w = .ok r w from h2)]
      rfl
    · obtain ⟨hg, h⟩ := h
      obtain ⟨r, h1, h2⟩ := eq_sound (P := P) (w := w) 10000 _ _ _ _ _ _ h ha' hb'
      refine ⟨_, .bool (!r), h1, ?_, by simp only [Rep, flat, and_true]⟩
      rw [run_bind (run_eqGuard_agg hg)]
      show (do pure (.bool (!(← Op.equal t (.agg xs) (.agg ys)))) : Sem Value).run P w = _
      rw [run_bind (show (Op.equal t (.agg xs) (.agg ys)).run P w = .ok r w from h2)]
      rfl
    · exact h.elim
  · rename_i p q
    exact bin_sound (show binW P t op (.imm p) (.imm q) K from h) ha hb
  · exact h.elim
end
end Go.Proofs.YtdaojihnaajfeaaX
