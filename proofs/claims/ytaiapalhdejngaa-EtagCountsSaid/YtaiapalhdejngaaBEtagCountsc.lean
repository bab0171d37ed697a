/- Part of the proof of EtagCounts: walks and plain words, merged. -/
import Derived.Test.YtaiapalhdejngaaBEtagCountsb
import Derived.Lib.Bytealg
set_option linter.unusedVariables false
set_option linter.unusedSimpArgs false

/- The laws that a run goes by. -/
namespace Go.Proofs.YtaiapalhdejngaaX
open Go Go.RowKit Go.Proofs
attribute [go_sem ↓] stepsK_call drawK_call opW binXW eqW eqFs eqEs binV intW strW fieldW indexW extractW unW loadW loadP fieldAddrW indexAddrW endsW sliceW copyW arrPW buildSliceW makeW convertW storeW newsW appendW elemsW nilW lenW min2W max2W builtinW ifaceW partW getD_j16 set_j16 rootsP
attribute [go_sem] endK_q runK_region runK_draw stepsK_nil callK callE stepsK_cons drawK_nil drawK_cons rootsK_nil rootsK_cons St.keep keepL St.gc gcW deadK reachL refsT refsL refsO dropL Int.toNat_natCast St.cut List.range'_zero List.range'_succ lookS_at liteL dstsL gL St.is evalT ofVal ofVals St.after St.put St.upd
attribute [go_sem] St.eff quietE eOp effB trims trim setCells fillT fillE patchT isJunk leafT T.cells oneT RetQ resW retT St.lockAll Own.lockAll dsnap dsnapL snap closedT closedL rootsOf rootsO rootsA rootOf St.frzR St.frzB St.frzT St.frzL St.frz kill killL Own.kill aggD List.getD_cons_zero List.getD_cons_succ List.getD_nil List.set_cons_zero List.set_cons_succ List.set_nil List.flatMap_cons List.flatMap_nil List.append_nil List.nil_append List.cons_append List.map_cons List.map_nil List.filterMap_cons List.filterMap_nil List.find?_cons List.find?_nil List.getElem?_cons_zero List.getElem?_cons_succ List.getElem?_nil List.length_cons List.length_nil List.replicate
attribute [go_sem] List.contains_cons List.contains_nil List.take_zero List.drop_zero List.take_succ_cons List.drop_succ_cons List.all_cons List.all_nil List.size_toArray List.getElem?_toArray Array.toList_map List.map_toArray Option.some_beq_some Option.none_beq_some Option.some_beq_none Option.map_some Option.map_none Option.bind_some Option.bind_none Option.some.injEq ne_eq not_false_eq_true not_true_eq_false true_and and_true and_false false_and Bool.false_eq_true Bool.true_eq_false forall_const false_imp_iff true_imp_iff imp_self beq_self_eq_true or_true true_or or_false false_or if_true if_false ite_true ite_false Bool.or_true Bool.true_or Bool.and_true Bool.true_and Bool.false_or Bool.or_false Bool.false_and Bool.and_false Bool.not_true Bool.not_false decide_true decide_false Nat.lt_irrefl Nat.le_refl Nat.zero_add Nat.add_zero Nat.zero_mul Nat.mul_one
attribute [go_sem] Nat.mul_zero Nat.zero_le gt_iff_lt ge_iff_le Int.cast_ofNat_Int Option.isNone_some Option.isNone_none Option.isSome_some Option.isSome_none Nat.zero_max Nat.max_zero Nat.max_self List.take_length List.length_append List.length_map
attribute [go_sem] rs12 rs19 rs37 rs39 rs41 rs43 rs45 rs46 rs53 rs54 rs55
attribute [go_sem] rs73 rs75 rs78 rs79 rs81 rs82 rs83 rs84 rs98 rs99 rs103 rs105 rs106 rs107 rs108 rs109 rs110 rs114 rs118
attribute [go_sem] Try.underlying0 Try.underlying1 Try.underlying2 Try.underlying3 sz3 ok3 Try.underlying4 Try.underlying5 sz5 cz5 ok5 ze5 by5 Try.underlying6 Try.underlying7
attribute [go_sem] Try.underlying8 Try.underlying9 sz9 ok9 ze9 by9 Try.underlying10 Try.underlying11 Try.underlying12 Try.underlying13 Try.underlying14 Try.underlying15 Try.underlying16
attribute [go_sem] Try.underlying17 Try.underlying18 Try.underlying19 Try.underlying20 Try.underlying21 Try.underlying22 Try.underlying23 Try.underlying24 Try.underlying25
attribute [go_sem] Try.underlying26 Try.underlying27 Try.underlying28 Try.underlying29 Try.underlying30 Try.underlying31 Try.underlying32 Try.underlying33 Try.underlying34 Try.underlying35 Try.underlying36 Try.underlying37 Try.underlying38 Try.underlying39 Try.underlying40 Try.underlying41 Try.underlying42 Try.underlying43
attribute [go_sem] Try.underlying44 Try.underlying45 Try.underlying46 Try.underlying47 Try.underlying48 Try.underlying49 Try.underlying50 Try.underlying51 Try.underlying52 sz52 cz52 ok52 ze52 Try.underlying53 Try.underlying54 Try.underlying55 Try.underlying56 Try.underlying57 Try.underlying58 Try.underlying59 Try.underlying60 Try.underlying61 Try.underlying62 Try.underlying63 Try.underlying64 Try.underlying65 Try.underlying66 Try.underlying67 Try.underlying68 Try.underlying69 Try.underlying70 sz70 ok70 ze70 Try.underlying71 Try.underlying72 Try.underlying73 Try.underlying74
attribute [go_sem] Try.underlying75 Try.underlying76 Try.underlying77 Try.underlying78 Try.underlying79 Try.underlying80 Try.underlying81 Try.underlying82 Try.underlying83 Try.underlying84 Try.underlying85 Try.underlying86 Try.underlying87 Try.underlying88 Try.underlying89 Try.underlying90 Try.underlying91 Try.underlying92
attribute [go_sem] Try.underlying93 Try.underlying94 Try.underlying95 Try.underlying96 Try.underlying97 Try.underlying98 Try.underlying99 Try.underlying100 Try.underlying101 Try.underlying102 Try.underlying103 Try.underlying104 Try.underlying105 Try.underlying106 Try.underlying107 Try.underlying108 Try.underlying109 sz109 ok109 Try.underlying110 sz110 ok110 ze110
attribute [go_sem] Try.underlying111 sz111 ok111 Try.underlying112 Try.underlying113 sz113 ok113 ze113 Try.underlying114 Try.underlying115 Try.underlying116 sz116 ok116 ze116 Try.underlying117 sz117 ok117 ze117 Try.underlying118 Try.underlying119 Try.underlying120 Try.underlying121 Try.underlying122 Try.underlying123 Try.underlying124 Try.underlying125
attribute [go_sem] Try.underlying126 Try.underlying127 Try.underlying128 Try.underlying129 Try.underlying130 Try.underlying131 Try.underlying132 Try.underlying133 Try.underlying134 Try.underlying135 Try.underlying136 Try.underlying137 sz137 ok137 ze137 Try.underlying138 Try.underlying139 sz139 ok139 ze139 Try.underlying140 Try.underlying141 sz141 ok141
attribute [go_sem] Try.underlying142 sz142 ok142 ze142 Try.underlying143 Try.underlying144 Try.underlying145 Try.underlying146 Try.underlying147 Try.underlying148 Try.underlying149 Try.underlying150 Try.underlying151 Try.underlying152 Try.underlying153 Try.underlying154 Try.underlying155 Try.underlying156 Try.underlying157 Try.underlying158 Try.underlying159
attribute [go_sem] Try.underlying160 Try.underlying161 Try.underlying162 Try.underlying163 Try.underlying164 Try.underlying165 Try.underlying166 Try.underlying167 Try.underlying168 Try.underlying169 Try.underlying170
end Go.Proofs.YtaiapalhdejngaaX

/- Words for what functions answer. -/
set_option linter.unusedVariables false
namespace Go.Proofs.YtaiapalhdejngaaX
open Go Go.RowKit Go.Proofs
abbrev i64 (n : Int) : T := .imm (.int .i64 n)
abbrev u8 (n : Int) : T := .imm (.int .u8 n)
abbrev u32 (n : Int) : T := .imm (.int .u32 n)
abbrev u64 (n : Int) : T := .imm (.int .u64 n)
abbrev tb (b : Bool) : T := .imm (.bool b)
abbrev ts (s : ByteArray) : T := .imm (.string s)
theorem wf_of {k : IntKind} {n : Int} (h : (Lit.int k n).wf = true) : k.min ≤ n ∧ n ≤ k.max := by
  simpa [Lit.wf] using h
end Go.Proofs.YtaiapalhdejngaaX

/- Bits of numbers that are not below zero. -/
set_option linter.unusedVariables false
namespace Go.Proofs.YtaiapalhdejngaaX
open Go Go.RowKit Go.Proofs
theorem ofInt_nat (w : Nat) (n : Nat) (h : n < 2 ^ w) : (BitVec.ofInt w (n : Int)).toNat = n := by
  rw [BitVec.ofInt_natCast, BitVec.toNat_ofNat, Nat.mod_eq_of_lt h]
theorem or_low (i a b : Nat) (ha : a % 2 ^ i = 0) (hb : b < 2 ^ i) : a ||| b = a + b := by
  obtain ⟨q, rfl⟩ : ∃ q, a = 2 ^ i * q := ⟨a / 2 ^ i, by have := Nat.div_add_mod a (2 ^ i); omega⟩
  exact (Nat.two_pow_add_eq_or_of_lt hb q).symm
theorem or_add (w i : Nat) (x y : Int) (hx : 0 ≤ x) (hxw : x < 2 ^ w) (hd : x % 2 ^ i = 0) (hy : 0 ≤ y) (hyi : y < 2 ^ i) (hiw : i ≤ w) : ((BitVec.ofInt w x ||| BitVec.ofInt w y).toNat : Int) = x + y := by
  obtain ⟨a, rfl⟩ := Int.eq_ofNat_of_zero_le hx
  obtain ⟨b, rfl⟩ := Int.eq_ofNat_of_zero_le hy
  have e : ((2 : Int) ^ i) = ((2 ^ i : Nat) : Int) := by simp
  have e' : ((2 : Int) ^ w) = ((2 ^ w : Nat) : Int) := by simp
  rw [e] at hd hyi
  rw [e'] at hxw
  have hle : 2 ^ i ≤ 2 ^ w := Nat.pow_le_pow_right (by omega) hiw
  rw [BitVec.toNat_or, ofInt_nat w a (by omega), ofInt_nat w b (by omega), or_low i a b (by omega) (by omega)]
  omega
theorem and_low (w i : Nat) (x : Int) (hx : 0 ≤ x) (hxw : x < 2 ^ w) (hiw : i ≤ w) (m : Int) (hm : m = 2 ^ i - 1) : ((BitVec.ofInt w x &&& BitVec.ofInt w m).toNat : Int) = x % 2 ^ i := by
  obtain ⟨a, rfl⟩ := Int.eq_ofNat_of_zero_le hx
  have e : ((2 : Int) ^ i) = ((2 ^ i : Nat) : Int) := by simp
  have e' : ((2 : Int) ^ w) = ((2 ^ w : Nat) : Int) := by simp
  rw [e'] at hxw
  have hle : 2 ^ i ≤ 2 ^ w := Nat.pow_le_pow_right (by omega) hiw
  have hp : 0 < 2 ^ i := Nat.two_pow_pos i
  have hm' : m = ((2 ^ i - 1 : Nat) : Int) := by omega
  subst hm'
  rw [BitVec.toNat_and, ofInt_nat w a (by omega), ofInt_nat w _ (by omega), Nat.and_two_pow_sub_one_eq_mod, e]
  omega
theorem bOr_add (k : IntKind) (i : Nat) (x y : Int) (hx : 0 ≤ x) (hxw : x < 2 ^ k.bits) (hd : x % 2 ^ i = 0) (hy : 0 ≤ y) (hyi : y < 2 ^ i) (hiw : i ≤ k.bits) : bOr k x y = x + y := or_add k.bits i x y hx hxw hd hy hyi hiw
theorem bAnd_low (k : IntKind) (i : Nat) (x : Int) (hx : 0 ≤ x) (hxw : x < 2 ^ k.bits) (hiw : i ≤ k.bits) (m : Int) (hm : m = 2 ^ i - 1) : bAnd k x m = x % 2 ^ i := and_low k.bits i x hx hxw hiw m hm
theorem bShr_div (k : IntKind) (x : Int) (n : Nat) (m : Int) (h : (2 : Int) ^ min n k.bits = m) (hm : 0 ≤ m) : bShr k x n = x / m := by unfold bShr; rw [h, Int.fdiv_eq_ediv_of_nonneg _ hm]
end Go.Proofs.YtaiapalhdejngaaX

/- Calls that lock a row at the call: how their arguments are seen. Of no program. -/
set_option linter.unusedVariables false
namespace Go.Proofs.YtaiapalhdejngaaX
open Go Go.RowKit
theorem dsnap_ite (look : Nat → Option Own) (c : Prop) [Decidable c] (a b : T) : dsnap look (if c then a else b) = if c then dsnap look a else dsnap look b := by split <;> rfl
theorem take_map_len {α β : Type} (f : α → β) (l : List α) : List.take l.length (List.map f l) = List.map f l := by rw [← List.map_take, List.take_length]
attribute [go_sem] dsnap_ite ite_self take_map_len
end Go.Proofs.YtaiapalhdejngaaX

set_option linter.unusedVariables false
set_option linter.unusedSimpArgs false
namespace Go.Proofs.YtaiapalhdejngaaX
open Go Go.RowKit Go.Proofs
set_option maxRecDepth 100000
/-! ### hex.Kind: by hand (an inner function that sees the byte through a place of the caller's own) -/
def kindOf (c : Int) : Int := if 48 ≤ c ∧ c ≤ 57 then 1 else if 97 ≤ c ∧ c ≤ 102 then 2 else if 103 ≤ c ∧ c ≤ 122 then 3 else if 65 ≤ c ∧ c ≤ 90 then 4 else 0
def F70 (n : Nat) (a0 : Int) : Option Int := some (kindOf a0)
set_option maxHeartbeats 2000000 in
theorem kind_inside (a b c : Int) (p : Addr) (w : World) (hc : w.cell? p = some (.int .u8 c)) :
  Calls Try.prog 96 #[.int .u8 a, .int .u8 b, .pointer (some p)] w fun e w' => e = .returned (.bool (decide (a ≤ c ∧ c ≤ b))) ∧ w' = w := by
 by_cases h1 : a ≤ c
 ·have h1b : decide (a ≤ c) = true := decide_eq_true h1
  go_enter Try.func96, Try.ntmps96
  go_wp2
  go_ret
  exact ⟨by simp [h1], rfl⟩
 ·have h1b : decide (a ≤ c) = false := decide_eq_false h1
  go_enter Try.func96, Try.ntmps96
  go_wp2
  go_ret
  exact ⟨by simp [h1], rfl⟩
set_option maxHeartbeats 4000000 in
theorem kind_calls (a0 : Int) (w : World) :
  Calls Try.prog 70 #[.int .u8 a0] w fun e w' => e = .returned (.int .i64 (kindOf a0)) ∧ Below w.heap.size w w' := by
 have hmf : ∀ (fn : Fn) (first cap : Array Value) (w : World), (Instr.makeFunc fn first cap).run Try.prog w = .ok (.func fn first cap) w := fun _ _ _ _ => rfl
 go_enter Try.func70, Try.ntmps70
 go_wp2_with (go_at_call 96; refine (kind_inside _ _ a0 _ _ (by simp)).mono ?_; rintro e w' ⟨rfl, rfl⟩)
 all_goals (go_ret; exact ⟨by unfold kindOf; (repeat (first | rw [if_pos (by omega)] | rw [if_neg (by omega)])); rfl, (Below.refl _ _).alloc (Nat.le_refl _) _⟩)
theorem F70_ok (n : Nat) (a0 : Int) (r : Int) (h : F70 n a0 = some r) : FnC Try.prog 70 [.imm (.int .u8 a0)] (.imm (.int .i64 r)) := by
 obtain rfl := Option.some.inj h
 refine ⟨⟨Try.f70, Try.func70, by kernel_rfl, rfl⟩, fun w ban vs hban hv => ?_⟩
 have e : vs = #[.int .u8 a0] := by
  obtain ⟨l⟩ := vs
  simp only [RepL, Rep] at hv
  obtain ⟨u, us, h1, h2, h3⟩ := hv
  simp_all [Lit.value]
 rw [e]
 refine (kind_calls a0 w).mono ?_
 rintro e w' ⟨rfl, hb⟩
 exact ⟨_, rfl, hb, by simp only [Rep]; exact ⟨trivial, rfl⟩⟩
end Go.Proofs.YtaiapalhdejngaaX

set_option linter.unusedVariables false
set_option linter.unusedSimpArgs false
namespace Go.Proofs.YtaiapalhdejngaaX
open Go Go.RowKit Go.Proofs
set_option maxRecDepth 100000
attribute [local go_sem ↓] stepsK_build stepsK_bs appendS
attribute [local go_sem] String.reduceEq String.reduceNe reduceCtorEq Int.reduceEq Nat.reduceAdd Nat.reduceSub Nat.reduceMul Nat.reduceLT Nat.reduceLeDiff Nat.reduceEqDiff Nat.reduceBEq Int.reduceToNat Int.reduceLT Int.reduceLE Int.reduceGT Int.reduceGE Int.reduceAdd Int.reduceSub Int.reduceMul Int.reduceNeg Int.reduceBEq Int.reduceBNe Int.reducePow Int.reduceDiv Int.reduceMod Int.reduceTDiv Int.reduceTMod Int.reduceNatCast
/-! ### hex.value -/
def F99 (n : Nat) (a0 : Int) : Option ((Int) × (Bool)) := (F70 n a0).bind fun v1 => iteB (v1 == (1 : Int)) (some ((IntKind.wrap .u8 (a0 - (48 : Int))), true)) (iteB (v1 == (2 : Int)) (some ((IntKind.wrap .u8 ((IntKind.wrap .u8 (a0 - (97 : Int))) + (10 : Int))), true)) (some ((0 : Int), false)))
set_option maxHeartbeats 4000000 in
theorem F99_ok : ∀ (n : Nat) (a0 : Int) (r : (Int) × (Bool)), F99 n a0 = some r → FnC Try.prog 99 [.imm (.int .u8 a0)] (.tup [.imm (.int .u8 r.1), .imm (.bool r.2)])
 | n, a0, r, h => by
  unfold F99 at h
  refine FnC.goX mixed Try.func99 (by kernel_rfl) rfl ?_
  simp only [Try.ntmps99, List.length_cons, List.length_nil, List.replicate, List.cons_append, List.nil_append, Nat.reduceAdd, Nat.reduceSub]
  refine runX_seq ?_
  refine runX_regionC fun C hC => ?_
  try simp -implicitDefEqProofs (maxSteps := 4000000) (disch := first | omega | decide | (simp only [go_sem]; omega)) only [go_sem, ↓reduceIte]
  repeat (with_reducible refine And.intro (by first | assumption | omega | (simp; done) | (simp; omega)) ?_)
  refine toEnd hC ?_
  refine endX_seq ?_
  refine runX_seq ?_
  refine runX_seq ?_
  refine runX_regionC fun C hC => ?_
  obtain ⟨v1, h1, h⟩ := bnd_some h
  try simp -implicitDefEqProofs (maxSteps := 4000000) (disch := first | omega | decide | (simp only [go_sem]; omega)) only [go_sem, ↓reduceIte]
  repeat (with_reducible refine And.intro (by first | assumption | omega | (simp; done) | (simp; omega)) ?_)
  refine callG_X (by first | rfl | (simp only [go_sem]; done) | (simp only [closedL, closedT, Bool.and_true]; exact closedL_map _ (fun _ => by first | rfl | (simp only [go_sem]; done)) _)) (F70_ok n a0 _ h1) (by repeat (first | exact leL_refl _ | refine leL_cons (by first | exact leT_refl _ | exact leT_virt | exact leT_junk _ | exact leT_sl | exact leT_sln | exact leT_nil | (refine leT_agg (by repeat (first | exact leL_refl _ | refine leL_cons (by first | exact leT_refl _ | exact leT_sl | exact leT_sln | exact leT_nil) ?_)))) ?_)) ?_
  try simp -implicitDefEqProofs (maxSteps := 4000000) (disch := first | omega | decide | (simp only [go_sem]; omega)) only [go_sem, ↓reduceIte]
  repeat (with_reducible refine And.intro (by first | assumption | omega | (simp; done) | (simp; omega)) ?_)
  refine toEnd hC ?_
  refine endX_seq ?_
  refine runX_block ?_
  refine runX_seq ?_
  refine runX_regionC fun C hC => ?_
  try simp -implicitDefEqProofs (maxSteps := 4000000) (disch := first | omega | decide | (simp only [go_sem]; omega)) only [go_sem, ↓reduceIte]
  repeat (with_reducible refine And.intro (by first | assumption | omega | (simp; done) | (simp; omega)) ?_)
  refine toEnd hC ?_
  refine endX_seq ?_
  rcases iteB_some h with ⟨c2, h⟩ | ⟨c2, h⟩
  ·refine runX_condT rfl c2 ?_
   refine runX_seq ?_
   refine runX_regionC fun C hC => ?_
   try simp -implicitDefEqProofs (maxSteps := 4000000) (disch := first | omega | decide | (simp only [go_sem]; omega)) only [go_sem, ↓reduceIte]
   repeat (with_reducible refine And.intro (by first | assumption | omega | (simp; done) | (simp; omega)) ?_)
   refine toEnd hC ?_
   refine endX_seq ?_
   refine runX_ret ?_
   refine endX_blkR ?_
   refine endX_seqR ?_
   refine endX_q ?_
   obtain rfl := Option.some.inj h
   show RetW _ _ _ _ _
   simp only [RetW]
   (try simp -implicitDefEqProofs (maxSteps := 4000000) (disch := first | omega | decide | (simp only [go_sem]; omega)) only [go_sem, ↓reduceIte])
   (try simp (disch := omega) only [if_pos, Nat.sub_zero])
   exact leT_refl _
  ·refine runX_condF rfl c2 ?_
   refine runX_seq ?_
   refine runX_regionC fun C hC => ?_
   try simp -implicitDefEqProofs (maxSteps := 4000000) (disch := first | omega | decide | (simp only [go_sem]; omega)) only [go_sem, ↓reduceIte]
   repeat (with_reducible refine And.intro (by first | assumption | omega | (simp; done) | (simp; omega)) ?_)
   refine toEnd hC ?_
   refine endX_seq ?_
   rcases iteB_some h with ⟨c3, h⟩ | ⟨c3, h⟩
   ·refine runX_condT rfl c3 ?_
    refine runX_seq ?_
    refine runX_regionC fun C hC => ?_
    try simp -implicitDefEqProofs (maxSteps := 4000000) (disch := first | omega | decide | (simp only [go_sem]; omega)) only [go_sem, ↓reduceIte]
    repeat (with_reducible refine And.intro (by first | assumption | omega | (simp; done) | (simp; omega)) ?_)
    refine toEnd hC ?_
    refine endX_seq ?_
    refine runX_ret ?_
    refine endX_blkR ?_
    refine endX_seqR ?_
    refine endX_q ?_
    obtain rfl := Option.some.inj h
    show RetW _ _ _ _ _
    simp only [RetW]
    (try simp -implicitDefEqProofs (maxSteps := 4000000) (disch := first | omega | decide | (simp only [go_sem]; omega)) only [go_sem, ↓reduceIte])
    (try simp (disch := omega) only [if_pos, Nat.sub_zero])
    exact leT_refl _
   ·refine runX_condF rfl c3 ?_
    refine runX_skip ?_
    refine endX_blk ?_
    refine endX_seq ?_
    refine runX_seq ?_
    refine runX_regionC fun C hC => ?_
    try simp -implicitDefEqProofs (maxSteps := 4000000) (disch := first | omega | decide | (simp only [go_sem]; omega)) only [go_sem, ↓reduceIte]
    repeat (with_reducible refine And.intro (by first | assumption | omega | (simp; done) | (simp; omega)) ?_)
    refine toEnd hC ?_
    refine endX_seq ?_
    refine runX_ret ?_
    refine endX_q ?_
    obtain rfl := Option.some.inj h
    show RetW _ _ _ _ _
    simp only [RetW]
    (try simp -implicitDefEqProofs (maxSteps := 4000000) (disch := first | omega | decide | (simp only [go_sem]; omega)) only [go_sem, ↓reduceIte])
    (try simp (disch := omega) only [if_pos, Nat.sub_zero])
    exact leT_refl _
end Go.Proofs.YtaiapalhdejngaaX

set_option linter.unusedVariables false
set_option linter.unusedSimpArgs false
namespace Go.Proofs.YtaiapalhdejngaaX
open Go Go.RowKit Go.Proofs
set_option maxRecDepth 100000
attribute [local go_sem ↓] stepsK_build stepsK_bs appendS
attribute [local go_sem] String.reduceEq String.reduceNe reduceCtorEq Int.reduceEq Nat.reduceAdd Nat.reduceSub Nat.reduceMul Nat.reduceLT Nat.reduceLeDiff Nat.reduceEqDiff Nat.reduceBEq Int.reduceToNat Int.reduceLT Int.reduceLE Int.reduceGT Int.reduceGE Int.reduceAdd Int.reduceSub Int.reduceMul Int.reduceNeg Int.reduceBEq Int.reduceBNe Int.reducePow Int.reduceDiv Int.reduceMod Int.reduceTDiv Int.reduceTMod Int.reduceNatCast
/-! ### hex.ReadHex -/
def F75_S1 (a0 : List UInt8) (x2 : Int) (x3 : List (Int)) : St := ⟨[.imm (.string (bs a0)), .junk, .junk, .junk, .rsl 0 1 0 x3.length, .imm (.int .i64 x2), .junk, .junk, .junk, .junk, .junk, .junk, .junk, .junk, .junk, .junk, .junk, .junk, .junk, .junk, .junk, .junk, .junk, .junk, .junk, .junk, .junk, .junk, .junk, .junk, .junk, .junk, .junk, .junk, .junk, .junk, .junk, .junk, .junk, .junk, .junk, .junk, .junk, .junk, .junk, .junk, .junk, .junk, .junk], [some (.buf 5 1 (List.map byteT x3) 0)]⟩
def F75_L1 : Nat → (List UInt8) → (Int) → (List (Int)) → Option ((List (Int)) × (Bool))
 | 0, _, _, _ => none
 | m1 + 1, a0, x2, x3 => iteB (decide (x2 < (a0.length : Int))) (grd (0 ≤ x2 ∧ x2 < (a0.length : Int)) ((F99 m1 ((a0.getD x2.toNat 0).toNat : Int)).bind fun v6 => grd (0 ≤ (IntKind.wrap .i64 (x2 + (1 : Int))) ∧ (IntKind.wrap .i64 (x2 + (1 : Int))) < (a0.length : Int)) ((F99 m1 ((a0.getD (IntKind.wrap .i64 (x2 + (1 : Int))).toNat 0).toNat : Int)).bind fun v8 => iteB (!v6.2) (some ([], false)) (iteB (!v8.2) (some ([], false)) (grd ((x3.length + 1) ≤ 549755813888) (F75_L1 m1 a0 (IntKind.wrap .i64 (x2 + (2 : Int))) (x3 ++ [(IntKind.wrap .u8 (bOr .u8 (IntKind.wrap .u8 (bShl .u8 v6.1 4)) v8.1))]))))))) (some (x3, true))
def F75 (n : Nat) (a0 : List UInt8) : Option ((List (Int)) × (Bool)) := iteB (((a0.length : Int).tmod (2 : Int)) != (0 : Int)) (some ([], false)) (F75_L1 n a0 (0 : Int) [])
set_option maxHeartbeats 4000000 in
theorem F75_ok : ∀ (n : Nat) (a0 : List UInt8) (r : (List (Int)) × (Bool)), F75 n a0 = some r → FnC Try.prog 75 [.imm (.string (bs a0))] (.tup [.sl 1 false (List.map byteT r.1), .imm (.bool r.2)])
 | n, a0, r, h => by
  unfold F75 at h
  refine FnC.goX mixed Try.func75 (by kernel_rfl) rfl ?_
  simp only [Try.ntmps75, List.length_cons, List.length_nil, List.replicate, List.cons_append, List.nil_append, Nat.reduceAdd, Nat.reduceSub]
  refine runX_seq ?_
  refine runX_regionC fun C hC => ?_
  try simp -implicitDefEqProofs (disch := omega) only [go_sem, ↓reduceIte]
  refine toEnd hC ?_
  refine endX_seq ?_
  refine runX_seq ?_
  refine runX_seq ?_
  refine runX_regionC fun C hC => ?_
  try simp -implicitDefEqProofs (disch := omega) only [go_sem, ↓reduceIte]
  refine toEnd hC ?_
  refine endX_seq ?_
  rcases iteB_some h with ⟨c1, h⟩ | ⟨c1, h⟩
  ·refine runX_condT rfl c1 ?_
   refine runX_seq ?_
   refine runX_regionC fun C hC => ?_
   try simp -implicitDefEqProofs (disch := omega) only [go_sem, ↓reduceIte]
   refine toEnd hC ?_
   refine endX_seq ?_
   refine runX_ret ?_
   refine endX_seqR ?_
   refine endX_q ?_
   obtain rfl := Option.some.inj h
   show RetW _ _ _ _ _
   simp only [RetW]
   (try simp -implicitDefEqProofs (disch := omega) only [go_sem, ↓reduceIte])
   (try simp (disch := omega) only [if_pos, Nat.sub_zero])
   first | exact leT_refl _ | (refine ⟨rfl, ?_⟩; first | exact leT_refl _ | exact leT_sl | exact leT_sln | exact leT_nil | (refine leT_tup (by repeat (first | exact leL_refl _ | refine leL_cons (by first | exact leT_refl _ | exact leT_virt | exact leT_junk _ | exact leT_sl | exact leT_sln | exact leT_nil | (refine leT_agg (by repeat (first | exact leL_refl _ | refine leL_cons (by first | exact leT_refl _ | exact leT_sl | exact leT_sln | exact leT_nil) ?_)))) ?_))) | (refine leT_agg (by repeat (first | exact leL_refl _ | refine leL_cons (by first | exact leT_refl _ | exact leT_virt | exact leT_junk _ | exact leT_sl | exact leT_sln | exact leT_nil | (refine leT_agg (by repeat (first | exact leL_refl _ | refine leL_cons (by first | exact leT_refl _ | exact leT_sl | exact leT_sln | exact leT_nil) ?_)))) ?_)))) | (first | exact leT_refl _ | exact leT_sl | exact leT_sln | exact leT_nil | (refine leT_tup (by repeat (first | exact leL_refl _ | refine leL_cons (by first | exact leT_refl _ | exact leT_virt | exact leT_junk _ | exact leT_sl | exact leT_sln | exact leT_nil | (refine leT_agg (by repeat (first | exact leL_refl _ | refine leL_cons (by first | exact leT_refl _ | exact leT_sl | exact leT_sln | exact leT_nil) ?_)))) ?_))) | (refine leT_agg (by repeat (first | exact leL_refl _ | refine leL_cons (by first | exact leT_refl _ | exact leT_virt | exact leT_junk _ | exact leT_sl | exact leT_sln | exact leT_nil | (refine leT_agg (by repeat (first | exact leL_refl _ | refine leL_cons (by first | exact leT_refl _ | exact leT_sl | exact leT_sln | exact leT_nil) ?_)))) ?_)))) | (simp only [List.append_assoc, List.cons_append, List.nil_append]; exact leT_refl _) | (rw [List.take_of_length_le (by simp)]; (try simp only [List.append_assoc, List.cons_append, List.nil_append]); exact leT_refl _)
  ·refine runX_condF rfl c1 ?_
   refine runX_skip ?_
   refine endX_seq ?_
   refine runX_seq ?_
   refine runX_regionC fun C hC => ?_
   try simp -implicitDefEqProofs (disch := omega) only [go_sem, ↓reduceIte]
   refine toEnd hC ?_
   refine endX_seq ?_
   refine runX_seq ?_
   refine runX_seq ?_
   refine runX_regionC fun C hC => ?_
   try simp -implicitDefEqProofs (disch := omega) only [go_sem, ↓reduceIte]
   refine toEnd hC ?_
   refine endX_seq ?_
   refine runX_block ?_
   refine runX_loop [0, 4, 5] (fun m S => ∃ (x2 : Int) (x3 : List (Int)), S = F75_S1 a0 x2 x3 ∧ m ≤ n ∧ F75_L1 m a0 x2 x3 = some r) n ⟨F75_S1 a0 (0 : Int) [], ?_, (0 : Int), [], rfl, Nat.le_refl _, h⟩ ?_
   ·(try simp -implicitDefEqProofs (disch := omega) only [go_sem, ↓reduceIte])
    simp only [F75_S1]
    refine leS_trans (leS_pad _ _ 1) ?_
    simp only [List.replicate, List.cons_append, List.nil_append]
    refine leS_virt 0 5 1 rfl ?_ ?_ rfl
    ·repeat (first | exact leL_refl _ | refine leL_cons (by first | exact leT_refl _ | exact leT_virt | exact leT_junk _ | exact leT_sl | exact leT_sln | exact leT_nil | (refine leT_agg (by repeat (first | exact leL_refl _ | refine leL_cons (by first | exact leT_refl _ | exact leT_sl | exact leT_sln | exact leT_nil) ?_)))) ?_)
    ·repeat (first | exact leOs_refl _ | refine leOs.cons (by first | exact leO.same _ | (refine leO.box (leT_agg (by repeat (first | exact leL_refl _ | refine leL_cons (by first | exact leT_refl _ | exact leT_virt | exact leT_junk _ | exact leT_sl | exact leT_sln | exact leT_nil | (refine leT_agg (by repeat (first | exact leL_refl _ | refine leL_cons (by first | exact leT_refl _ | exact leT_sl | exact leT_sln | exact leT_nil) ?_)))) ?_))) rfl) | (refine leO.box (by first | exact leT_virt | exact leT_sl | exact leT_sln) rfl)) ?_)
   ·clear h
    rintro m1 S ⟨x2, x3, rfl, hm1, h⟩
    cases m1 with
    | zero => first | cases (show (none : Option _) = some _ from h) | (rw [F75_L1] at h; cases h)
    | succ m1 =>
     rw [F75_L1] at h
     simp only [F75_S1]
     refine runX_seq ?_
     refine runX_seq ?_
     refine runX_regionC fun C hC => ?_
     try simp -implicitDefEqProofs (maxSteps := 4000000) (disch := first | omega | decide | (simp only [go_sem]; omega)) only [go_sem, ↓reduceIte]
     repeat (with_reducible refine And.intro (by first | assumption | omega | (simp; done) | (simp; omega)) ?_)
     refine toEnd hC ?_
     refine endX_seq ?_
     rcases iteB_some h with ⟨c4, h⟩ | ⟨c4, h⟩
     ·refine runX_condT rfl c4 ?_
      refine runX_skip ?_
      refine endX_seq ?_
      refine runX_seq ?_
      refine runX_block ?_
      refine runX_seq ?_
      refine runX_regionC fun C hC => ?_
      obtain ⟨g5, h⟩ := grd_some h
      obtain ⟨v6, h6, h⟩ := bnd_some h
      try simp -implicitDefEqProofs (maxSteps := 4000000) (disch := first | omega | decide | (simp only [go_sem]; omega)) only [go_sem, ↓reduceIte]
      repeat (with_reducible refine And.intro (by first | assumption | omega | (simp; done) | (simp; omega)) ?_)
      refine callG_X (by first | rfl | (simp only [go_sem]; done) | (simp only [closedL, closedT, Bool.and_true]; exact closedL_map _ (fun _ => by first | rfl | (simp only [go_sem]; done)) _)) (F99_ok m1 ((a0.getD x2.toNat 0).toNat : Int) _ h6) (by repeat (first | exact leL_refl _ | refine leL_cons (by first | exact leT_refl _ | exact leT_virt | exact leT_junk _ | exact leT_sl | exact leT_sln | exact leT_nil | (refine leT_agg (by repeat (first | exact leL_refl _ | refine leL_cons (by first | exact leT_refl _ | exact leT_sl | exact leT_sln | exact leT_nil) ?_)))) ?_)) ?_
      try simp -implicitDefEqProofs (maxSteps := 4000000) (disch := first | omega | decide | (simp only [go_sem]; omega)) only [go_sem, ↓reduceIte]
      repeat (with_reducible refine And.intro (by first | assumption | omega | (simp; done) | (simp; omega)) ?_)
      refine toEnd hC ?_
      refine endX_seq ?_
      refine runX_seq ?_
      refine runX_regionC fun C hC => ?_
      obtain ⟨g7, h⟩ := grd_some h
      obtain ⟨v8, h8, h⟩ := bnd_some h
      try simp -implicitDefEqProofs (maxSteps := 4000000) (disch := first | omega | decide | (simp only [go_sem]; omega)) only [go_sem, ↓reduceIte]
      repeat (with_reducible refine And.intro (by first | assumption | omega | (simp; done) | (simp; omega)) ?_)
      refine callG_X (by first | rfl | (simp only [go_sem]; done) | (simp only [closedL, closedT, Bool.and_true]; exact closedL_map _ (fun _ => by first | rfl | (simp only [go_sem]; done)) _)) (F99_ok m1 ((a0.getD (IntKind.wrap .i64 (x2 + (1 : Int))).toNat 0).toNat : Int) _ h8) (by repeat (first | exact leL_refl _ | refine leL_cons (by first | exact leT_refl _ | exact leT_virt | exact leT_junk _ | exact leT_sl | exact leT_sln | exact leT_nil | (refine leT_agg (by repeat (first | exact leL_refl _ | refine leL_cons (by first | exact leT_refl _ | exact leT_sl | exact leT_sln | exact leT_nil) ?_)))) ?_)) ?_
      try simp -implicitDefEqProofs (maxSteps := 4000000) (disch := first | omega | decide | (simp only [go_sem]; omega)) only [go_sem, ↓reduceIte]
      repeat (with_reducible refine And.intro (by first | assumption | omega | (simp; done) | (simp; omega)) ?_)
      refine toEnd hC ?_
      refine endX_seq ?_
      refine runX_seq ?_
      refine runX_seq ?_
      refine runX_regionC fun C hC => ?_
      try simp -implicitDefEqProofs (disch := omega) only [go_sem, ↓reduceIte]
      rcases iteB_some h with ⟨c9, h⟩ | ⟨c9, h⟩
      ·refine guardK_F c9 ?_
       try simp -implicitDefEqProofs (disch := omega) only [go_sem, ↓reduceIte]
       refine toEnd hC ?_
       refine endX_seq ?_
       refine runX_condT rfl rfl ?_
       refine runX_seq ?_
       refine runX_regionC fun C hC => ?_
       try simp -implicitDefEqProofs (disch := omega) only [go_sem, ↓reduceIte]
       refine toEnd hC ?_
       refine endX_seq ?_
       refine runX_ret ?_
       refine endX_seqR ?_
       refine endX_blkR ?_
       refine endX_seqR ?_
       refine endX_q (roundQ_ret ?_)
       refine endX_blkR ?_
       refine endX_seqR ?_
       refine endX_q ?_
       obtain rfl := Option.some.inj h
       show RetW _ _ _ _ _
       simp only [RetW]
       (try simp -implicitDefEqProofs (disch := omega) only [go_sem, ↓reduceIte])
       (try simp (disch := omega) only [if_pos, Nat.sub_zero])
       first | exact leT_refl _ | (refine ⟨rfl, ?_⟩; first | exact leT_refl _ | exact leT_sl | exact leT_sln | exact leT_nil | (refine leT_tup (by repeat (first | exact leL_refl _ | refine leL_cons (by first | exact leT_refl _ | exact leT_virt | exact leT_junk _ | exact leT_sl | exact leT_sln | exact leT_nil | (refine leT_agg (by repeat (first | exact leL_refl _ | refine leL_cons (by first | exact leT_refl _ | exact leT_sl | exact leT_sln | exact leT_nil) ?_)))) ?_))) | (refine leT_agg (by repeat (first | exact leL_refl _ | refine leL_cons (by first | exact leT_refl _ | exact leT_virt | exact leT_junk _ | exact leT_sl | exact leT_sln | exact leT_nil | (refine leT_agg (by repeat (first | exact leL_refl _ | refine leL_cons (by first | exact leT_refl _ | exact leT_sl | exact leT_sln | exact leT_nil) ?_)))) ?_)))) | (first | exact leT_refl _ | exact leT_sl | exact leT_sln | exact leT_nil | (refine leT_tup (by repeat (first | exact leL_refl _ | refine leL_cons (by first | exact leT_refl _ | exact leT_virt | exact leT_junk _ | exact leT_sl | exact leT_sln | exact leT_nil | (refine leT_agg (by repeat (first | exact leL_refl _ | refine leL_cons (by first | exact leT_refl _ | exact leT_sl | exact leT_sln | exact leT_nil) ?_)))) ?_))) | (refine leT_agg (by repeat (first | exact leL_refl _ | refine leL_cons (by first | exact leT_refl _ | exact leT_virt | exact leT_junk _ | exact leT_sl | exact leT_sln | exact leT_nil | (refine leT_agg (by repeat (first | exact leL_refl _ | refine leL_cons (by first | exact leT_refl _ | exact leT_sl | exact leT_sln | exact leT_nil) ?_)))) ?_)))) | (simp only [List.append_assoc, List.cons_append, List.nil_append]; exact leT_refl _) | (rw [List.take_of_length_le (by simp)]; (try simp only [List.append_assoc, List.cons_append, List.nil_append]); exact leT_refl _)
      ·refine guardK_T c9 ?_
       try simp -implicitDefEqProofs (disch := omega) only [go_sem, ↓reduceIte]
       refine toEnd hC ?_
       refine endX_seq ?_
       rcases iteB_some h with ⟨c10, h⟩ | ⟨c10, h⟩
       ·refine runX_condT rfl c10 ?_
        refine runX_seq ?_
        refine runX_regionC fun C hC => ?_
        try simp -implicitDefEqProofs (disch := omega) only [go_sem, ↓reduceIte]
        refine toEnd hC ?_
        refine endX_seq ?_
        refine runX_ret ?_
        refine endX_seqR ?_
        refine endX_blkR ?_
        refine endX_seqR ?_
        refine endX_q (roundQ_ret ?_)
        refine endX_blkR ?_
        refine endX_seqR ?_
        refine endX_q ?_
        obtain rfl := Option.some.inj h
        show RetW _ _ _ _ _
        simp only [RetW]
        (try simp -implicitDefEqProofs (maxSteps := 4000000) (disch := first | omega | decide | (simp only [go_sem]; omega)) only [go_sem, ↓reduceIte])
        (try simp (disch := omega) only [if_pos, Nat.sub_zero])
        first | exact leT_refl _ | (refine ⟨rfl, ?_⟩; first | exact leT_refl _ | exact leT_sl | exact leT_sln | exact leT_nil | (refine leT_tup (by repeat (first | exact leL_refl _ | refine leL_cons (by first | exact leT_refl _ | exact leT_virt | exact leT_junk _ | exact leT_sl | exact leT_sln | exact leT_nil | (refine leT_agg (by repeat (first | exact leL_refl _ | refine leL_cons (by first | exact leT_refl _ | exact leT_sl | exact leT_sln | exact leT_nil) ?_)))) ?_))) | (refine leT_agg (by repeat (first | exact leL_refl _ | refine leL_cons (by first | exact leT_refl _ | exact leT_virt | exact leT_junk _ | exact leT_sl | exact leT_sln | exact leT_nil | (refine leT_agg (by repeat (first | exact leL_refl _ | refine leL_cons (by first | exact leT_refl _ | exact leT_sl | exact leT_sln | exact leT_nil) ?_)))) ?_)))) | (first | exact leT_refl _ | exact leT_sl | exact leT_sln | exact leT_nil | (refine leT_tup (by repeat (first | exact leL_refl _ | refine leL_cons (by first | exact leT_refl _ | exact leT_virt | exact leT_junk _ | exact leT_sl | exact leT_sln | exact leT_nil | (refine leT_agg (by repeat (first | exact leL_refl _ | refine leL_cons (by first | exact leT_refl _ | exact leT_sl | exact leT_sln | exact leT_nil) ?_)))) ?_))) | (refine leT_agg (by repeat (first | exact leL_refl _ | refine leL_cons (by first | exact leT_refl _ | exact leT_virt | exact leT_junk _ | exact leT_sl | exact leT_sln | exact leT_nil | (refine leT_agg (by repeat (first | exact leL_refl _ | refine leL_cons (by first | exact leT_refl _ | exact leT_sl | exact leT_sln | exact leT_nil) ?_)))) ?_)))) | (simp only [List.append_assoc, List.cons_append, List.nil_append]; exact leT_refl _) | (rw [List.take_of_length_le (by simp)]; (try simp only [List.append_assoc, List.cons_append, List.nil_append]); exact leT_refl _)
       ·refine runX_condF rfl c10 ?_
        refine runX_skip ?_
        refine endX_seq ?_
        refine runX_regionC fun C hC => ?_
        try simp -implicitDefEqProofs (maxSteps := 4000000) (disch := first | omega | decide | (simp only [go_sem]; omega)) only [go_sem, ↓reduceIte]
        repeat (with_reducible refine And.intro (by first | assumption | omega | (simp; done) | (simp; omega)) ?_)
        refine bs_go <| buildX_val ?_
        obtain ⟨g11, h⟩ := grd_some h
        try simp -implicitDefEqProofs (maxSteps := 4000000) (disch := first | omega | decide | (simp only [go_sem]; omega)) only [go_sem, ↓reduceIte]
        repeat (with_reducible refine And.intro (by first | assumption | omega | (simp; done) | (simp; omega)) ?_)
        refine toEnd hC ?_
        refine endX_blk ?_
        refine endX_seq ?_
        refine runX_regionC fun C hC => ?_
        try simp -implicitDefEqProofs (disch := omega) only [go_sem, ↓reduceIte]
        refine toEnd hC ?_
        refine endX_q (roundQ_normal ⟨m1, by omega, F75_S1 a0 (IntKind.wrap .i64 (x2 + (2 : Int))) (x3 ++ [(IntKind.wrap .u8 (bOr .u8 (IntKind.wrap .u8 (bShl .u8 v6.1 4)) v8.1))]), ?_, (IntKind.wrap .i64 (x2 + (2 : Int))), (x3 ++ [(IntKind.wrap .u8 (bOr .u8 (IntKind.wrap .u8 (bShl .u8 v6.1 4)) v8.1))]), rfl, by omega, h⟩)
        simp only [F75_S1]
        (try simp -implicitDefEqProofs (disch := omega) only [go_sem, ↓reduceIte])
        exact leS_refl _
     ·refine runX_condF rfl c4 ?_
      refine runX_exit ?_
      refine endX_seqE ?_
      refine endX_q (roundQ_exit ?_)
      refine endX_blkE ?_
      refine endX_seq ?_
      refine runX_seq ?_
      refine runX_regionC fun C hC => ?_
      try simp -implicitDefEqProofs (disch := omega) only [go_sem, ↓reduceIte]
      refine toEnd hC ?_
      refine endX_seq ?_
      refine runX_ret ?_
      refine endX_q ?_
      obtain rfl := Option.some.inj h
      show RetW _ _ _ _ _
      simp only [RetW]
      (try simp -implicitDefEqProofs (disch := omega) only [go_sem, ↓reduceIte])
      (try simp (disch := omega) only [if_pos, Nat.sub_zero])
      first | exact leT_refl _ | (refine ⟨rfl, ?_⟩; first | exact leT_refl _ | exact leT_sl | exact leT_sln | exact leT_nil | (refine leT_tup (by repeat (first | exact leL_refl _ | refine leL_cons (by first | exact leT_refl _ | exact leT_virt | exact leT_junk _ | exact leT_sl | exact leT_sln | exact leT_nil | (refine leT_agg (by repeat (first | exact leL_refl _ | refine leL_cons (by first | exact leT_refl _ | exact leT_sl | exact leT_sln | exact leT_nil) ?_)))) ?_))) | (refine leT_agg (by repeat (first | exact leL_refl _ | refine leL_cons (by first | exact leT_refl _ | exact leT_virt | exact leT_junk _ | exact leT_sl | exact leT_sln | exact leT_nil | (refine leT_agg (by repeat (first | exact leL_refl _ | refine leL_cons (by first | exact leT_refl _ | exact leT_sl | exact leT_sln | exact leT_nil) ?_)))) ?_)))) | (first | exact leT_refl _ | exact leT_sl | exact leT_sln | exact leT_nil | (refine leT_tup (by repeat (first | exact leL_refl _ | refine leL_cons (by first | exact leT_refl _ | exact leT_virt | exact leT_junk _ | exact leT_sl | exact leT_sln | exact leT_nil | (refine leT_agg (by repeat (first | exact leL_refl _ | refine leL_cons (by first | exact leT_refl _ | exact leT_sl | exact leT_sln | exact leT_nil) ?_)))) ?_))) | (refine leT_agg (by repeat (first | exact leL_refl _ | refine leL_cons (by first | exact leT_refl _ | exact leT_virt | exact leT_junk _ | exact leT_sl | exact leT_sln | exact leT_nil | (refine leT_agg (by repeat (first | exact leL_refl _ | refine leL_cons (by first | exact leT_refl _ | exact leT_sl | exact leT_sln | exact leT_nil) ?_)))) ?_)))) | (simp only [List.append_assoc, List.cons_append, List.nil_append]; exact leT_refl _) | (rw [List.take_of_length_le (by simp)]; (try simp only [List.append_assoc, List.cons_append, List.nil_append]); exact leT_refl _)
end Go.Proofs.YtaiapalhdejngaaX

set_option linter.unusedVariables false
set_option linter.unusedSimpArgs false
namespace Go.Proofs.YtaiapalhdejngaaX
open Go Go.RowKit Go.Proofs
set_option maxRecDepth 100000
attribute [local go_sem ↓] stepsK_build stepsK_bs appendS
attribute [local go_sem] String.reduceEq String.reduceNe reduceCtorEq Int.reduceEq Nat.reduceAdd Nat.reduceSub Nat.reduceMul Nat.reduceLT Nat.reduceLeDiff Nat.reduceEqDiff Nat.reduceBEq Int.reduceToNat Int.reduceLT Int.reduceLE Int.reduceGT Int.reduceGE Int.reduceAdd Int.reduceSub Int.reduceMul Int.reduceNeg Int.reduceBEq Int.reduceBNe Int.reducePow Int.reduceDiv Int.reduceMod Int.reduceTDiv Int.reduceTMod Int.reduceNatCast
/-! ### etag.Sum -/
def F37 (n : Nat) (a0 : List UInt8) : Option ((List (Int)) × (Bool)) := (F75 n a0).bind fun v1 => iteB (!v1.2) (some ([], false)) (iteB ((v1.1.length : Int) != (16 : Int)) (some ([], false)) (some (v1.1, true)))
set_option maxHeartbeats 4000000 in
theorem F37_ok : ∀ (n : Nat) (a0 : List UInt8) (r : (List (Int)) × (Bool)), F37 n a0 = some r → FnC Try.prog 37 [.imm (.string (bs a0))] (.tup [.sl 1 false (List.map byteT r.1), .imm (.bool r.2)])
 | n, a0, r, h => by
  unfold F37 at h
  refine FnC.goX mixed Try.func37 (by kernel_rfl) rfl ?_
  simp only [Try.ntmps37, List.length_cons, List.length_nil, List.replicate, List.cons_append, List.nil_append, Nat.reduceAdd, Nat.reduceSub]
  refine runX_seq ?_
  refine runX_regionC fun C hC => ?_
  try simp -implicitDefEqProofs (disch := omega) only [go_sem, ↓reduceIte]
  refine toEnd hC ?_
  refine endX_seq ?_
  refine runX_seq ?_
  refine runX_regionC fun C hC => ?_
  obtain ⟨v1, h1, h⟩ := bnd_some h
  try simp -implicitDefEqProofs (maxSteps := 4000000) (disch := first | omega | decide | (simp only [go_sem]; omega)) only [go_sem, ↓reduceIte]
  repeat (with_reducible refine And.intro (by first | assumption | omega | (simp; done) | (simp; omega)) ?_)
  refine callG_X (by first | rfl | (simp only [go_sem]; done) | (simp only [closedL, closedT, Bool.and_true]; exact closedL_map _ (fun _ => by first | rfl | (simp only [go_sem]; done)) _)) (F75_ok n a0 _ h1) (by repeat (first | exact leL_refl _ | refine leL_cons (by first | exact leT_refl _ | exact leT_virt | exact leT_junk _ | exact leT_sl | exact leT_sln | exact leT_nil | (refine leT_agg (by repeat (first | exact leL_refl _ | refine leL_cons (by first | exact leT_refl _ | exact leT_sl | exact leT_sln | exact leT_nil) ?_)))) ?_)) ?_
  try simp -implicitDefEqProofs (maxSteps := 4000000) (disch := first | omega | decide | (simp only [go_sem]; omega)) only [go_sem, ↓reduceIte]
  repeat (with_reducible refine And.intro (by first | assumption | omega | (simp; done) | (simp; omega)) ?_)
  refine toEnd hC ?_
  refine endX_seq ?_
  refine runX_seq ?_
  refine runX_seq ?_
  refine runX_regionC fun C hC => ?_
  try simp -implicitDefEqProofs (disch := omega) only [go_sem, ↓reduceIte]
  rcases iteB_some h with ⟨c2, h⟩ | ⟨c2, h⟩
  ·refine guardK_F c2 ?_
   try simp -implicitDefEqProofs (disch := omega) only [go_sem, ↓reduceIte]
   refine toEnd hC ?_
   refine endX_seq ?_
   refine runX_condT rfl rfl ?_
   refine runX_seq ?_
   refine runX_regionC fun C hC => ?_
   try simp -implicitDefEqProofs (disch := omega) only [go_sem, ↓reduceIte]
   refine toEnd hC ?_
   refine endX_seq ?_
   refine runX_ret ?_
   refine endX_seqR ?_
   refine endX_q ?_
   obtain rfl := Option.some.inj h
   show RetW _ _ _ _ _
   simp only [RetW]
   (try simp -implicitDefEqProofs (disch := omega) only [go_sem, ↓reduceIte])
   (try simp (disch := omega) only [if_pos, Nat.sub_zero])
   first | exact leT_refl _ | (refine ⟨rfl, ?_⟩; first | exact leT_refl _ | exact leT_sl | exact leT_sln | exact leT_nil | (refine leT_tup (by repeat (first | exact leL_refl _ | refine leL_cons (by first | exact leT_refl _ | exact leT_virt | exact leT_junk _ | exact leT_sl | exact leT_sln | exact leT_nil | (refine leT_agg (by repeat (first | exact leL_refl _ | refine leL_cons (by first | exact leT_refl _ | exact leT_sl | exact leT_sln | exact leT_nil) ?_)))) ?_))) | (refine leT_agg (by repeat (first | exact leL_refl _ | refine leL_cons (by first | exact leT_refl _ | exact leT_virt | exact leT_junk _ | exact leT_sl | exact leT_sln | exact leT_nil | (refine leT_agg (by repeat (first | exact leL_refl _ | refine leL_cons (by first | exact leT_refl _ | exact leT_sl | exact leT_sln | exact leT_nil) ?_)))) ?_)))) | (first | exact leT_refl _ | exact leT_sl | exact leT_sln | exact leT_nil | (refine leT_tup (by repeat (first | exact leL_refl _ | refine leL_cons (by first | exact leT_refl _ | exact leT_virt | exact leT_junk _ | exact leT_sl | exact leT_sln | exact leT_nil | (refine leT_agg (by repeat (first | exact leL_refl _ | refine leL_cons (by first | exact leT_refl _ | exact leT_sl | exact leT_sln | exact leT_nil) ?_)))) ?_))) | (refine leT_agg (by repeat (first | exact leL_refl _ | refine leL_cons (by first | exact leT_refl _ | exact leT_virt | exact leT_junk _ | exact leT_sl | exact leT_sln | exact leT_nil | (refine leT_agg (by repeat (first | exact leL_refl _ | refine leL_cons (by first | exact leT_refl _ | exact leT_sl | exact leT_sln | exact leT_nil) ?_)))) ?_)))) | (simp only [List.append_assoc, List.cons_append, List.nil_append]; exact leT_refl _) | (rw [List.take_of_length_le (by simp)]; (try simp only [List.append_assoc, List.cons_append, List.nil_append]); exact leT_refl _)
  ·refine guardK_T c2 ?_
   try simp -implicitDefEqProofs (disch := omega) only [go_sem, ↓reduceIte]
   refine toEnd hC ?_
   refine endX_seq ?_
   rcases iteB_some h with ⟨c3, h⟩ | ⟨c3, h⟩
   ·refine runX_condT rfl c3 ?_
    refine runX_seq ?_
    refine runX_regionC fun C hC => ?_
    try simp -implicitDefEqProofs (disch := omega) only [go_sem, ↓reduceIte]
    refine toEnd hC ?_
    refine endX_seq ?_
    refine runX_ret ?_
    refine endX_seqR ?_
    refine endX_q ?_
    obtain rfl := Option.some.inj h
    show RetW _ _ _ _ _
    simp only [RetW]
    (try simp -implicitDefEqProofs (disch := omega) only [go_sem, ↓reduceIte])
    (try simp (disch := omega) only [if_pos, Nat.sub_zero])
    first | exact leT_refl _ | (refine ⟨rfl, ?_⟩; first | exact leT_refl _ | exact leT_sl | exact leT_sln | exact leT_nil | (refine leT_tup (by repeat (first | exact leL_refl _ | refine leL_cons (by first | exact leT_refl _ | exact leT_virt | exact leT_junk _ | exact leT_sl | exact leT_sln | exact leT_nil | (refine leT_agg (by repeat (first | exact leL_refl _ | refine leL_cons (by first | exact leT_refl _ | exact leT_sl | exact leT_sln | exact leT_nil) ?_)))) ?_))) | (refine leT_agg (by repeat (first | exact leL_refl _ | refine leL_cons (by first | exact leT_refl _ | exact leT_virt | exact leT_junk _ | exact leT_sl | exact leT_sln | exact leT_nil | (refine leT_agg (by repeat (first | exact leL_refl _ | refine leL_cons (by first | exact leT_refl _ | exact leT_sl | exact leT_sln | exact leT_nil) ?_)))) ?_)))) | (first | exact leT_refl _ | exact leT_sl | exact leT_sln | exact leT_nil | (refine leT_tup (by repeat (first | exact leL_refl _ | refine leL_cons (by first | exact leT_refl _ | exact leT_virt | exact leT_junk _ | exact leT_sl | exact leT_sln | exact leT_nil | (refine leT_agg (by repeat (first | exact leL_refl _ | refine leL_cons (by first | exact leT_refl _ | exact leT_sl | exact leT_sln | exact leT_nil) ?_)))) ?_))) | (refine leT_agg (by repeat (first | exact leL_refl _ | refine leL_cons (by first | exact leT_refl _ | exact leT_virt | exact leT_junk _ | exact leT_sl | exact leT_sln | exact leT_nil | (refine leT_agg (by repeat (first | exact leL_refl _ | refine leL_cons (by first | exact leT_refl _ | exact leT_sl | exact leT_sln | exact leT_nil) ?_)))) ?_)))) | (simp only [List.append_assoc, List.cons_append, List.nil_append]; exact leT_refl _) | (rw [List.take_of_length_le (by simp)]; (try simp only [List.append_assoc, List.cons_append, List.nil_append]); exact leT_refl _)
   ·refine runX_condF rfl c3 ?_
    refine runX_skip ?_
    refine endX_seq ?_
    refine runX_seq ?_
    refine runX_regionC fun C hC => ?_
    try simp -implicitDefEqProofs (disch := omega) only [go_sem, ↓reduceIte]
    refine toEnd hC ?_
    refine endX_seq ?_
    refine runX_ret ?_
    refine endX_q ?_
    obtain rfl := Option.some.inj h
    show RetW _ _ _ _ _
    simp only [RetW]
    (try simp -implicitDefEqProofs (disch := omega) only [go_sem, ↓reduceIte])
    (try simp (disch := omega) only [if_pos, Nat.sub_zero])
    first | exact leT_refl _ | (refine ⟨rfl, ?_⟩; first | exact leT_refl _ | exact leT_sl | exact leT_sln | exact leT_nil | (refine leT_tup (by repeat (first | exact leL_refl _ | refine leL_cons (by first | exact leT_refl _ | exact leT_virt | exact leT_junk _ | exact leT_sl | exact leT_sln | exact leT_nil | (refine leT_agg (by repeat (first | exact leL_refl _ | refine leL_cons (by first | exact leT_refl _ | exact leT_sl | exact leT_sln | exact leT_nil) ?_)))) ?_))) | (refine leT_agg (by repeat (first | exact leL_refl _ | refine leL_cons (by first | exact leT_refl _ | exact leT_virt | exact leT_junk _ | exact leT_sl | exact leT_sln | exact leT_nil | (refine leT_agg (by repeat (first | exact leL_refl _ | refine leL_cons (by first | exact leT_refl _ | exact leT_sl | exact leT_sln | exact leT_nil) ?_)))) ?_)))) | (first | exact leT_refl _ | exact leT_sl | exact leT_sln | exact leT_nil | (refine leT_tup (by repeat (first | exact leL_refl _ | refine leL_cons (by first | exact leT_refl _ | exact leT_virt | exact leT_junk _ | exact leT_sl | exact leT_sln | exact leT_nil | (refine leT_agg (by repeat (first | exact leL_refl _ | refine leL_cons (by first | exact leT_refl _ | exact leT_sl | exact leT_sln | exact leT_nil) ?_)))) ?_))) | (refine leT_agg (by repeat (first | exact leL_refl _ | refine leL_cons (by first | exact leT_refl _ | exact leT_virt | exact leT_junk _ | exact leT_sl | exact leT_sln | exact leT_nil | (refine leT_agg (by repeat (first | exact leL_refl _ | refine leL_cons (by first | exact leT_refl _ | exact leT_sl | exact leT_sln | exact leT_nil) ?_)))) ?_)))) | (simp only [List.append_assoc, List.cons_append, List.nil_append]; exact leT_refl _) | (rw [List.take_of_length_le (by simp)]; (try simp only [List.append_assoc, List.cons_append, List.nil_append]); exact leT_refl _)
end Go.Proofs.YtaiapalhdejngaaX

set_option linter.unusedVariables false
set_option linter.unusedSimpArgs false
namespace Go.Proofs.YtaiapalhdejngaaX
open Go Go.RowKit Go.Proofs
set_option maxRecDepth 100000
attribute [local go_sem ↓] stepsK_build stepsK_bs appendS
attribute [local go_sem] String.reduceEq String.reduceNe reduceCtorEq Int.reduceEq Nat.reduceAdd Nat.reduceSub Nat.reduceMul Nat.reduceLT Nat.reduceLeDiff Nat.reduceEqDiff Nat.reduceBEq Int.reduceToNat Int.reduceLT Int.reduceLE Int.reduceGT Int.reduceGE Int.reduceAdd Int.reduceSub Int.reduceMul Int.reduceNeg Int.reduceBEq Int.reduceBNe Int.reducePow Int.reduceDiv Int.reduceMod Int.reduceTDiv Int.reduceTMod Int.reduceNatCast
/-! ### etag.Parts$1 -/
def F53 (n : Nat) (a0 : List UInt8) (a1 : List (Int)) : Option ((Bool) × (List (Int))) := (F37 n a0).bind fun v1 => grd ((a1.length + v1.1.length) ≤ 549755813888) (some (v1.2, (a1 ++ v1.1)))
set_option maxHeartbeats 4000000 in
theorem F53_ok : ∀ (n : Nat) (a0 : List UInt8) (a1 : List (Int)) (r : (Bool) × (List (Int))), F53 n a0 a1 = some r → FnR Try.prog 53 [some (.box 4294967348 (.rsl 1 1 0 a1.length) false), some (.buf 5 1 (List.map byteT a1) 0)] [.imm (.string (bs a0)), .ref 0 0 0 0] (.imm (.bool r.1)) [some (.box 4294967348 (.rsl 1 1 0 r.2.length) false), some (.buf 5 1 (List.map byteT r.2) 0)]
 | n, a0, a1, r, h => by
  unfold F53 at h
  refine FnR.goX mixed [3] Try.func53 (by kernel_rfl) rfl (by simp [rowsOk, refsC, refsCL, adT_refsC, tagM]) (by simp [sameO]) (by simp [refsC, refsCL]) ?_
  simp only [Try.ntmps53, List.length_cons, List.length_nil, List.replicate, List.cons_append, List.nil_append, Nat.reduceAdd, Nat.reduceSub]
  refine runX_seq ?_
  refine runX_regionC fun C hC => ?_
  try simp -implicitDefEqProofs (maxSteps := 4000000) (disch := first | omega | decide | (simp only [go_sem]; omega)) only [go_sem, ↓reduceIte]
  repeat (with_reducible refine And.intro (by first | assumption | omega | (simp; done) | (simp; omega)) ?_)
  refine toEnd hC ?_
  refine endX_seq ?_
  refine runX_seq ?_
  refine runX_regionC fun C hC => ?_
  obtain ⟨v1, h1, h⟩ := bnd_some h
  try simp -implicitDefEqProofs (maxSteps := 4000000) (disch := first | omega | decide | (simp only [go_sem]; omega)) only [go_sem, ↓reduceIte]
  repeat (with_reducible refine And.intro (by first | assumption | omega | (simp; done) | (simp; omega)) ?_)
  refine callG_X (by first | rfl | (simp only [go_sem]; done) | (simp only [closedL, closedT, Bool.and_true]; exact closedL_map _ (fun _ => by first | rfl | (simp only [go_sem]; done)) _)) (F37_ok n a0 _ h1) (by repeat (first | exact leL_refl _ | refine leL_cons (by first | exact leT_refl _ | exact leT_virt | exact leT_junk _ | exact leT_sl | exact leT_sln | exact leT_nil | (refine leT_agg (by repeat (first | exact leL_refl _ | refine leL_cons (by first | exact leT_refl _ | exact leT_sl | exact leT_sln | exact leT_nil) ?_)))) ?_)) ?_
  try simp -implicitDefEqProofs (maxSteps := 4000000) (disch := first | omega | decide | (simp only [go_sem]; omega)) only [go_sem, ↓reduceIte]
  repeat (with_reducible refine And.intro (by first | assumption | omega | (simp; done) | (simp; omega)) ?_)
  refine toEnd hC ?_
  refine endX_seq ?_
  refine runX_seq ?_
  refine runX_regionC fun C hC => ?_
  obtain ⟨g2, h⟩ := grd_some h
  try simp -implicitDefEqProofs (maxSteps := 4000000) (disch := first | omega | decide | (simp only [go_sem]; omega)) only [go_sem, ↓reduceIte]
  repeat (with_reducible refine And.intro (by first | assumption | omega | (simp; done) | (simp; omega)) ?_)
  refine toEnd hC ?_
  refine endX_seq ?_
  refine runX_seq ?_
  refine runX_regionC fun C hC => ?_
  try simp -implicitDefEqProofs (maxSteps := 4000000) (disch := first | omega | decide | (simp only [go_sem]; omega)) only [go_sem, ↓reduceIte]
  repeat (with_reducible refine And.intro (by first | assumption | omega | (simp; done) | (simp; omega)) ?_)
  refine toEnd hC ?_
  refine endX_seq ?_
  refine runX_ret ?_
  refine endX_q ?_
  obtain rfl := Option.some.inj h
  show RetR _ _ _ _ _ _ _ _
  simp only [RetR]
  (try simp -implicitDefEqProofs (maxSteps := 4000000) (disch := first | omega | decide | (simp only [go_sem]; omega)) only [go_sem, ↓reduceIte])
  exact ⟨leOs_refl _, leT_refl _⟩
end Go.Proofs.YtaiapalhdejngaaX

set_option linter.unusedVariables false
set_option linter.unusedSimpArgs false
namespace Go.Proofs.YtaiapalhdejngaaX
open Go Go.RowKit Go.Proofs
set_option maxRecDepth 100000
attribute [local go_sem ↓] stepsK_build stepsK_bs appendS
attribute [local go_sem] String.reduceEq String.reduceNe reduceCtorEq Int.reduceEq Nat.reduceAdd Nat.reduceSub Nat.reduceMul Nat.reduceLT Nat.reduceLeDiff Nat.reduceEqDiff Nat.reduceBEq Int.reduceToNat Int.reduceLT Int.reduceLE Int.reduceGT Int.reduceGE Int.reduceAdd Int.reduceSub Int.reduceMul Int.reduceNeg Int.reduceBEq Int.reduceBNe Int.reducePow Int.reduceDiv Int.reduceMod Int.reduceTDiv Int.reduceTMod Int.reduceNatCast
/-! ### md5.Begin -/
def F81 (n : Nat)  : Option ((List (Int)) × (Int)) := some ([(1732584193 : Int), (4023233417 : Int), (2562383102 : Int), (271733878 : Int)], (0 : Int))
set_option maxHeartbeats 4000000 in
theorem F81_ok : ∀ (n : Nat) (r : (List (Int)) × (Int)), F81 n = some r → FnC Try.prog 81 [] (.agg [.imm (.int .u32 (r.1.getD 0 default)), .imm (.int .u32 (r.1.getD 1 default)), .imm (.int .u32 (r.1.getD 2 default)), .imm (.int .u32 (r.1.getD 3 default)), .imm (.int .u64 r.2)])
 | n, r, h => by
  unfold F81 at h
  refine FnC.goX mixed Try.func81 (by kernel_rfl) rfl ?_
  simp only [Try.ntmps81, List.length_cons, List.length_nil, List.replicate, List.cons_append, List.nil_append, Nat.reduceAdd, Nat.reduceSub]
  refine runX_seq ?_
  refine runX_regionC fun C hC => ?_
  try simp -implicitDefEqProofs (maxSteps := 4000000) (disch := first | omega | decide | (simp only [go_sem]; omega)) only [go_sem, ↓reduceIte]
  repeat (with_reducible refine And.intro (by first | assumption | omega | (simp; done) | (simp; omega)) ?_)
  refine toEnd hC ?_
  refine endX_seq ?_
  refine runX_seq ?_
  refine runX_regionC fun C hC => ?_
  simp only [runK_region, runK_draw, liteL, liteL2, dstsL, gL, List.getD_cons_zero, List.getD_cons_succ]
  try simp -implicitDefEqProofs (maxSteps := 4000000) (disch := first | omega | decide | (simp only [go_sem]; omega)) only [go_sem, ↓reduceIte]
  repeat (with_reducible refine And.intro (by first | assumption | omega | (simp; done) | (simp; omega)) ?_)
  refine bldG_of [.imm (.int .u32 (1732584193 : Int)), .imm (.int .u32 (4023233417 : Int)), .imm (.int .u32 (2562383102 : Int)), .imm (.int .u32 (271733878 : Int))] (by kernel_rfl) ?_
  try simp -implicitDefEqProofs (maxSteps := 4000000) (disch := first | omega | decide | (simp only [go_sem]; omega)) only [go_sem, ↓reduceIte]
  repeat (with_reducible refine And.intro (by first | assumption | omega | (simp; done) | (simp; omega)) ?_)
  refine bldG_of [.imm (.int .u32 (1732584193 : Int)), .imm (.int .u32 (4023233417 : Int)), .imm (.int .u32 (2562383102 : Int)), .imm (.int .u32 (271733878 : Int)), .imm (.int .u64 (0 : Int))] (by kernel_rfl) ?_
  try simp -implicitDefEqProofs (maxSteps := 4000000) (disch := first | omega | decide | (simp only [go_sem]; omega)) only [go_sem, ↓reduceIte]
  repeat (with_reducible refine And.intro (by first | assumption | omega | (simp; done) | (simp; omega)) ?_)
  refine toEnd hC ?_
  refine endX_seq ?_
  refine runX_ret ?_
  refine endX_q ?_
  obtain rfl := Option.some.inj h
  show RetW _ _ _ _ _
  simp only [RetW]
  (try simp -implicitDefEqProofs (maxSteps := 4000000) (disch := first | omega | decide | (simp only [go_sem]; omega)) only [go_sem, ↓reduceIte])
  (try simp (disch := omega) only [if_pos, Nat.sub_zero])
  exact leT_refl _
end Go.Proofs.YtaiapalhdejngaaX

set_option linter.unusedVariables false
set_option linter.unusedSimpArgs false
namespace Go.Proofs.YtaiapalhdejngaaX
open Go Go.RowKit Go.Proofs
set_option maxRecDepth 100000
attribute [local go_sem ↓] stepsK_build stepsK_bs appendS
attribute [local go_sem] String.reduceEq String.reduceNe reduceCtorEq Int.reduceEq Nat.reduceAdd Nat.reduceSub Nat.reduceMul Nat.reduceLT Nat.reduceLeDiff Nat.reduceEqDiff Nat.reduceBEq Int.reduceToNat Int.reduceLT Int.reduceLE Int.reduceGT Int.reduceGE Int.reduceAdd Int.reduceSub Int.reduceMul Int.reduceNeg Int.reduceBEq Int.reduceBNe Int.reducePow Int.reduceDiv Int.reduceMod Int.reduceTDiv Int.reduceTMod Int.reduceNatCast
/-! ### md5.spread -/
def F105_S1 (a0 : List (Int)) (x2 : Int) (x3 : List (Int)) : St := ⟨[.junk, .junk, .ref 1 0 0 0, .ref 2 0 0 0, .junk, .junk, .agg (List.map byteT (a0.take 64)), .imm (.int .i64 x2), .junk, .junk, .junk, .junk, .junk, .junk, .junk, .junk, .junk, .junk, .junk, .junk, .junk, .junk, .junk, .junk, .junk], [none, some (.box 137 (.agg [.imm (.int .u32 (0 : Int)), .imm (.int .u32 (0 : Int)), .imm (.int .u32 (0 : Int)), .imm (.int .u32 (0 : Int)), .imm (.int .u32 (0 : Int)), .imm (.int .u32 (0 : Int)), .imm (.int .u32 (0 : Int)), .imm (.int .u32 (0 : Int)), .imm (.int .u32 (0 : Int)), .imm (.int .u32 (0 : Int)), .imm (.int .u32 (0 : Int)), .imm (.int .u32 (0 : Int)), .imm (.int .u32 (0 : Int)), .imm (.int .u32 (0 : Int)), .imm (.int .u32 (0 : Int)), .imm (.int .u32 (0 : Int))]) false), some (.box 137 (.agg (List.map (eI .u32) x3)) false)]⟩
def F105_L1 : Nat → (List (Int)) → (Int) → (List (Int)) → Option (List (Int))
 | 0, _, _, _ => none
 | m1 + 1, a0, x2, x3 => iteB (decide (x2 < (64 : Int))) (grd (0 ≤ x2 ∧ x2 < (64 : Int) ∧ x2.toNat < (a0.take 64).length) (grd (0 ≤ (IntKind.wrap .i64 (x2.tdiv (4 : Int))) ∧ (IntKind.wrap .i64 (x2.tdiv (4 : Int))) < (16 : Int)) (grd ((IntKind.wrap .i64 (x2.tdiv (4 : Int))).toNat < x3.length) (grd (0 ≤ (IntKind.wrap .i64 ((8 : Int) * (x2.tmod (4 : Int))))) (grd (0 ≤ (IntKind.wrap .i64 (x2.tdiv (4 : Int))) ∧ (IntKind.wrap .i64 (x2.tdiv (4 : Int))) < (16 : Int)) (grd ((IntKind.wrap .i64 (x2.tdiv (4 : Int))).toNat < x3.length) (F105_L1 m1 a0 (IntKind.wrap .i64 (x2 + (1 : Int))) (List.set x3 ((IntKind.wrap .i64 (x2.tdiv (4 : Int))).toNat) (IntKind.wrap .u32 (bOr .u32 (x3.getD ((IntKind.wrap .i64 (x2.tdiv (4 : Int))).toNat) default) (IntKind.wrap .u32 (bShl .u32 (IntKind.wrap .u32 (((a0.take 64).getD x2.toNat default))) ((IntKind.wrap .i64 ((8 : Int) * (x2.tmod (4 : Int)))).toNat))))))))))))) (grd (16 ≤ x3.length) (grd ((x3.take 16).length = 16) (grd (16 ≤ (x3.take 16).length) (some ((x3.take 16).take 16)))))
def F105 (n : Nat) (a0 : List (Int)) : Option (List (Int)) := grd (64 ≤ a0.length) (F105_L1 n a0 (0 : Int) [(0 : Int), (0 : Int), (0 : Int), (0 : Int), (0 : Int), (0 : Int), (0 : Int), (0 : Int), (0 : Int), (0 : Int), (0 : Int), (0 : Int), (0 : Int), (0 : Int), (0 : Int), (0 : Int)])
set_option maxHeartbeats 4000000 in
theorem F105_ok : ∀ (n : Nat) (a0 : List (Int)) (r : List (Int)), F105 n a0 = some r → FnC Try.prog 105 [.agg (List.map byteT a0)] (.agg (List.map (eI .u32) r))
 | n, a0, r, h => by
  unfold F105 at h
  refine FnC.goX mixed Try.func105 (by kernel_rfl) rfl ?_
  simp only [Try.ntmps105, List.length_cons, List.length_nil, List.replicate, List.cons_append, List.nil_append, Nat.reduceAdd, Nat.reduceSub]
  refine runX_seq ?_
  refine runX_regionC fun C hC => ?_
  try simp -implicitDefEqProofs (disch := omega) only [go_sem, ↓reduceIte]
  refine toEnd hC ?_
  refine endX_seq ?_
  refine runX_seq ?_
  refine runX_regionC fun C hC => ?_
  try simp -implicitDefEqProofs (disch := omega) only [go_sem, ↓reduceIte]
  refine toEnd hC ?_
  refine endX_seq ?_
  refine runX_seq ?_
  refine runX_seq ?_
  refine runX_regionC fun C hC => ?_
  obtain ⟨g1, h⟩ := grd_some h
  try simp -implicitDefEqProofs (maxSteps := 4000000) (disch := first | omega | decide | (simp only [go_sem]; omega)) only [go_sem, ↓reduceIte]
  repeat (with_reducible refine And.intro (by first | assumption | omega | (simp; done) | (simp; omega)) ?_)
  refine toEnd hC ?_
  refine endX_seq ?_
  refine runX_block ?_
  refine runX_loop [2, 3, 6, 7] (fun m S => ∃ (x2 : Int) (x3 : List (Int)), S = F105_S1 a0 x2 x3 ∧ m ≤ n ∧ F105_L1 m a0 x2 x3 = some r) n ⟨F105_S1 a0 (0 : Int) [(0 : Int), (0 : Int), (0 : Int), (0 : Int), (0 : Int), (0 : Int), (0 : Int), (0 : Int), (0 : Int), (0 : Int), (0 : Int), (0 : Int), (0 : Int), (0 : Int), (0 : Int), (0 : Int)], ?_, (0 : Int), [(0 : Int), (0 : Int), (0 : Int), (0 : Int), (0 : Int), (0 : Int), (0 : Int), (0 : Int), (0 : Int), (0 : Int), (0 : Int), (0 : Int), (0 : Int), (0 : Int), (0 : Int), (0 : Int)], rfl, Nat.le_refl _, h⟩ ?_
  ·simp only [F105_S1]
   (try simp -implicitDefEqProofs (disch := omega) only [go_sem, ↓reduceIte])
   exact leS_refl _
  ·clear h
   rintro m1 S ⟨x2, x3, rfl, hm1, h⟩
   cases m1 with
   | zero => first | cases (show (none : Option _) = some _ from h) | (rw [F105_L1] at h; cases h)
   | succ m1 =>
    rw [F105_L1] at h
    simp only [F105_S1]
    refine runX_seq ?_
    refine runX_regionC fun C hC => ?_
    try simp -implicitDefEqProofs (disch := omega) only [go_sem, ↓reduceIte]
    refine toEnd hC ?_
    refine endX_seq ?_
    refine runX_seq ?_
    rcases iteB_some h with ⟨c4, h⟩ | ⟨c4, h⟩
    ·refine runX_condT rfl c4 ?_
     refine runX_skip ?_
     refine endX_seq ?_
     refine runX_seq ?_
     refine runX_block ?_
     refine runX_seq ?_
     refine runX_regionC fun C hC => ?_
     obtain ⟨g5, h⟩ := grd_some h
     try simp -implicitDefEqProofs (maxSteps := 4000000) (disch := first | omega | decide | (simp only [go_sem]; omega)) only [go_sem, ↓reduceIte]
     repeat (with_reducible refine And.intro (by first | assumption | omega | (simp; done) | (simp; omega)) ?_)
     refine toEnd hC ?_
     refine endX_seq ?_
     refine runX_drawC mixed (by kernel_rfl) fun C hC => ?_
     obtain ⟨g6, h⟩ := grd_some h
     obtain ⟨g7, h⟩ := grd_some h
     obtain ⟨g8, h⟩ := grd_some h
     obtain ⟨g9, h⟩ := grd_some h
     obtain ⟨g10, h⟩ := grd_some h
     have e11 : patchT (List.map (eI .u32) x3) ((IntKind.wrap .i64 (x2.tdiv (4 : Int))).toNat) ([.imm (.int .u32 (IntKind.wrap .u32 (bOr .u32 (x3.getD ((IntKind.wrap .i64 (x2.tdiv (4 : Int))).toNat) default) (IntKind.wrap .u32 (bShl .u32 (IntKind.wrap .u32 (((a0.take 64).getD x2.toNat default))) ((IntKind.wrap .i64 ((8 : Int) * (x2.tmod (4 : Int)))).toNat))))))] : List T) = List.map (eI .u32) (List.set x3 ((IntKind.wrap .i64 (x2.tdiv (4 : Int))).toNat) (IntKind.wrap .u32 (bOr .u32 (x3.getD ((IntKind.wrap .i64 (x2.tdiv (4 : Int))).toNat) default) (IntKind.wrap .u32 (bShl .u32 (IntKind.wrap .u32 (((a0.take 64).getD x2.toNat default))) ((IntKind.wrap .i64 ((8 : Int) * (x2.tmod (4 : Int)))).toNat)))))) := patch_map (eI .u32) (l := x3) (i := (IntKind.wrap .i64 (x2.tdiv (4 : Int))).toNat) (v := (IntKind.wrap .u32 (bOr .u32 (x3.getD ((IntKind.wrap .i64 (x2.tdiv (4 : Int))).toNat) default) (IntKind.wrap .u32 (bShl .u32 (IntKind.wrap .u32 (((a0.take 64).getD x2.toNat default))) ((IntKind.wrap .i64 ((8 : Int) * (x2.tmod (4 : Int)))).toNat)))))) (by first | omega | (simp only [List.length_cons, List.length_nil]; omega) | (simp only [List.length_append]; omega) | (simp only [List.length_append, List.length_drop, List.length_cons, List.length_nil] at *; omega))
     try simp -implicitDefEqProofs (maxSteps := 4000000) (disch := first | omega | decide | (simp only [go_sem]; omega)) only [go_sem, ↓reduceIte, e11]
     repeat (with_reducible refine And.intro (by first | assumption | omega | (simp; done) | (simp; omega)) ?_)
     refine toEnd hC ?_
     refine endX_blk ?_
     refine endX_seq ?_
     refine runX_regionC fun C hC => ?_
     try simp -implicitDefEqProofs (disch := omega) only [go_sem, ↓reduceIte]
     refine toEnd hC ?_
     refine endX_q (roundQ_normal ⟨m1, by omega, F105_S1 a0 (IntKind.wrap .i64 (x2 + (1 : Int))) (List.set x3 ((IntKind.wrap .i64 (x2.tdiv (4 : Int))).toNat) (IntKind.wrap .u32 (bOr .u32 (x3.getD ((IntKind.wrap .i64 (x2.tdiv (4 : Int))).toNat) default) (IntKind.wrap .u32 (bShl .u32 (IntKind.wrap .u32 (((a0.take 64).getD x2.toNat default))) ((IntKind.wrap .i64 ((8 : Int) * (x2.tmod (4 : Int)))).toNat)))))), ?_, (IntKind.wrap .i64 (x2 + (1 : Int))), (List.set x3 ((IntKind.wrap .i64 (x2.tdiv (4 : Int))).toNat) (IntKind.wrap .u32 (bOr .u32 (x3.getD ((IntKind.wrap .i64 (x2.tdiv (4 : Int))).toNat) default) (IntKind.wrap .u32 (bShl .u32 (IntKind.wrap .u32 (((a0.take 64).getD x2.toNat default))) ((IntKind.wrap .i64 ((8 : Int) * (x2.tmod (4 : Int)))).toNat)))))), rfl, by omega, h⟩)
     simp only [F105_S1]
     (try simp -implicitDefEqProofs (maxSteps := 4000000) (disch := first | omega | decide | (simp only [go_sem]; omega)) only [go_sem, ↓reduceIte])
     exact leS_le (leL_refl _) (leOs_refl _)
    ·refine runX_condF rfl c4 ?_
     refine runX_exit ?_
     refine endX_seqE ?_
     refine endX_q (roundQ_exit ?_)
     refine endX_blkE ?_
     refine endX_seq ?_
     refine runX_seq ?_
     refine runX_regionC fun C hC => ?_
     obtain ⟨g12, h⟩ := grd_some h
     obtain ⟨g13, h⟩ := grd_some h
     have e14 : List.drop ((x3.take 16).length) ([.imm (.int .u32 (0 : Int)), .imm (.int .u32 (0 : Int)), .imm (.int .u32 (0 : Int)), .imm (.int .u32 (0 : Int)), .imm (.int .u32 (0 : Int)), .imm (.int .u32 (0 : Int)), .imm (.int .u32 (0 : Int)), .imm (.int .u32 (0 : Int)), .imm (.int .u32 (0 : Int)), .imm (.int .u32 (0 : Int)), .imm (.int .u32 (0 : Int)), .imm (.int .u32 (0 : Int)), .imm (.int .u32 (0 : Int)), .imm (.int .u32 (0 : Int)), .imm (.int .u32 (0 : Int)), .imm (.int .u32 (0 : Int))] : List T) = [] := drop_all (by first | (simp only [List.length_cons, List.length_nil]; omega) | (simp; omega))
     try simp -implicitDefEqProofs (maxSteps := 4000000) (disch := first | omega | decide | (simp only [go_sem]; omega)) only [go_sem, ↓reduceIte, e14]
     repeat (with_reducible refine And.intro (by first | assumption | omega | (simp; done) | (simp; omega)) ?_)
     refine toEnd hC ?_
     refine endX_seq ?_
     refine runX_ret ?_
     refine endX_q ?_
     obtain ⟨g15, h⟩ := grd_some h
     obtain rfl := Option.some.inj h
     show RetW _ _ _ _ _
     simp only [RetW]
     (try simp -implicitDefEqProofs (maxSteps := 4000000) (disch := first | omega | decide | (simp only [go_sem]; omega)) only [go_sem, ↓reduceIte])
     repeat (with_reducible refine And.intro (by first | assumption | omega | (simp; done) | (simp; omega)) ?_)
     (try simp (disch := omega) only [if_pos, Nat.sub_zero])
     exact leT_refl _
end Go.Proofs.YtaiapalhdejngaaX

set_option linter.unusedVariables false
set_option linter.unusedSimpArgs false
namespace Go.Proofs.YtaiapalhdejngaaX
open Go Go.RowKit Go.Proofs
set_option maxRecDepth 100000
attribute [local go_sem ↓] stepsK_build stepsK_bs appendS
attribute [local go_sem] String.reduceEq String.reduceNe reduceCtorEq Int.reduceEq Nat.reduceAdd Nat.reduceSub Nat.reduceMul Nat.reduceLT Nat.reduceLeDiff Nat.reduceEqDiff Nat.reduceBEq Int.reduceToNat Int.reduceLT Int.reduceLE Int.reduceGT Int.reduceGE Int.reduceAdd Int.reduceSub Int.reduceMul Int.reduceNeg Int.reduceBEq Int.reduceBNe Int.reducePow Int.reduceDiv Int.reduceMod Int.reduceTDiv Int.reduceTMod Int.reduceNatCast
/-! ### md5.sines -/
def F106 (n : Nat)  : Option (List (Int)) := some ((3614090360 : Int) :: (3905402710 : Int) :: (606105819 : Int) :: (3250441966 : Int) :: (4118548399 : Int) :: (1200080426 : Int) :: (2821735955 : Int) :: (4249261313 : Int) :: (1770035416 : Int) :: (2336552879 : Int) :: (4294925233 : Int) :: (2304563134 : Int) :: (1804603682 : Int) :: (4254626195 : Int) :: (2792965006 : Int) :: (1236535329 : Int) :: (4129170786 : Int) :: (3225465664 : Int) :: (643717713 : Int) :: (3921069994 : Int) :: (3593408605 : Int) :: (38016083 : Int) :: (3634488961 : Int) :: (3889429448 : Int) :: (568446438 : Int) :: (3275163606 : Int) :: (4107603335 : Int) :: (1163531501 : Int) :: (2850285829 : Int) :: (4243563512 : Int) :: (1735328473 : Int) :: (2368359562 : Int) :: (4294588738 : Int) :: (2272392833 : Int) :: (1839030562 : Int) :: (4259657740 : Int) :: (2763975236 : Int) :: (1272893353 : Int) :: (4139469664 : Int) :: (3200236656 : Int) :: (681279174 : Int) :: (3936430074 : Int) :: (3572445317 : Int) :: (76029189 : Int) :: (3654602809 : Int) :: (3873151461 : Int) :: (530742520 : Int) :: (3299628645 : Int) :: (4096336452 : Int) :: (1126891415 : Int) :: (2878612391 : Int) :: (4237533241 : Int) :: (1700485571 : Int) :: (2399980690 : Int) :: (4293915773 : Int) :: (2240044497 : Int) :: (1873313359 : Int) :: (4264355552 : Int) :: (2734768916 : Int) :: (1309151649 : Int) :: (4149444226 : Int) :: (3174756917 : Int) :: (718787259 : Int) :: (3951481745 : Int) :: ([] : List Int))
set_option maxHeartbeats 4000000 in
theorem F106_ok : ∀ (n : Nat) (r : List (Int)), F106 n = some r → FnC Try.prog 106 [] (.agg (List.map (eI .u32) r))
 | n, r, h => by
  unfold F106 at h
  refine FnC.goX mixed Try.func106 (by kernel_rfl) rfl ?_
  simp only [Try.ntmps106, List.length_cons, List.length_nil, List.replicate, List.cons_append, List.nil_append, Nat.reduceAdd, Nat.reduceSub]
  refine runX_seq ?_
  refine runX_regionC fun C hC => ?_
  try simp -implicitDefEqProofs (maxSteps := 4000000) (disch := first | omega | decide | (simp only [go_sem]; omega)) only [go_sem, ↓reduceIte]
  repeat (with_reducible refine And.intro (by first | assumption | omega | (simp; done) | (simp; omega)) ?_)
  refine toEnd hC ?_
  refine endX_seq ?_
  refine runX_seq ?_
  refine runX_regionC fun C hC => ?_
  simp only [runK_region, runK_draw, liteL, liteL2, dstsL, gL, List.getD_cons_zero, List.getD_cons_succ]
  try simp -implicitDefEqProofs (maxSteps := 4000000) (disch := first | omega | decide | (simp only [go_sem]; omega)) only [go_sem, ↓reduceIte]
  repeat (with_reducible refine And.intro (by first | assumption | omega | (simp; done) | (simp; omega)) ?_)
  refine bldG_of [.imm (.int .u32 (3614090360 : Int)), .imm (.int .u32 (3905402710 : Int)), .imm (.int .u32 (606105819 : Int)), .imm (.int .u32 (3250441966 : Int)), .imm (.int .u32 (4118548399 : Int)), .imm (.int .u32 (1200080426 : Int)), .imm (.int .u32 (2821735955 : Int)), .imm (.int .u32 (4249261313 : Int)), .imm (.int .u32 (1770035416 : Int)), .imm (.int .u32 (2336552879 : Int)), .imm (.int .u32 (4294925233 : Int)), .imm (.int .u32 (2304563134 : Int)), .imm (.int .u32 (1804603682 : Int)), .imm (.int .u32 (4254626195 : Int)), .imm (.int .u32 (2792965006 : Int)), .imm (.int .u32 (1236535329 : Int)), .imm (.int .u32 (4129170786 : Int)), .imm (.int .u32 (3225465664 : Int)), .imm (.int .u32 (643717713 : Int)), .imm (.int .u32 (3921069994 : Int)), .imm (.int .u32 (3593408605 : Int)), .imm (.int .u32 (38016083 : Int)), .imm (.int .u32 (3634488961 : Int)), .imm (.int .u32 (3889429448 : Int)), .imm (.int .u32 (568446438 : Int)), .imm (.int .u32 (3275163606 : Int)), .imm (.int .u32 (4107603335 : Int)), .imm (.int .u32 (1163531501 : Int)), .imm (.int .u32 (2850285829 : Int)), .imm (.int .u32 (4243563512 : Int)), .imm (.int .u32 (1735328473 : Int)), .imm (.int .u32 (2368359562 : Int)), .imm (.int .u32 (4294588738 : Int)), .imm (.int .u32 (2272392833 : Int)), .imm (.int .u32 (1839030562 : Int)), .imm (.int .u32 (4259657740 : Int)), .imm (.int .u32 (2763975236 : Int)), .imm (.int .u32 (1272893353 : Int)), .imm (.int .u32 (4139469664 : Int)), .imm (.int .u32 (3200236656 : Int)), .imm (.int .u32 (681279174 : Int)), .imm (.int .u32 (3936430074 : Int)), .imm (.int .u32 (3572445317 : Int)), .imm (.int .u32 (76029189 : Int)), .imm (.int .u32 (3654602809 : Int)), .imm (.int .u32 (3873151461 : Int)), .imm (.int .u32 (530742520 : Int)), .imm (.int .u32 (3299628645 : Int)), .imm (.int .u32 (4096336452 : Int)), .imm (.int .u32 (1126891415 : Int)), .imm (.int .u32 (2878612391 : Int)), .imm (.int .u32 (4237533241 : Int)), .imm (.int .u32 (1700485571 : Int)), .imm (.int .u32 (2399980690 : Int)), .imm (.int .u32 (4293915773 : Int)), .imm (.int .u32 (2240044497 : Int)), .imm (.int .u32 (1873313359 : Int)), .imm (.int .u32 (4264355552 : Int)), .imm (.int .u32 (2734768916 : Int)), .imm (.int .u32 (1309151649 : Int)), .imm (.int .u32 (4149444226 : Int)), .imm (.int .u32 (3174756917 : Int)), .imm (.int .u32 (718787259 : Int)), .imm (.int .u32 (3951481745 : Int))] (by kernel_rfl) ?_
  try simp -implicitDefEqProofs (maxSteps := 4000000) (disch := first | omega | decide | (simp only [go_sem]; omega)) only [go_sem, ↓reduceIte]
  repeat (with_reducible refine And.intro (by first | assumption | omega | (simp; done) | (simp; omega)) ?_)
  refine toEnd hC ?_
  refine endX_seq ?_
  refine runX_ret ?_
  refine endX_q ?_
  obtain rfl := Option.some.inj h
  show RetW _ _ _ _ _
  simp only [RetW]
  (try simp -implicitDefEqProofs (maxSteps := 4000000) (disch := first | omega | decide | (simp only [go_sem]; omega)) only [go_sem, ↓reduceIte])
  (try simp (disch := omega) only [if_pos, Nat.sub_zero])
  exact leT_refl _
end Go.Proofs.YtaiapalhdejngaaX

set_option linter.unusedVariables false
set_option linter.unusedSimpArgs false
namespace Go.Proofs.YtaiapalhdejngaaX
open Go Go.RowKit Go.Proofs
set_option maxRecDepth 100000
attribute [local go_sem ↓] stepsK_build stepsK_bs appendS
attribute [local go_sem] String.reduceEq String.reduceNe reduceCtorEq Int.reduceEq Nat.reduceAdd Nat.reduceSub Nat.reduceMul Nat.reduceLT Nat.reduceLeDiff Nat.reduceEqDiff Nat.reduceBEq Int.reduceToNat Int.reduceLT Int.reduceLE Int.reduceGT Int.reduceGE Int.reduceAdd Int.reduceSub Int.reduceMul Int.reduceNeg Int.reduceBEq Int.reduceBNe Int.reducePow Int.reduceDiv Int.reduceMod Int.reduceTDiv Int.reduceTMod Int.reduceNatCast
/-! ### md5.turns -/
def F107 (n : Nat)  : Option (List (Int)) := some [(7 : Int), (12 : Int), (17 : Int), (22 : Int), (5 : Int), (9 : Int), (14 : Int), (20 : Int), (4 : Int), (11 : Int), (16 : Int), (23 : Int), (6 : Int), (10 : Int), (15 : Int), (21 : Int)]
set_option maxHeartbeats 4000000 in
theorem F107_ok : ∀ (n : Nat) (r : List (Int)), F107 n = some r → FnC Try.prog 107 [] (.agg (List.map (eI .i64) r))
 | n, r, h => by
  unfold F107 at h
  refine FnC.goX mixed Try.func107 (by kernel_rfl) rfl ?_
  simp only [Try.ntmps107, List.length_cons, List.length_nil, List.replicate, List.cons_append, List.nil_append, Nat.reduceAdd, Nat.reduceSub]
  refine runX_seq ?_
  refine runX_regionC fun C hC => ?_
  try simp -implicitDefEqProofs (maxSteps := 4000000) (disch := first | omega | decide | (simp only [go_sem]; omega)) only [go_sem, ↓reduceIte]
  repeat (with_reducible refine And.intro (by first | assumption | omega | (simp; done) | (simp; omega)) ?_)
  refine toEnd hC ?_
  refine endX_seq ?_
  refine runX_seq ?_
  refine runX_regionC fun C hC => ?_
  simp only [runK_region, runK_draw, liteL, liteL2, dstsL, gL, List.getD_cons_zero, List.getD_cons_succ]
  try simp -implicitDefEqProofs (maxSteps := 4000000) (disch := first | omega | decide | (simp only [go_sem]; omega)) only [go_sem, ↓reduceIte]
  repeat (with_reducible refine And.intro (by first | assumption | omega | (simp; done) | (simp; omega)) ?_)
  refine bldG_of [.imm (.int .i64 (7 : Int)), .imm (.int .i64 (12 : Int)), .imm (.int .i64 (17 : Int)), .imm (.int .i64 (22 : Int))] (by kernel_rfl) ?_
  try simp -implicitDefEqProofs (maxSteps := 4000000) (disch := first | omega | decide | (simp only [go_sem]; omega)) only [go_sem, ↓reduceIte]
  repeat (with_reducible refine And.intro (by first | assumption | omega | (simp; done) | (simp; omega)) ?_)
  refine bldG_of [.imm (.int .i64 (5 : Int)), .imm (.int .i64 (9 : Int)), .imm (.int .i64 (14 : Int)), .imm (.int .i64 (20 : Int))] (by kernel_rfl) ?_
  try simp -implicitDefEqProofs (maxSteps := 4000000) (disch := first | omega | decide | (simp only [go_sem]; omega)) only [go_sem, ↓reduceIte]
  repeat (with_reducible refine And.intro (by first | assumption | omega | (simp; done) | (simp; omega)) ?_)
  refine bldG_of [.imm (.int .i64 (4 : Int)), .imm (.int .i64 (11 : Int)), .imm (.int .i64 (16 : Int)), .imm (.int .i64 (23 : Int))] (by kernel_rfl) ?_
  try simp -implicitDefEqProofs (maxSteps := 4000000) (disch := first | omega | decide | (simp only [go_sem]; omega)) only [go_sem, ↓reduceIte]
  repeat (with_reducible refine And.intro (by first | assumption | omega | (simp; done) | (simp; omega)) ?_)
  refine bldG_of [.imm (.int .i64 (6 : Int)), .imm (.int .i64 (10 : Int)), .imm (.int .i64 (15 : Int)), .imm (.int .i64 (21 : Int))] (by kernel_rfl) ?_
  try simp -implicitDefEqProofs (maxSteps := 4000000) (disch := first | omega | decide | (simp only [go_sem]; omega)) only [go_sem, ↓reduceIte]
  repeat (with_reducible refine And.intro (by first | assumption | omega | (simp; done) | (simp; omega)) ?_)
  refine bldG_of [.imm (.int .i64 (7 : Int)), .imm (.int .i64 (12 : Int)), .imm (.int .i64 (17 : Int)), .imm (.int .i64 (22 : Int)), .imm (.int .i64 (5 : Int)), .imm (.int .i64 (9 : Int)), .imm (.int .i64 (14 : Int)), .imm (.int .i64 (20 : Int)), .imm (.int .i64 (4 : Int)), .imm (.int .i64 (11 : Int)), .imm (.int .i64 (16 : Int)), .imm (.int .i64 (23 : Int)), .imm (.int .i64 (6 : Int)), .imm (.int .i64 (10 : Int)), .imm (.int .i64 (15 : Int)), .imm (.int .i64 (21 : Int))] (by kernel_rfl) ?_
  try simp -implicitDefEqProofs (maxSteps := 4000000) (disch := first | omega | decide | (simp only [go_sem]; omega)) only [go_sem, ↓reduceIte]
  repeat (with_reducible refine And.intro (by first | assumption | omega | (simp; done) | (simp; omega)) ?_)
  refine toEnd hC ?_
  refine endX_seq ?_
  refine runX_ret ?_
  refine endX_q ?_
  obtain rfl := Option.some.inj h
  show RetW _ _ _ _ _
  simp only [RetW]
  (try simp -implicitDefEqProofs (maxSteps := 4000000) (disch := first | omega | decide | (simp only [go_sem]; omega)) only [go_sem, ↓reduceIte])
  (try simp (disch := omega) only [if_pos, Nat.sub_zero])
  exact leT_refl _
end Go.Proofs.YtaiapalhdejngaaX

set_option linter.unusedVariables false
set_option linter.unusedSimpArgs false
namespace Go.Proofs.YtaiapalhdejngaaX
open Go Go.RowKit Go.Proofs
set_option maxRecDepth 100000
attribute [local go_sem ↓] stepsK_build stepsK_bs appendS
attribute [local go_sem] String.reduceEq String.reduceNe reduceCtorEq Int.reduceEq Nat.reduceAdd Nat.reduceSub Nat.reduceMul Nat.reduceLT Nat.reduceLeDiff Nat.reduceEqDiff Nat.reduceBEq Int.reduceToNat Int.reduceLT Int.reduceLE Int.reduceGT Int.reduceGE Int.reduceAdd Int.reduceSub Int.reduceMul Int.reduceNeg Int.reduceBEq Int.reduceBNe Int.reducePow Int.reduceDiv Int.reduceMod Int.reduceTDiv Int.reduceTMod Int.reduceNatCast
/-! ### md5.mix -/
def F108 (n : Nat) (a0 : Int) (a1 : Int) (a2 : Int) (a3 : Int) : Option ((Int) × (Int)) := iteB ((IntKind.wrap .i64 (a0.tdiv (16 : Int))) == (0 : Int)) (some ((IntKind.wrap .u32 (bOr .u32 (IntKind.wrap .u32 (bAnd .u32 a1 a2)) (IntKind.wrap .u32 (bAnd .u32 (IntKind.wrap .u32 (bNot .u32 a1)) a3)))), a0)) (iteB ((IntKind.wrap .i64 (a0.tdiv (16 : Int))) == (1 : Int)) (some ((IntKind.wrap .u32 (bOr .u32 (IntKind.wrap .u32 (bAnd .u32 a3 a1)) (IntKind.wrap .u32 (bAnd .u32 (IntKind.wrap .u32 (bNot .u32 a3)) a2)))), (IntKind.wrap .i64 ((IntKind.wrap .i64 ((5 : Int) * a0)) + (1 : Int))))) (iteB ((IntKind.wrap .i64 (a0.tdiv (16 : Int))) == (2 : Int)) (some ((IntKind.wrap .u32 (bXor .u32 (IntKind.wrap .u32 (bXor .u32 a1 a2)) a3)), (IntKind.wrap .i64 ((IntKind.wrap .i64 ((3 : Int) * a0)) + (5 : Int))))) (some ((IntKind.wrap .u32 (bXor .u32 a2 (IntKind.wrap .u32 (bOr .u32 a1 (IntKind.wrap .u32 (bNot .u32 a3)))))), (IntKind.wrap .i64 ((7 : Int) * a0))))))
set_option maxHeartbeats 4000000 in
theorem F108_ok : ∀ (n : Nat) (a0 : Int) (a1 : Int) (a2 : Int) (a3 : Int) (r : (Int) × (Int)), F108 n a0 a1 a2 a3 = some r → FnC Try.prog 108 [.imm (.int .i64 a0), .imm (.int .u32 a1), .imm (.int .u32 a2), .imm (.int .u32 a3)] (.tup [.imm (.int .u32 r.1), .imm (.int .i64 r.2)])
 | n, a0, a1, a2, a3, r, h => by
  unfold F108 at h
  refine FnC.goX mixed Try.func108 (by kernel_rfl) rfl ?_
  simp only [Try.ntmps108, List.length_cons, List.length_nil, List.replicate, List.cons_append, List.nil_append, Nat.reduceAdd, Nat.reduceSub]
  refine runX_seq ?_
  refine runX_regionC fun C hC => ?_
  try simp -implicitDefEqProofs (maxSteps := 4000000) (disch := first | omega | decide | (simp only [go_sem]; omega)) only [go_sem, ↓reduceIte]
  repeat (with_reducible refine And.intro (by first | assumption | omega | (simp; done) | (simp; omega)) ?_)
  refine toEnd hC ?_
  refine endX_seq ?_
  refine runX_seq ?_
  refine runX_seq ?_
  refine runX_regionC fun C hC => ?_
  try simp -implicitDefEqProofs (maxSteps := 4000000) (disch := first | omega | decide | (simp only [go_sem]; omega)) only [go_sem, ↓reduceIte]
  repeat (with_reducible refine And.intro (by first | assumption | omega | (simp; done) | (simp; omega)) ?_)
  refine toEnd hC ?_
  refine endX_seq ?_
  refine runX_block ?_
  refine runX_seq ?_
  refine runX_regionC fun C hC => ?_
  try simp -implicitDefEqProofs (maxSteps := 4000000) (disch := first | omega | decide | (simp only [go_sem]; omega)) only [go_sem, ↓reduceIte]
  repeat (with_reducible refine And.intro (by first | assumption | omega | (simp; done) | (simp; omega)) ?_)
  refine toEnd hC ?_
  refine endX_seq ?_
  rcases iteB_some h with ⟨c1, h⟩ | ⟨c1, h⟩
  ·refine runX_condT rfl c1 ?_
   refine runX_seq ?_
   refine runX_regionC fun C hC => ?_
   try simp -implicitDefEqProofs (maxSteps := 4000000) (disch := first | omega | decide | (simp only [go_sem]; omega)) only [go_sem, ↓reduceIte]
   repeat (with_reducible refine And.intro (by first | assumption | omega | (simp; done) | (simp; omega)) ?_)
   refine toEnd hC ?_
   refine endX_seq ?_
   refine runX_ret ?_
   refine endX_blkR ?_
   refine endX_seqR ?_
   refine endX_q ?_
   obtain rfl := Option.some.inj h
   show RetW _ _ _ _ _
   simp only [RetW]
   (try simp -implicitDefEqProofs (maxSteps := 4000000) (disch := first | omega | decide | (simp only [go_sem]; omega)) only [go_sem, ↓reduceIte])
   (try simp (disch := omega) only [if_pos, Nat.sub_zero])
   exact leT_refl _
  ·refine runX_condF rfl c1 ?_
   refine runX_seq ?_
   refine runX_regionC fun C hC => ?_
   try simp -implicitDefEqProofs (maxSteps := 4000000) (disch := first | omega | decide | (simp only [go_sem]; omega)) only [go_sem, ↓reduceIte]
   repeat (with_reducible refine And.intro (by first | assumption | omega | (simp; done) | (simp; omega)) ?_)
   refine toEnd hC ?_
   refine endX_seq ?_
   rcases iteB_some h with ⟨c2, h⟩ | ⟨c2, h⟩
   ·refine runX_condT rfl c2 ?_
    refine runX_seq ?_
    refine runX_regionC fun C hC => ?_
    try simp -implicitDefEqProofs (maxSteps := 4000000) (disch := first | omega | decide | (simp only [go_sem]; omega)) only [go_sem, ↓reduceIte]
    repeat (with_reducible refine And.intro (by first | assumption | omega | (simp; done) | (simp; omega)) ?_)
    refine toEnd hC ?_
    refine endX_seq ?_
    refine runX_ret ?_
    refine endX_blkR ?_
    refine endX_seqR ?_
    refine endX_q ?_
    obtain rfl := Option.some.inj h
    show RetW _ _ _ _ _
    simp only [RetW]
    (try simp -implicitDefEqProofs (maxSteps := 4000000) (disch := first | omega | decide | (simp only [go_sem]; omega)) only [go_sem, ↓reduceIte])
    (try simp (disch := omega) only [if_pos, Nat.sub_zero])
    exact leT_refl _
   ·refine runX_condF rfl c2 ?_
    refine runX_seq ?_
    refine runX_regionC fun C hC => ?_
    try simp -implicitDefEqProofs (maxSteps := 4000000) (disch := first | omega | decide | (simp only [go_sem]; omega)) only [go_sem, ↓reduceIte]
    repeat (with_reducible refine And.intro (by first | assumption | omega | (simp; done) | (simp; omega)) ?_)
    refine toEnd hC ?_
    refine endX_seq ?_
    rcases iteB_some h with ⟨c3, h⟩ | ⟨c3, h⟩
    ·refine runX_condT rfl c3 ?_
     refine runX_seq ?_
     refine runX_regionC fun C hC => ?_
     try simp -implicitDefEqProofs (maxSteps := 4000000) (disch := first | omega | decide | (simp only [go_sem]; omega)) only [go_sem, ↓reduceIte]
     repeat (with_reducible refine And.intro (by first | assumption | omega | (simp; done) | (simp; omega)) ?_)
     refine toEnd hC ?_
     refine endX_seq ?_
     refine runX_ret ?_
     refine endX_blkR ?_
     refine endX_seqR ?_
     refine endX_q ?_
     obtain rfl := Option.some.inj h
     show RetW _ _ _ _ _
     simp only [RetW]
     (try simp -implicitDefEqProofs (maxSteps := 4000000) (disch := first | omega | decide | (simp only [go_sem]; omega)) only [go_sem, ↓reduceIte])
     (try simp (disch := omega) only [if_pos, Nat.sub_zero])
     exact leT_refl _
    ·refine runX_condF rfl c3 ?_
     refine runX_skip ?_
     refine endX_blk ?_
     refine endX_seq ?_
     refine runX_seq ?_
     refine runX_regionC fun C hC => ?_
     try simp -implicitDefEqProofs (maxSteps := 4000000) (disch := first | omega | decide | (simp only [go_sem]; omega)) only [go_sem, ↓reduceIte]
     repeat (with_reducible refine And.intro (by first | assumption | omega | (simp; done) | (simp; omega)) ?_)
     refine toEnd hC ?_
     refine endX_seq ?_
     refine runX_ret ?_
     refine endX_q ?_
     obtain rfl := Option.some.inj h
     show RetW _ _ _ _ _
     simp only [RetW]
     (try simp -implicitDefEqProofs (maxSteps := 4000000) (disch := first | omega | decide | (simp only [go_sem]; omega)) only [go_sem, ↓reduceIte])
     (try simp (disch := omega) only [if_pos, Nat.sub_zero])
     exact leT_refl _
end Go.Proofs.YtaiapalhdejngaaX

set_option linter.unusedVariables false
set_option linter.unusedSimpArgs false
namespace Go.Proofs.YtaiapalhdejngaaX
open Go Go.RowKit Go.Proofs
set_option maxRecDepth 100000
attribute [local go_sem ↓] stepsK_build stepsK_bs appendS
attribute [local go_sem] String.reduceEq String.reduceNe reduceCtorEq Int.reduceEq Nat.reduceAdd Nat.reduceSub Nat.reduceMul Nat.reduceLT Nat.reduceLeDiff Nat.reduceEqDiff Nat.reduceBEq Int.reduceToNat Int.reduceLT Int.reduceLE Int.reduceGT Int.reduceGE Int.reduceAdd Int.reduceSub Int.reduceMul Int.reduceNeg Int.reduceBEq Int.reduceBNe Int.reducePow Int.reduceDiv Int.reduceMod Int.reduceTDiv Int.reduceTMod Int.reduceNatCast
/-! ### math/bits.RotateLeft32 -/
def F109 (n : Nat) (a0 : Int) (a1 : Int) : Option (Int) := grd (0 ≤ (IntKind.wrap .u64 (bAnd .u64 (IntKind.wrap .u64 (a1)) (31 : Int)))) (grd (0 ≤ (IntKind.wrap .u64 ((32 : Int) - (IntKind.wrap .u64 (bAnd .u64 (IntKind.wrap .u64 (a1)) (31 : Int)))))) (some (IntKind.wrap .u32 (bOr .u32 (IntKind.wrap .u32 (bShl .u32 a0 ((IntKind.wrap .u64 (bAnd .u64 (IntKind.wrap .u64 (a1)) (31 : Int))).toNat))) (bShr .u32 a0 ((IntKind.wrap .u64 ((32 : Int) - (IntKind.wrap .u64 (bAnd .u64 (IntKind.wrap .u64 (a1)) (31 : Int))))).toNat))))))
set_option maxHeartbeats 4000000 in
theorem F109_ok : ∀ (n : Nat) (a0 : Int) (a1 : Int) (r : Int), F109 n a0 a1 = some r → FnC Try.prog 109 [.imm (.int .u32 a0), .imm (.int .i64 a1)] (.imm (.int .u32 r))
 | n, a0, a1, r, h => by
  unfold F109 at h
  refine FnC.goX mixed Try.func109 (by kernel_rfl) rfl ?_
  simp only [Try.ntmps109, List.length_cons, List.length_nil, List.replicate, List.cons_append, List.nil_append, Nat.reduceAdd, Nat.reduceSub]
  refine runX_seq ?_
  refine runX_regionC fun C hC => ?_
  try simp -implicitDefEqProofs (maxSteps := 4000000) (disch := first | omega | decide | (simp only [go_sem]; omega)) only [go_sem, ↓reduceIte]
  repeat (with_reducible refine And.intro (by first | assumption | omega | (simp; done) | (simp; omega)) ?_)
  refine toEnd hC ?_
  refine endX_seq ?_
  refine runX_seq ?_
  refine runX_regionC fun C hC => ?_
  try simp -implicitDefEqProofs (maxSteps := 4000000) (disch := first | omega | decide | (simp only [go_sem]; omega)) only [go_sem, ↓reduceIte]
  repeat (with_reducible refine And.intro (by first | assumption | omega | (simp; done) | (simp; omega)) ?_)
  refine toEnd hC ?_
  refine endX_seq ?_
  refine runX_seq ?_
  refine runX_regionC fun C hC => ?_
  obtain ⟨g1, h⟩ := grd_some h
  obtain ⟨g2, h⟩ := grd_some h
  try simp -implicitDefEqProofs (maxSteps := 4000000) (disch := first | omega | decide | (simp only [go_sem]; omega)) only [go_sem, ↓reduceIte]
  repeat (with_reducible refine And.intro (by first | assumption | omega | (simp; done) | (simp; omega)) ?_)
  refine toEnd hC ?_
  refine endX_seq ?_
  refine runX_ret ?_
  refine endX_q ?_
  obtain rfl := Option.some.inj h
  show RetW _ _ _ _ _
  simp only [RetW]
  (try simp -implicitDefEqProofs (maxSteps := 4000000) (disch := first | omega | decide | (simp only [go_sem]; omega)) only [go_sem, ↓reduceIte])
  (try simp (disch := omega) only [if_pos, Nat.sub_zero])
  exact leT_refl _
end Go.Proofs.YtaiapalhdejngaaX

set_option linter.unusedVariables false
set_option linter.unusedSimpArgs false
namespace Go.Proofs.YtaiapalhdejngaaX
open Go Go.RowKit Go.Proofs
set_option maxRecDepth 100000
attribute [local go_sem ↓] stepsK_build stepsK_bs appendS
attribute [local go_sem] String.reduceEq String.reduceNe reduceCtorEq Int.reduceEq Nat.reduceAdd Nat.reduceSub Nat.reduceMul Nat.reduceLT Nat.reduceLeDiff Nat.reduceEqDiff Nat.reduceBEq Int.reduceToNat Int.reduceLT Int.reduceLE Int.reduceGT Int.reduceGE Int.reduceAdd Int.reduceSub Int.reduceMul Int.reduceNeg Int.reduceBEq Int.reduceBNe Int.reducePow Int.reduceDiv Int.reduceMod Int.reduceTDiv Int.reduceTMod Int.reduceNatCast
/-! ### (md5.State).Block -/
def F82_S1 (a0 : (List (Int)) × (Int)) (v2 : List (Int)) (v3 : List (Int)) (v4 : List (Int)) (x11 : Int) (x12 : Int) (x13 : Int) (x14 : Int) (x15 : Int) : St := ⟨[.junk, .junk, .ref 0 0 0 0, .junk, .ref 2 0 0 0, .ref 3 0 0 0, .ref 4 0 0 0, .ref 5 0 0 0, .ref 6 0 0 0, .junk, .junk, .junk, .junk, .junk, .junk, .junk, .junk, .junk, .junk, .junk, .imm (.int .i64 x11), .junk, .junk, .junk, .junk, .junk, .junk, .junk, .junk, .junk, .junk, .junk, .junk, .junk, .junk, .junk, .junk, .junk, .junk, .junk, .junk, .junk, .junk, .junk, .junk, .junk, .junk, .junk, .junk, .junk, .junk, .junk, .junk, .junk, .junk, .junk, .junk, .junk, .junk, .junk, .junk, .junk, .junk, .junk, .junk, .junk, .junk, .junk, .junk, .junk, .junk, .junk, .junk, .junk, .junk, .junk, .junk, .junk, .junk, .junk, .junk, .junk, .junk, .junk, .junk, .junk], [some (.box 113 (.agg [.imm (.int .u32 (a0.1.getD 0 default)), .imm (.int .u32 (a0.1.getD 1 default)), .imm (.int .u32 (a0.1.getD 2 default)), .imm (.int .u32 (a0.1.getD 3 default)), .imm (.int .u64 a0.2)]) false), none, some (.box 113 (.agg [.imm (.int .u32 (0 : Int)), .imm (.int .u32 (0 : Int)), .imm (.int .u32 (0 : Int)), .imm (.int .u32 (0 : Int)), .imm (.int .u64 (0 : Int))]) false), some (.box 137 (.agg (List.map (eI .u32) v2)) false), some (.box 139 (.agg (List.map (eI .u32) v3)) false), some (.box 142 (.agg (List.map (eI .i64) v4)) false), some (.box 110 (.agg [.imm (.int .u32 x12), .imm (.int .u32 x13), .imm (.int .u32 x14), .imm (.int .u32 x15)]) false)]⟩
def F82_L1 : Nat → ((List (Int)) × (Int)) → (List (Int)) → (List (Int)) → (List (Int)) → (Int) → (Int) → (Int) → (Int) → (Int) → Option ((List (Int)) × (Int))
 | 0, _, _, _, _, _, _, _, _, _ => none
 | m1 + 1, a0, v2, v3, v4, x11, x12, x13, x14, x15 => iteB (decide (x11 < (64 : Int))) ((F108 m1 x11 x13 x14 x15).bind fun v17 => grd (0 ≤ (v17.2.tmod (16 : Int)) ∧ (v17.2.tmod (16 : Int)) < (16 : Int)) (grd ((v17.2.tmod (16 : Int)).toNat < v2.length) (grd (0 ≤ x11 ∧ x11 < (64 : Int)) (grd (x11.toNat < v3.length) (grd (0 ≤ (IntKind.wrap .i64 (x11.tdiv (16 : Int))) ∧ (IntKind.wrap .i64 (x11.tdiv (16 : Int))) < (4 : Int)) (grd (0 ≤ (x11.tmod (4 : Int)) ∧ (x11.tmod (4 : Int)) < (4 : Int)) (grd ((IntKind.wrap .i64 (x11.tdiv (16 : Int))).toNat * 4 + (x11.tmod (4 : Int)).toNat < v4.length) ((F109 m1 (IntKind.wrap .u32 ((IntKind.wrap .u32 ((IntKind.wrap .u32 (x12 + v17.1)) + (v2.getD ((v17.2.tmod (16 : Int)).toNat) default))) + (v3.getD x11.toNat default))) (v4.getD ((IntKind.wrap .i64 (x11.tdiv (16 : Int))).toNat * 4 + (x11.tmod (4 : Int)).toNat) default)).bind fun v25 => F82_L1 m1 a0 v2 v3 v4 (IntKind.wrap .i64 (x11 + (1 : Int))) x15 (IntKind.wrap .u32 (x13 + v25)) x13 x14)))))))) (some ([(IntKind.wrap .u32 ((a0.1.getD 0 default) + x12)), (IntKind.wrap .u32 ((a0.1.getD 1 default) + x13)), (IntKind.wrap .u32 ((a0.1.getD 2 default) + x14)), (IntKind.wrap .u32 ((a0.1.getD 3 default) + x15))], (IntKind.wrap .u64 (a0.2 + (64 : Int)))))
def F82 (n : Nat) (a0 : (List (Int)) × (Int)) (a1 : List (Int)) : Option ((List (Int)) × (Int)) := grd (64 ≤ a1.length) ((F105 n (a1.take 64)).bind fun v2 => (F106 n ).bind fun v3 => (F107 n ).bind fun v4 => grd (v2.length = 16) (grd (v3.length = 64) (grd (v4.length = 16) (F82_L1 n a0 v2 v3 v4 (0 : Int) (a0.1.getD 0 default) (a0.1.getD 1 default) (a0.1.getD 2 default) (a0.1.getD 3 default)))))
set_option maxHeartbeats 4000000 in
theorem F82_ok : ∀ (n : Nat) (a0 : (List (Int)) × (Int)) (a1 : List (Int)) (r : (List (Int)) × (Int)), F82 n a0 a1 = some r → FnC Try.prog 82 [.agg [.imm (.int .u32 (a0.1.getD 0 default)), .imm (.int .u32 (a0.1.getD 1 default)), .imm (.int .u32 (a0.1.getD 2 default)), .imm (.int .u32 (a0.1.getD 3 default)), .imm (.int .u64 a0.2)], .agg (List.map byteT a1)] (.agg [.imm (.int .u32 (r.1.getD 0 default)), .imm (.int .u32 (r.1.getD 1 default)), .imm (.int .u32 (r.1.getD 2 default)), .imm (.int .u32 (r.1.getD 3 default)), .imm (.int .u64 r.2)])
 | n, a0, a1, r, h => by
  unfold F82 at h
  refine FnC.goX mixed Try.func82 (by kernel_rfl) rfl ?_
  simp only [Try.ntmps82, List.length_cons, List.length_nil, List.replicate, List.cons_append, List.nil_append, Nat.reduceAdd, Nat.reduceSub]
  refine runX_seq ?_
  refine runX_regionC fun C hC => ?_
  try simp -implicitDefEqProofs (disch := omega) only [go_sem, ↓reduceIte]
  refine toEnd hC ?_
  refine endX_seq ?_
  refine runX_seq ?_
  refine runX_regionC fun C hC => ?_
  obtain ⟨g1, h⟩ := grd_some h
  obtain ⟨v2, h2, h⟩ := bnd_some h
  try simp -implicitDefEqProofs (maxSteps := 4000000) (disch := first | omega | decide | (simp only [go_sem]; omega)) only [go_sem, ↓reduceIte]
  repeat (with_reducible refine And.intro (by first | assumption | omega | (simp; done) | (simp; omega)) ?_)
  refine callG_X (by first | rfl | (simp only [go_sem]; done) | (simp only [closedL, closedT, Bool.and_true]; exact closedL_map _ (fun _ => by first | rfl | (simp only [go_sem]; done)) _)) (F105_ok n (a1.take 64) _ h2) (by repeat (first | exact leL_refl _ | refine leL_cons (by first | exact leT_refl _ | exact leT_virt | exact leT_junk _ | exact leT_sl | exact leT_sln | exact leT_nil | (refine leT_agg (by repeat (first | exact leL_refl _ | refine leL_cons (by first | exact leT_refl _ | exact leT_sl | exact leT_sln | exact leT_nil) ?_)))) ?_)) ?_
  obtain ⟨v3, h3, h⟩ := bnd_some h
  try simp -implicitDefEqProofs (maxSteps := 4000000) (disch := first | omega | decide | (simp only [go_sem]; omega)) only [go_sem, ↓reduceIte]
  repeat (with_reducible refine And.intro (by first | assumption | omega | (simp; done) | (simp; omega)) ?_)
  refine callG_X (by first | rfl | (simp only [go_sem]; done) | (simp only [closedL, closedT, Bool.and_true]; exact closedL_map _ (fun _ => by first | rfl | (simp only [go_sem]; done)) _)) (F106_ok n  _ h3) (by repeat (first | exact leL_refl _ | refine leL_cons (by first | exact leT_refl _ | exact leT_virt | exact leT_junk _ | exact leT_sl | exact leT_sln | exact leT_nil | (refine leT_agg (by repeat (first | exact leL_refl _ | refine leL_cons (by first | exact leT_refl _ | exact leT_sl | exact leT_sln | exact leT_nil) ?_)))) ?_)) ?_
  obtain ⟨v4, h4, h⟩ := bnd_some h
  try simp -implicitDefEqProofs (maxSteps := 4000000) (disch := first | omega | decide | (simp only [go_sem]; omega)) only [go_sem, ↓reduceIte]
  repeat (with_reducible refine And.intro (by first | assumption | omega | (simp; done) | (simp; omega)) ?_)
  refine callG_X (by first | rfl | (simp only [go_sem]; done) | (simp only [closedL, closedT, Bool.and_true]; exact closedL_map _ (fun _ => by first | rfl | (simp only [go_sem]; done)) _)) (F107_ok n  _ h4) (by repeat (first | exact leL_refl _ | refine leL_cons (by first | exact leT_refl _ | exact leT_virt | exact leT_junk _ | exact leT_sl | exact leT_sln | exact leT_nil | (refine leT_agg (by repeat (first | exact leL_refl _ | refine leL_cons (by first | exact leT_refl _ | exact leT_sl | exact leT_sln | exact leT_nil) ?_)))) ?_)) ?_
  obtain ⟨g5, h⟩ := grd_some h
  have e6 : List.drop v2.length ([.imm (.int .u32 (0 : Int)), .imm (.int .u32 (0 : Int)), .imm (.int .u32 (0 : Int)), .imm (.int .u32 (0 : Int)), .imm (.int .u32 (0 : Int)), .imm (.int .u32 (0 : Int)), .imm (.int .u32 (0 : Int)), .imm (.int .u32 (0 : Int)), .imm (.int .u32 (0 : Int)), .imm (.int .u32 (0 : Int)), .imm (.int .u32 (0 : Int)), .imm (.int .u32 (0 : Int)), .imm (.int .u32 (0 : Int)), .imm (.int .u32 (0 : Int)), .imm (.int .u32 (0 : Int)), .imm (.int .u32 (0 : Int))] : List T) = [] := drop_all (by first | (simp only [List.length_cons, List.length_nil]; omega) | (simp; omega))
  obtain ⟨g7, h⟩ := grd_some h
  have e8 : List.drop v3.length ((.imm (.int .u32 (0 : Int)) :: .imm (.int .u32 (0 : Int)) :: .imm (.int .u32 (0 : Int)) :: .imm (.int .u32 (0 : Int)) :: .imm (.int .u32 (0 : Int)) :: .imm (.int .u32 (0 : Int)) :: .imm (.int .u32 (0 : Int)) :: .imm (.int .u32 (0 : Int)) :: .imm (.int .u32 (0 : Int)) :: .imm (.int .u32 (0 : Int)) :: .imm (.int .u32 (0 : Int)) :: .imm (.int .u32 (0 : Int)) :: .imm (.int .u32 (0 : Int)) :: .imm (.int .u32 (0 : Int)) :: .imm (.int .u32 (0 : Int)) :: .imm (.int .u32 (0 : Int)) :: .imm (.int .u32 (0 : Int)) :: .imm (.int .u32 (0 : Int)) :: .imm (.int .u32 (0 : Int)) :: .imm (.int .u32 (0 : Int)) :: .imm (.int .u32 (0 : Int)) :: .imm (.int .u32 (0 : Int)) :: .imm (.int .u32 (0 : Int)) :: .imm (.int .u32 (0 : Int)) :: .imm (.int .u32 (0 : Int)) :: .imm (.int .u32 (0 : Int)) :: .imm (.int .u32 (0 : Int)) :: .imm (.int .u32 (0 : Int)) :: .imm (.int .u32 (0 : Int)) :: .imm (.int .u32 (0 : Int)) :: .imm (.int .u32 (0 : Int)) :: .imm (.int .u32 (0 : Int)) :: .imm (.int .u32 (0 : Int)) :: .imm (.int .u32 (0 : Int)) :: .imm (.int .u32 (0 : Int)) :: .imm (.int .u32 (0 : Int)) :: .imm (.int .u32 (0 : Int)) :: .imm (.int .u32 (0 : Int)) :: .imm (.int .u32 (0 : Int)) :: .imm (.int .u32 (0 : Int)) :: .imm (.int .u32 (0 : Int)) :: .imm (.int .u32 (0 : Int)) :: .imm (.int .u32 (0 : Int)) :: .imm (.int .u32 (0 : Int)) :: .imm (.int .u32 (0 : Int)) :: .imm (.int .u32 (0 : Int)) :: .imm (.int .u32 (0 : Int)) :: .imm (.int .u32 (0 : Int)) :: .imm (.int .u32 (0 : Int)) :: .imm (.int .u32 (0 : Int)) :: .imm (.int .u32 (0 : Int)) :: .imm (.int .u32 (0 : Int)) :: .imm (.int .u32 (0 : Int)) :: .imm (.int .u32 (0 : Int)) :: .imm (.int .u32 (0 : Int)) :: .imm (.int .u32 (0 : Int)) :: .imm (.int .u32 (0 : Int)) :: .imm (.int .u32 (0 : Int)) :: .imm (.int .u32 (0 : Int)) :: .imm (.int .u32 (0 : Int)) :: .imm (.int .u32 (0 : Int)) :: .imm (.int .u32 (0 : Int)) :: .imm (.int .u32 (0 : Int)) :: .imm (.int .u32 (0 : Int)) :: ([] : List T)) : List T) = [] := drop_all (by first | (simp only [List.length_cons, List.length_nil]; omega) | (simp; omega))
  obtain ⟨g9, h⟩ := grd_some h
  have e10 : List.drop v4.length ([.imm (.int .i64 (0 : Int)), .imm (.int .i64 (0 : Int)), .imm (.int .i64 (0 : Int)), .imm (.int .i64 (0 : Int)), .imm (.int .i64 (0 : Int)), .imm (.int .i64 (0 : Int)), .imm (.int .i64 (0 : Int)), .imm (.int .i64 (0 : Int)), .imm (.int .i64 (0 : Int)), .imm (.int .i64 (0 : Int)), .imm (.int .i64 (0 : Int)), .imm (.int .i64 (0 : Int)), .imm (.int .i64 (0 : Int)), .imm (.int .i64 (0 : Int)), .imm (.int .i64 (0 : Int)), .imm (.int .i64 (0 : Int))] : List T) = [] := drop_all (by first | (simp only [List.length_cons, List.length_nil]; omega) | (simp; omega))
  try simp -implicitDefEqProofs (maxSteps := 4000000) (disch := first | omega | decide | (simp only [go_sem]; omega)) only [go_sem, ↓reduceIte, e6, e8, e10]
  repeat (with_reducible refine And.intro (by first | assumption | omega | (simp; done) | (simp; omega)) ?_)
  refine toEnd hC ?_
  refine endX_seq ?_
  refine runX_seq ?_
  refine runX_regionC fun C hC => ?_
  try simp -implicitDefEqProofs (disch := omega) only [go_sem, ↓reduceIte]
  refine toEnd hC ?_
  refine endX_seq ?_
  refine runX_seq ?_
  refine runX_seq ?_
  refine runX_regionC fun C hC => ?_
  try simp -implicitDefEqProofs (disch := omega) only [go_sem, ↓reduceIte]
  refine toEnd hC ?_
  refine endX_seq ?_
  refine runX_block ?_
  refine runX_loop [2, 4, 5, 6, 7, 8, 20] (fun m S => ∃ (x11 : Int) (x12 : Int) (x13 : Int) (x14 : Int) (x15 : Int), S = F82_S1 a0 v2 v3 v4 x11 x12 x13 x14 x15 ∧ m ≤ n ∧ F82_L1 m a0 v2 v3 v4 x11 x12 x13 x14 x15 = some r) n ⟨F82_S1 a0 v2 v3 v4 (0 : Int) (a0.1.getD 0 default) (a0.1.getD 1 default) (a0.1.getD 2 default) (a0.1.getD 3 default), ?_, (0 : Int), (a0.1.getD 0 default), (a0.1.getD 1 default), (a0.1.getD 2 default), (a0.1.getD 3 default), rfl, Nat.le_refl _, h⟩ ?_
  ·simp only [F82_S1]
   (try simp -implicitDefEqProofs (disch := omega) only [go_sem, ↓reduceIte])
   exact leS_refl _
  ·clear h
   rintro m1 S ⟨x11, x12, x13, x14, x15, rfl, hm1, h⟩
   cases m1 with
   | zero => first | cases (show (none : Option _) = some _ from h) | (rw [F82_L1] at h; cases h)
   | succ m1 =>
    rw [F82_L1] at h
    simp only [F82_S1]
    refine runX_seq ?_
    refine runX_regionC fun C hC => ?_
    try simp -implicitDefEqProofs (maxSteps := 4000000) (disch := first | omega | decide | (simp only [go_sem]; omega)) only [go_sem, ↓reduceIte]
    repeat (with_reducible refine And.intro (by first | assumption | omega | (simp; done) | (simp; omega)) ?_)
    refine toEnd hC ?_
    refine endX_seq ?_
    refine runX_seq ?_
    rcases iteB_some h with ⟨c16, h⟩ | ⟨c16, h⟩
    ·refine runX_condT rfl c16 ?_
     refine runX_skip ?_
     refine endX_seq ?_
     refine runX_seq ?_
     refine runX_block ?_
     refine runX_seq ?_
     refine runX_regionC fun C hC => ?_
     try simp -implicitDefEqProofs (disch := omega) only [go_sem, ↓reduceIte]
     refine toEnd hC ?_
     refine endX_seq ?_
     refine runX_seq ?_
     refine runX_regionC fun C hC => ?_
     obtain ⟨v17, h17, h⟩ := bnd_some h
     try simp -implicitDefEqProofs (maxSteps := 4000000) (disch := first | omega | decide | (simp only [go_sem]; omega)) only [go_sem, ↓reduceIte]
     repeat (with_reducible refine And.intro (by first | assumption | omega | (simp; done) | (simp; omega)) ?_)
     refine callG_X (by first | rfl | (simp only [go_sem]; done) | (simp only [closedL, closedT, Bool.and_true]; exact closedL_map _ (fun _ => by first | rfl | (simp only [go_sem]; done)) _)) (F108_ok m1 x11 x13 x14 x15 _ h17) (by repeat (first | exact leL_refl _ | refine leL_cons (by first | exact leT_refl _ | exact leT_virt | exact leT_junk _ | exact leT_sl | exact leT_sln | exact leT_nil | (refine leT_agg (by repeat (first | exact leL_refl _ | refine leL_cons (by first | exact leT_refl _ | exact leT_sl | exact leT_sln | exact leT_nil) ?_)))) ?_)) ?_
     try simp -implicitDefEqProofs (maxSteps := 4000000) (disch := first | omega | decide | (simp only [go_sem]; omega)) only [go_sem, ↓reduceIte]
     repeat (with_reducible refine And.intro (by first | assumption | omega | (simp; done) | (simp; omega)) ?_)
     refine toEnd hC ?_
     refine endX_seq ?_
     refine runX_seq ?_
     refine runX_drawC mixed (by kernel_rfl) fun C hC => ?_
     obtain ⟨g18, h⟩ := grd_some h
     obtain ⟨g19, h⟩ := grd_some h
     obtain ⟨g20, h⟩ := grd_some h
     obtain ⟨g21, h⟩ := grd_some h
     obtain ⟨g22, h⟩ := grd_some h
     obtain ⟨g23, h⟩ := grd_some h
     obtain ⟨g24, h⟩ := grd_some h
     obtain ⟨v25, h25, h⟩ := bnd_some h
     try simp -implicitDefEqProofs (maxSteps := 4000000) (disch := first | omega | decide | (simp only [go_sem]; omega)) only [go_sem, ↓reduceIte]
     repeat (with_reducible refine And.intro (by first | assumption | omega | (simp; done) | (simp; omega)) ?_)
     refine callD_X (F109_ok m1 (IntKind.wrap .u32 ((IntKind.wrap .u32 ((IntKind.wrap .u32 (x12 + v17.1)) + (v2.getD ((v17.2.tmod (16 : Int)).toNat) default))) + (v3.getD x11.toNat default))) (v4.getD ((IntKind.wrap .i64 (x11.tdiv (16 : Int))).toNat * 4 + (x11.tmod (4 : Int)).toNat) default) _ h25) (by repeat (first | exact leL_refl _ | refine leL_cons (by first | exact leT_refl _ | exact leT_virt | exact leT_junk _ | exact leT_sl | exact leT_sln | exact leT_nil | (refine leT_agg (by repeat (first | exact leL_refl _ | refine leL_cons (by first | exact leT_refl _ | exact leT_sl | exact leT_sln | exact leT_nil) ?_)))) ?_)) ?_
     try simp -implicitDefEqProofs (maxSteps := 4000000) (disch := first | omega | decide | (simp only [go_sem]; omega)) only [go_sem, ↓reduceIte]
     repeat (with_reducible refine And.intro (by first | assumption | omega | (simp; done) | (simp; omega)) ?_)
     refine toEnd hC ?_
     refine endX_seq ?_
     refine runX_regionC fun C hC => ?_
     try simp -implicitDefEqProofs (disch := omega) only [go_sem, ↓reduceIte]
     refine bldG_of [.imm (.int .u32 x15), .imm (.int .u32 (IntKind.wrap .u32 (x13 + v25))), .imm (.int .u32 x13), .imm (.int .u32 x14)] (by kernel_rfl) ?_
     try simp -implicitDefEqProofs (disch := omega) only [go_sem, ↓reduceIte]
     refine toEnd hC ?_
     refine endX_blk ?_
     refine endX_seq ?_
     refine runX_regionC fun C hC => ?_
     try simp -implicitDefEqProofs (disch := omega) only [go_sem, ↓reduceIte]
     refine toEnd hC ?_
     refine endX_q (roundQ_normal ⟨m1, by omega, F82_S1 a0 v2 v3 v4 (IntKind.wrap .i64 (x11 + (1 : Int))) x15 (IntKind.wrap .u32 (x13 + v25)) x13 x14, ?_, (IntKind.wrap .i64 (x11 + (1 : Int))), x15, (IntKind.wrap .u32 (x13 + v25)), x13, x14, rfl, by omega, h⟩)
     simp only [F82_S1]
     (try simp -implicitDefEqProofs (disch := omega) only [go_sem, ↓reduceIte])
     exact leS_refl _
    ·refine runX_condF rfl c16 ?_
     refine runX_exit ?_
     refine endX_seqE ?_
     refine endX_q (roundQ_exit ?_)
     refine endX_blkE ?_
     refine endX_seq ?_
     refine runX_seq ?_
     refine runX_seq ?_
     refine runX_regionC fun C hC => ?_
     try simp -implicitDefEqProofs (disch := omega) only [go_sem, ↓reduceIte]
     refine toEnd hC ?_
     refine endX_seq ?_
     refine runX_block ?_
     refine runX_unroll 4 ?_
     refine runX_seq ?_
     refine runX_regionC fun C hC => ?_
     try simp -implicitDefEqProofs (disch := omega) only [go_sem, ↓reduceIte]
     refine toEnd hC ?_
     refine endX_seq ?_
     refine runX_seq ?_
     refine runX_condT rfl rfl ?_
     refine runX_skip ?_
     refine endX_seq ?_
     refine runX_seq ?_
     refine runX_block ?_
     refine runX_seq ?_
     refine runX_regionC fun C hC => ?_
     try simp -implicitDefEqProofs (disch := omega) only [go_sem, ↓reduceIte]
     refine toEnd hC ?_
     refine endX_seq ?_
     refine runX_drawC mixed (by kernel_rfl) fun C hC => ?_
     try simp -implicitDefEqProofs (disch := omega) only [go_sem, ↓reduceIte]
     refine toEnd hC ?_
     refine endX_blk ?_
     refine endX_seq ?_
     refine runX_regionC fun C hC => ?_
     try simp -implicitDefEqProofs (disch := omega) only [go_sem, ↓reduceIte]
     refine toEnd hC ?_
     refine endX_lp ?_
     refine runX_seq ?_
     refine runX_regionC fun C hC => ?_
     try simp -implicitDefEqProofs (disch := omega) only [go_sem, ↓reduceIte]
     refine toEnd hC ?_
     refine endX_seq ?_
     refine runX_seq ?_
     refine runX_condT rfl rfl ?_
     refine runX_skip ?_
     refine endX_seq ?_
     refine runX_seq ?_
     refine runX_block ?_
     refine runX_seq ?_
     refine runX_regionC fun C hC => ?_
     try simp -implicitDefEqProofs (disch := omega) only [go_sem, ↓reduceIte]
     refine toEnd hC ?_
     refine endX_seq ?_
     refine runX_drawC mixed (by kernel_rfl) fun C hC => ?_
     try simp -implicitDefEqProofs (maxSteps := 4000000) (disch := first | omega | decide | (simp only [go_sem]; omega)) only [go_sem, ↓reduceIte]
     repeat (with_reducible refine And.intro (by first | assumption | omega | (simp; done) | (simp; omega)) ?_)
     refine toEnd hC ?_
     refine endX_blk ?_
     refine endX_seq ?_
     refine runX_regionC fun C hC => ?_
     try simp -implicitDefEqProofs (disch := omega) only [go_sem, ↓reduceIte]
     refine toEnd hC ?_
     refine endX_lp ?_
     refine runX_seq ?_
     refine runX_regionC fun C hC => ?_
     try simp -implicitDefEqProofs (disch := omega) only [go_sem, ↓reduceIte]
     refine toEnd hC ?_
     refine endX_seq ?_
     refine runX_seq ?_
     refine runX_condT rfl rfl ?_
     refine runX_skip ?_
     refine endX_seq ?_
     refine runX_seq ?_
     refine runX_block ?_
     refine runX_seq ?_
     refine runX_regionC fun C hC => ?_
     try simp -implicitDefEqProofs (disch := omega) only [go_sem, ↓reduceIte]
     refine toEnd hC ?_
     refine endX_seq ?_
     refine runX_drawC mixed (by kernel_rfl) fun C hC => ?_
     try simp -implicitDefEqProofs (maxSteps := 4000000) (disch := first | omega | decide | (simp only [go_sem]; omega)) only [go_sem, ↓reduceIte]
     repeat (with_reducible refine And.intro (by first | assumption | omega | (simp; done) | (simp; omega)) ?_)
     refine toEnd hC ?_
     refine endX_blk ?_
     refine endX_seq ?_
     refine runX_regionC fun C hC => ?_
     try simp -implicitDefEqProofs (disch := omega) only [go_sem, ↓reduceIte]
     refine toEnd hC ?_
     refine endX_lp ?_
     refine runX_seq ?_
     refine runX_regionC fun C hC => ?_
     try simp -implicitDefEqProofs (disch := omega) only [go_sem, ↓reduceIte]
     refine toEnd hC ?_
     refine endX_seq ?_
     refine runX_seq ?_
     refine runX_condT rfl rfl ?_
     refine runX_skip ?_
     refine endX_seq ?_
     refine runX_seq ?_
     refine runX_block ?_
     refine runX_seq ?_
     refine runX_regionC fun C hC => ?_
     try simp -implicitDefEqProofs (disch := omega) only [go_sem, ↓reduceIte]
     refine toEnd hC ?_
     refine endX_seq ?_
     refine runX_drawC mixed (by kernel_rfl) fun C hC => ?_
     try simp -implicitDefEqProofs (maxSteps := 4000000) (disch := first | omega | decide | (simp only [go_sem]; omega)) only [go_sem, ↓reduceIte]
     repeat (with_reducible refine And.intro (by first | assumption | omega | (simp; done) | (simp; omega)) ?_)
     refine toEnd hC ?_
     refine endX_blk ?_
     refine endX_seq ?_
     refine runX_regionC fun C hC => ?_
     try simp -implicitDefEqProofs (disch := omega) only [go_sem, ↓reduceIte]
     refine toEnd hC ?_
     refine endX_lp ?_
     refine runX_seq ?_
     refine runX_regionC fun C hC => ?_
     try simp -implicitDefEqProofs (disch := omega) only [go_sem, ↓reduceIte]
     refine toEnd hC ?_
     refine endX_seq ?_
     refine runX_seq ?_
     refine runX_condF rfl rfl ?_
     refine runX_exit ?_
     refine endX_seqE ?_
     refine endX_lpE ?_
     refine endX_blkE ?_
     refine endX_seq ?_
     refine runX_seq ?_
     refine runX_regionC fun C hC => ?_
     try simp -implicitDefEqProofs (disch := omega) only [go_sem, ↓reduceIte]
     refine toEnd hC ?_
     refine endX_seq ?_
     refine runX_seq ?_
     refine runX_regionC fun C hC => ?_
     try simp -implicitDefEqProofs (disch := omega) only [go_sem, ↓reduceIte]
     refine toEnd hC ?_
     refine endX_seq ?_
     refine runX_ret ?_
     refine endX_q ?_
     obtain rfl := Option.some.inj h
     show RetW _ _ _ _ _
     simp only [RetW]
     (try simp -implicitDefEqProofs (disch := omega) only [go_sem, ↓reduceIte])
     (try simp (disch := omega) only [if_pos, Nat.sub_zero])
     exact leT_refl _
end Go.Proofs.YtaiapalhdejngaaX

set_option linter.unusedVariables false
set_option linter.unusedSimpArgs false
namespace Go.Proofs.YtaiapalhdejngaaX
open Go Go.RowKit Go.Proofs
set_option maxRecDepth 100000
attribute [local go_sem ↓] stepsK_build stepsK_bs appendS
attribute [local go_sem] String.reduceEq String.reduceNe reduceCtorEq Int.reduceEq Nat.reduceAdd Nat.reduceSub Nat.reduceMul Nat.reduceLT Nat.reduceLeDiff Nat.reduceEqDiff Nat.reduceBEq Int.reduceToNat Int.reduceLT Int.reduceLE Int.reduceGT Int.reduceGE Int.reduceAdd Int.reduceSub Int.reduceMul Int.reduceNeg Int.reduceBEq Int.reduceBNe Int.reducePow Int.reduceDiv Int.reduceMod Int.reduceTDiv Int.reduceTMod Int.reduceNatCast
/-! ### (md5.State).End -/
def F83_S1 (a0 : (List (Int)) × (Int)) (a1 : List (Int)) (x14 : Int) (x15 : Int) (x16 : Int) (x17 : Int) (x18 : Int) (x19 : List (Int)) : St := ⟨[.junk, .junk, .ref 0 0 0 0, .junk, .ref 1 0 0 0, .imm (.int .u64 (IntKind.wrap .u64 ((8 : Int) * (IntKind.wrap .u64 (a0.2 + (IntKind.wrap .u64 (((a1.take (if (63 : Int) < (a1.length : Int) then (63 : Int) else (a1.length : Int)).toNat).length : Int)))))))), .ref 2 0 0 0, .junk, .junk, .junk, .junk, .junk, .junk, .junk, .junk, .junk, .junk, .junk, .junk, .junk, .junk, .junk, .junk, .junk, .junk, .junk, .junk, .junk, .junk, .junk, .junk, .junk, .junk, .junk, .junk, .junk, .junk, .junk, .junk, .junk, .junk, .junk, .junk, .junk, .junk, .junk, .junk, .junk, .junk, .junk, .junk, .junk, .junk, .junk, .junk, .junk, .junk, .junk, .junk, .junk, .junk, .junk, .junk, .junk, .junk], [some (.box 113 (.agg [.imm (.int .u32 x14), .imm (.int .u32 x15), .imm (.int .u32 x16), .imm (.int .u32 x17), .imm (.int .u64 x18)]) false), some (.box 70 (.agg [.imm (.int .u8 (0 : Int)), .imm (.int .u8 (0 : Int)), .imm (.int .u8 (0 : Int)), .imm (.int .u8 (0 : Int)), .imm (.int .u8 (0 : Int)), .imm (.int .u8 (0 : Int)), .imm (.int .u8 (0 : Int)), .imm (.int .u8 (0 : Int)), .imm (.int .u8 (0 : Int)), .imm (.int .u8 (0 : Int)), .imm (.int .u8 (0 : Int)), .imm (.int .u8 (0 : Int)), .imm (.int .u8 (0 : Int)), .imm (.int .u8 (0 : Int)), .imm (.int .u8 (0 : Int)), .imm (.int .u8 (0 : Int))]) false), some (.box 116 (.agg (List.map byteT x19)) false)]⟩
def F83_J1 (n : Nat) (a0 : (List (Int)) × (Int)) (a1 : List (Int)) (x14 : Int) (x15 : Int) (x16 : Int) (x17 : Int) (x18 : Int) (x19 : List (Int)) : Option (List (Int)) := grd (56 < x19.length) (grd (57 < x19.length) (grd (58 < x19.length) (grd (59 < x19.length) (grd (60 < x19.length) (grd (61 < x19.length) (grd (62 < x19.length) (grd (63 < x19.length) (grd (64 ≤ x19.length) ((F82 n ([x14, x15, x16, x17], x18) ((List.set (List.set (List.set (List.set (List.set (List.set (List.set (List.set x19 56 (IntKind.wrap .u8 ((bShr .u64 (IntKind.wrap .u64 ((8 : Int) * (IntKind.wrap .u64 (a0.2 + (IntKind.wrap .u64 (((a1.take (if (63 : Int) < (a1.length : Int) then (63 : Int) else (a1.length : Int)).toNat).length : Int))))))) 0)))) 57 (IntKind.wrap .u8 ((bShr .u64 (IntKind.wrap .u64 ((8 : Int) * (IntKind.wrap .u64 (a0.2 + (IntKind.wrap .u64 (((a1.take (if (63 : Int) < (a1.length : Int) then (63 : Int) else (a1.length : Int)).toNat).length : Int))))))) 8)))) 58 (IntKind.wrap .u8 ((bShr .u64 (IntKind.wrap .u64 ((8 : Int) * (IntKind.wrap .u64 (a0.2 + (IntKind.wrap .u64 (((a1.take (if (63 : Int) < (a1.length : Int) then (63 : Int) else (a1.length : Int)).toNat).length : Int))))))) 16)))) 59 (IntKind.wrap .u8 ((bShr .u64 (IntKind.wrap .u64 ((8 : Int) * (IntKind.wrap .u64 (a0.2 + (IntKind.wrap .u64 (((a1.take (if (63 : Int) < (a1.length : Int) then (63 : Int) else (a1.length : Int)).toNat).length : Int))))))) 24)))) 60 (IntKind.wrap .u8 ((bShr .u64 (IntKind.wrap .u64 ((8 : Int) * (IntKind.wrap .u64 (a0.2 + (IntKind.wrap .u64 (((a1.take (if (63 : Int) < (a1.length : Int) then (63 : Int) else (a1.length : Int)).toNat).length : Int))))))) 32)))) 61 (IntKind.wrap .u8 ((bShr .u64 (IntKind.wrap .u64 ((8 : Int) * (IntKind.wrap .u64 (a0.2 + (IntKind.wrap .u64 (((a1.take (if (63 : Int) < (a1.length : Int) then (63 : Int) else (a1.length : Int)).toNat).length : Int))))))) 40)))) 62 (IntKind.wrap .u8 ((bShr .u64 (IntKind.wrap .u64 ((8 : Int) * (IntKind.wrap .u64 (a0.2 + (IntKind.wrap .u64 (((a1.take (if (63 : Int) < (a1.length : Int) then (63 : Int) else (a1.length : Int)).toNat).length : Int))))))) 48)))) 63 (IntKind.wrap .u8 ((bShr .u64 (IntKind.wrap .u64 ((8 : Int) * (IntKind.wrap .u64 (a0.2 + (IntKind.wrap .u64 (((a1.take (if (63 : Int) < (a1.length : Int) then (63 : Int) else (a1.length : Int)).toNat).length : Int))))))) 56)))).take 64)).bind fun v37 => some [(IntKind.wrap .u8 ((bShr .u32 (v37.1.getD 0 default) 0))), (IntKind.wrap .u8 ((bShr .u32 (v37.1.getD 0 default) 8))), (IntKind.wrap .u8 ((bShr .u32 (v37.1.getD 0 default) 16))), (IntKind.wrap .u8 ((bShr .u32 (v37.1.getD 0 default) 24))), (IntKind.wrap .u8 ((bShr .u32 (v37.1.getD 1 default) 0))), (IntKind.wrap .u8 ((bShr .u32 (v37.1.getD 1 default) 8))), (IntKind.wrap .u8 ((bShr .u32 (v37.1.getD 1 default) 16))), (IntKind.wrap .u8 ((bShr .u32 (v37.1.getD 1 default) 24))), (IntKind.wrap .u8 ((bShr .u32 (v37.1.getD 2 default) 0))), (IntKind.wrap .u8 ((bShr .u32 (v37.1.getD 2 default) 8))), (IntKind.wrap .u8 ((bShr .u32 (v37.1.getD 2 default) 16))), (IntKind.wrap .u8 ((bShr .u32 (v37.1.getD 2 default) 24))), (IntKind.wrap .u8 ((bShr .u32 (v37.1.getD 3 default) 0))), (IntKind.wrap .u8 ((bShr .u32 (v37.1.getD 3 default) 8))), (IntKind.wrap .u8 ((bShr .u32 (v37.1.getD 3 default) 16))), (IntKind.wrap .u8 ((bShr .u32 (v37.1.getD 3 default) 24)))])))))))))
def F83 (n : Nat) (a0 : (List (Int)) × (Int)) (a1 : List (Int)) : Option (List (Int)) := grd (0 ≤ (if (63 : Int) < (a1.length : Int) then (63 : Int) else (a1.length : Int)) ∧ (if (63 : Int) < (a1.length : Int) then (63 : Int) else (a1.length : Int)) ≤ (a1.length : Int)) (grd ((a1.take (if (63 : Int) < (a1.length : Int) then (63 : Int) else (a1.length : Int)).toNat).length ≤ 64) (grd (0 ≤ ((a1.take (if (63 : Int) < (a1.length : Int) then (63 : Int) else (a1.length : Int)).toNat).length : Int) ∧ ((a1.take (if (63 : Int) < (a1.length : Int) then (63 : Int) else (a1.length : Int)).toNat).length : Int) < (64 : Int)) (grd (((a1.take (if (63 : Int) < (a1.length : Int) then (63 : Int) else (a1.length : Int)).toNat).length : Int).toNat < ((a1.take (if (63 : Int) < (a1.length : Int) then (63 : Int) else (a1.length : Int)).toNat).length + (((0 : Int) :: (0 : Int) :: (0 : Int) :: (0 : Int) :: (0 : Int) :: (0 : Int) :: (0 : Int) :: (0 : Int) :: (0 : Int) :: (0 : Int) :: (0 : Int) :: (0 : Int) :: (0 : Int) :: (0 : Int) :: (0 : Int) :: (0 : Int) :: (0 : Int) :: (0 : Int) :: (0 : Int) :: (0 : Int) :: (0 : Int) :: (0 : Int) :: (0 : Int) :: (0 : Int) :: (0 : Int) :: (0 : Int) :: (0 : Int) :: (0 : Int) :: (0 : Int) :: (0 : Int) :: (0 : Int) :: (0 : Int) :: (0 : Int) :: (0 : Int) :: (0 : Int) :: (0 : Int) :: (0 : Int) :: (0 : Int) :: (0 : Int) :: (0 : Int) :: (0 : Int) :: (0 : Int) :: (0 : Int) :: (0 : Int) :: (0 : Int) :: (0 : Int) :: (0 : Int) :: (0 : Int) :: (0 : Int) :: (0 : Int) :: (0 : Int) :: (0 : Int) :: (0 : Int) :: (0 : Int) :: (0 : Int) :: (0 : Int) :: (0 : Int) :: (0 : Int) :: (0 : Int) :: (0 : Int) :: (0 : Int) :: (0 : Int) :: (0 : Int) :: (0 : Int) :: ([] : List Int)).drop ((a1.take (if (63 : Int) < (a1.length : Int) then (63 : Int) else (a1.length : Int)).toNat).length)).length)) (iteB (decide ((56 : Int) ≤ ((a1.take (if (63 : Int) < (a1.length : Int) then (63 : Int) else (a1.length : Int)).toNat).length : Int))) (grd (64 ≤ ((a1.take (if (63 : Int) < (a1.length : Int) then (63 : Int) else (a1.length : Int)).toNat).length + (((0 : Int) :: (0 : Int) :: (0 : Int) :: (0 : Int) :: (0 : Int) :: (0 : Int) :: (0 : Int) :: (0 : Int) :: (0 : Int) :: (0 : Int) :: (0 : Int) :: (0 : Int) :: (0 : Int) :: (0 : Int) :: (0 : Int) :: (0 : Int) :: (0 : Int) :: (0 : Int) :: (0 : Int) :: (0 : Int) :: (0 : Int) :: (0 : Int) :: (0 : Int) :: (0 : Int) :: (0 : Int) :: (0 : Int) :: (0 : Int) :: (0 : Int) :: (0 : Int) :: (0 : Int) :: (0 : Int) :: (0 : Int) :: (0 : Int) :: (0 : Int) :: (0 : Int) :: (0 : Int) :: (0 : Int) :: (0 : Int) :: (0 : Int) :: (0 : Int) :: (0 : Int) :: (0 : Int) :: (0 : Int) :: (0 : Int) :: (0 : Int) :: (0 : Int) :: (0 : Int) :: (0 : Int) :: (0 : Int) :: (0 : Int) :: (0 : Int) :: (0 : Int) :: (0 : Int) :: (0 : Int) :: (0 : Int) :: (0 : Int) :: (0 : Int) :: (0 : Int) :: (0 : Int) :: (0 : Int) :: (0 : Int) :: (0 : Int) :: (0 : Int) :: (0 : Int) :: ([] : List Int)).drop ((a1.take (if (63 : Int) < (a1.length : Int) then (63 : Int) else (a1.length : Int)).toNat).length)).length)) ((F82 n (a0.1, a0.2) ((List.set ((a1.take (if (63 : Int) < (a1.length : Int) then (63 : Int) else (a1.length : Int)).toNat) ++ ((0 : Int) :: (0 : Int) :: (0 : Int) :: (0 : Int) :: (0 : Int) :: (0 : Int) :: (0 : Int) :: (0 : Int) :: (0 : Int) :: (0 : Int) :: (0 : Int) :: (0 : Int) :: (0 : Int) :: (0 : Int) :: (0 : Int) :: (0 : Int) :: (0 : Int) :: (0 : Int) :: (0 : Int) :: (0 : Int) :: (0 : Int) :: (0 : Int) :: (0 : Int) :: (0 : Int) :: (0 : Int) :: (0 : Int) :: (0 : Int) :: (0 : Int) :: (0 : Int) :: (0 : Int) :: (0 : Int) :: (0 : Int) :: (0 : Int) :: (0 : Int) :: (0 : Int) :: (0 : Int) :: (0 : Int) :: (0 : Int) :: (0 : Int) :: (0 : Int) :: (0 : Int) :: (0 : Int) :: (0 : Int) :: (0 : Int) :: (0 : Int) :: (0 : Int) :: (0 : Int) :: (0 : Int) :: (0 : Int) :: (0 : Int) :: (0 : Int) :: (0 : Int) :: (0 : Int) :: (0 : Int) :: (0 : Int) :: (0 : Int) :: (0 : Int) :: (0 : Int) :: (0 : Int) :: (0 : Int) :: (0 : Int) :: (0 : Int) :: (0 : Int) :: (0 : Int) :: ([] : List Int)).drop ((a1.take (if (63 : Int) < (a1.length : Int) then (63 : Int) else (a1.length : Int)).toNat).length)) (((a1.take (if (63 : Int) < (a1.length : Int) then (63 : Int) else (a1.length : Int)).toNat).length : Int).toNat) (128 : Int)).take 64)).bind fun v10 => grd (((a1.take (if (63 : Int) < (a1.length : Int) then (63 : Int) else (a1.length : Int)).toNat).length + (((0 : Int) :: (0 : Int) :: (0 : Int) :: (0 : Int) :: (0 : Int) :: (0 : Int) :: (0 : Int) :: (0 : Int) :: (0 : Int) :: (0 : Int) :: (0 : Int) :: (0 : Int) :: (0 : Int) :: (0 : Int) :: (0 : Int) :: (0 : Int) :: (0 : Int) :: (0 : Int) :: (0 : Int) :: (0 : Int) :: (0 : Int) :: (0 : Int) :: (0 : Int) :: (0 : Int) :: (0 : Int) :: (0 : Int) :: (0 : Int) :: (0 : Int) :: (0 : Int) :: (0 : Int) :: (0 : Int) :: (0 : Int) :: (0 : Int) :: (0 : Int) :: (0 : Int) :: (0 : Int) :: (0 : Int) :: (0 : Int) :: (0 : Int) :: (0 : Int) :: (0 : Int) :: (0 : Int) :: (0 : Int) :: (0 : Int) :: (0 : Int) :: (0 : Int) :: (0 : Int) :: (0 : Int) :: (0 : Int) :: (0 : Int) :: (0 : Int) :: (0 : Int) :: (0 : Int) :: (0 : Int) :: (0 : Int) :: (0 : Int) :: (0 : Int) :: (0 : Int) :: (0 : Int) :: (0 : Int) :: (0 : Int) :: (0 : Int) :: (0 : Int) :: (0 : Int) :: ([] : List Int)).drop ((a1.take (if (63 : Int) < (a1.length : Int) then (63 : Int) else (a1.length : Int)).toNat).length)).length) = 64) (F83_J1 n a0 a1 (v10.1.getD 0 default) (v10.1.getD 1 default) (v10.1.getD 2 default) (v10.1.getD 3 default) v10.2 ((0 : Int) :: (0 : Int) :: (0 : Int) :: (0 : Int) :: (0 : Int) :: (0 : Int) :: (0 : Int) :: (0 : Int) :: (0 : Int) :: (0 : Int) :: (0 : Int) :: (0 : Int) :: (0 : Int) :: (0 : Int) :: (0 : Int) :: (0 : Int) :: (0 : Int) :: (0 : Int) :: (0 : Int) :: (0 : Int) :: (0 : Int) :: (0 : Int) :: (0 : Int) :: (0 : Int) :: (0 : Int) :: (0 : Int) :: (0 : Int) :: (0 : Int) :: (0 : Int) :: (0 : Int) :: (0 : Int) :: (0 : Int) :: (0 : Int) :: (0 : Int) :: (0 : Int) :: (0 : Int) :: (0 : Int) :: (0 : Int) :: (0 : Int) :: (0 : Int) :: (0 : Int) :: (0 : Int) :: (0 : Int) :: (0 : Int) :: (0 : Int) :: (0 : Int) :: (0 : Int) :: (0 : Int) :: (0 : Int) :: (0 : Int) :: (0 : Int) :: (0 : Int) :: (0 : Int) :: (0 : Int) :: (0 : Int) :: (0 : Int) :: (0 : Int) :: (0 : Int) :: (0 : Int) :: (0 : Int) :: (0 : Int) :: (0 : Int) :: (0 : Int) :: (0 : Int) :: ([] : List Int))))) (F83_J1 n a0 a1 (a0.1.getD 0 default) (a0.1.getD 1 default) (a0.1.getD 2 default) (a0.1.getD 3 default) a0.2 (List.set ((a1.take (if (63 : Int) < (a1.length : Int) then (63 : Int) else (a1.length : Int)).toNat) ++ ((0 : Int) :: (0 : Int) :: (0 : Int) :: (0 : Int) :: (0 : Int) :: (0 : Int) :: (0 : Int) :: (0 : Int) :: (0 : Int) :: (0 : Int) :: (0 : Int) :: (0 : Int) :: (0 : Int) :: (0 : Int) :: (0 : Int) :: (0 : Int) :: (0 : Int) :: (0 : Int) :: (0 : Int) :: (0 : Int) :: (0 : Int) :: (0 : Int) :: (0 : Int) :: (0 : Int) :: (0 : Int) :: (0 : Int) :: (0 : Int) :: (0 : Int) :: (0 : Int) :: (0 : Int) :: (0 : Int) :: (0 : Int) :: (0 : Int) :: (0 : Int) :: (0 : Int) :: (0 : Int) :: (0 : Int) :: (0 : Int) :: (0 : Int) :: (0 : Int) :: (0 : Int) :: (0 : Int) :: (0 : Int) :: (0 : Int) :: (0 : Int) :: (0 : Int) :: (0 : Int) :: (0 : Int) :: (0 : Int) :: (0 : Int) :: (0 : Int) :: (0 : Int) :: (0 : Int) :: (0 : Int) :: (0 : Int) :: (0 : Int) :: (0 : Int) :: (0 : Int) :: (0 : Int) :: (0 : Int) :: (0 : Int) :: (0 : Int) :: (0 : Int) :: (0 : Int) :: ([] : List Int)).drop ((a1.take (if (63 : Int) < (a1.length : Int) then (63 : Int) else (a1.length : Int)).toNat).length)) (((a1.take (if (63 : Int) < (a1.length : Int) then (63 : Int) else (a1.length : Int)).toNat).length : Int).toNat) (128 : Int)))))))
set_option maxHeartbeats 4000000 in
theorem F83_ok : ∀ (n : Nat) (a0 : (List (Int)) × (Int)) (a1 : List (Int)) (r : List (Int)), F83 n a0 a1 = some r → FnC Try.prog 83 [.agg [.imm (.int .u32 (a0.1.getD 0 default)), .imm (.int .u32 (a0.1.getD 1 default)), .imm (.int .u32 (a0.1.getD 2 default)), .imm (.int .u32 (a0.1.getD 3 default)), .imm (.int .u64 a0.2)], .sl 1 false (List.map byteT a1)] (.agg (List.map byteT r))
 | n, a0, a1, r, h => by
  unfold F83 at h
  refine FnC.goX mixed Try.func83 (by kernel_rfl) rfl ?_
  simp only [Try.ntmps83, List.length_cons, List.length_nil, List.replicate, List.cons_append, List.nil_append, Nat.reduceAdd, Nat.reduceSub]
  refine runX_seq ?_
  refine runX_regionC fun C hC => ?_
  try simp -implicitDefEqProofs (maxSteps := 4000000) (disch := first | omega | decide | (simp only [go_sem]; omega)) only [go_sem, ↓reduceIte]
  repeat (with_reducible refine And.intro (by first | assumption | omega | (simp; done) | (simp; omega)) ?_)
  refine toEnd hC ?_
  refine endX_seq ?_
  refine runX_seq ?_
  refine runX_regionC fun C hC => ?_
  obtain ⟨g1, h⟩ := grd_some h
  try simp -implicitDefEqProofs (maxSteps := 4000000) (disch := first | omega | decide | (simp only [go_sem]; omega)) only [go_sem, ↓reduceIte]
  repeat (with_reducible refine And.intro (by first | assumption | omega | (simp; done) | (simp; omega)) ?_)
  refine toEnd hC ?_
  refine endX_seq ?_
  refine runX_seq ?_
  refine runX_regionC fun C hC => ?_
  try simp -implicitDefEqProofs (maxSteps := 4000000) (disch := first | omega | decide | (simp only [go_sem]; omega)) only [go_sem, ↓reduceIte]
  repeat (with_reducible refine And.intro (by first | assumption | omega | (simp; done) | (simp; omega)) ?_)
  refine toEnd hC ?_
  refine endX_seq ?_
  refine runX_seq ?_
  refine runX_regionC fun C hC => ?_
  try simp -implicitDefEqProofs (maxSteps := 4000000) (disch := first | omega | decide | (simp only [go_sem]; omega)) only [go_sem, ↓reduceIte]
  repeat (with_reducible refine And.intro (by first | assumption | omega | (simp; done) | (simp; omega)) ?_)
  refine toEnd hC ?_
  refine endX_seq ?_
  refine runX_seq ?_
  refine runX_regionC fun C hC => ?_
  obtain ⟨g2, h⟩ := grd_some h
  have e3 : patchT (.imm (.int .u8 (0 : Int)) :: .imm (.int .u8 (0 : Int)) :: .imm (.int .u8 (0 : Int)) :: .imm (.int .u8 (0 : Int)) :: .imm (.int .u8 (0 : Int)) :: .imm (.int .u8 (0 : Int)) :: .imm (.int .u8 (0 : Int)) :: .imm (.int .u8 (0 : Int)) :: .imm (.int .u8 (0 : Int)) :: .imm (.int .u8 (0 : Int)) :: .imm (.int .u8 (0 : Int)) :: .imm (.int .u8 (0 : Int)) :: .imm (.int .u8 (0 : Int)) :: .imm (.int .u8 (0 : Int)) :: .imm (.int .u8 (0 : Int)) :: .imm (.int .u8 (0 : Int)) :: .imm (.int .u8 (0 : Int)) :: .imm (.int .u8 (0 : Int)) :: .imm (.int .u8 (0 : Int)) :: .imm (.int .u8 (0 : Int)) :: .imm (.int .u8 (0 : Int)) :: .imm (.int .u8 (0 : Int)) :: .imm (.int .u8 (0 : Int)) :: .imm (.int .u8 (0 : Int)) :: .imm (.int .u8 (0 : Int)) :: .imm (.int .u8 (0 : Int)) :: .imm (.int .u8 (0 : Int)) :: .imm (.int .u8 (0 : Int)) :: .imm (.int .u8 (0 : Int)) :: .imm (.int .u8 (0 : Int)) :: .imm (.int .u8 (0 : Int)) :: .imm (.int .u8 (0 : Int)) :: .imm (.int .u8 (0 : Int)) :: .imm (.int .u8 (0 : Int)) :: .imm (.int .u8 (0 : Int)) :: .imm (.int .u8 (0 : Int)) :: .imm (.int .u8 (0 : Int)) :: .imm (.int .u8 (0 : Int)) :: .imm (.int .u8 (0 : Int)) :: .imm (.int .u8 (0 : Int)) :: .imm (.int .u8 (0 : Int)) :: .imm (.int .u8 (0 : Int)) :: .imm (.int .u8 (0 : Int)) :: .imm (.int .u8 (0 : Int)) :: .imm (.int .u8 (0 : Int)) :: .imm (.int .u8 (0 : Int)) :: .imm (.int .u8 (0 : Int)) :: .imm (.int .u8 (0 : Int)) :: .imm (.int .u8 (0 : Int)) :: .imm (.int .u8 (0 : Int)) :: .imm (.int .u8 (0 : Int)) :: .imm (.int .u8 (0 : Int)) :: .imm (.int .u8 (0 : Int)) :: .imm (.int .u8 (0 : Int)) :: .imm (.int .u8 (0 : Int)) :: .imm (.int .u8 (0 : Int)) :: .imm (.int .u8 (0 : Int)) :: .imm (.int .u8 (0 : Int)) :: .imm (.int .u8 (0 : Int)) :: .imm (.int .u8 (0 : Int)) :: .imm (.int .u8 (0 : Int)) :: .imm (.int .u8 (0 : Int)) :: .imm (.int .u8 (0 : Int)) :: .imm (.int .u8 (0 : Int)) :: ([] : List T)) 0 (List.map byteT (a1.take (if (63 : Int) < (a1.length : Int) then (63 : Int) else (a1.length : Int)).toNat)) = List.map byteT ((a1.take (if (63 : Int) < (a1.length : Int) then (63 : Int) else (a1.length : Int)).toNat) ++ ((0 : Int) :: (0 : Int) :: (0 : Int) :: (0 : Int) :: (0 : Int) :: (0 : Int) :: (0 : Int) :: (0 : Int) :: (0 : Int) :: (0 : Int) :: (0 : Int) :: (0 : Int) :: (0 : Int) :: (0 : Int) :: (0 : Int) :: (0 : Int) :: (0 : Int) :: (0 : Int) :: (0 : Int) :: (0 : Int) :: (0 : Int) :: (0 : Int) :: (0 : Int) :: (0 : Int) :: (0 : Int) :: (0 : Int) :: (0 : Int) :: (0 : Int) :: (0 : Int) :: (0 : Int) :: (0 : Int) :: (0 : Int) :: (0 : Int) :: (0 : Int) :: (0 : Int) :: (0 : Int) :: (0 : Int) :: (0 : Int) :: (0 : Int) :: (0 : Int) :: (0 : Int) :: (0 : Int) :: (0 : Int) :: (0 : Int) :: (0 : Int) :: (0 : Int) :: (0 : Int) :: (0 : Int) :: (0 : Int) :: (0 : Int) :: (0 : Int) :: (0 : Int) :: (0 : Int) :: (0 : Int) :: (0 : Int) :: (0 : Int) :: (0 : Int) :: (0 : Int) :: (0 : Int) :: (0 : Int) :: (0 : Int) :: (0 : Int) :: (0 : Int) :: (0 : Int) :: ([] : List Int)).drop ((a1.take (if (63 : Int) < (a1.length : Int) then (63 : Int) else (a1.length : Int)).toNat).length)) := copy_map byteT ((0 : Int) :: (0 : Int) :: (0 : Int) :: (0 : Int) :: (0 : Int) :: (0 : Int) :: (0 : Int) :: (0 : Int) :: (0 : Int) :: (0 : Int) :: (0 : Int) :: (0 : Int) :: (0 : Int) :: (0 : Int) :: (0 : Int) :: (0 : Int) :: (0 : Int) :: (0 : Int) :: (0 : Int) :: (0 : Int) :: (0 : Int) :: (0 : Int) :: (0 : Int) :: (0 : Int) :: (0 : Int) :: (0 : Int) :: (0 : Int) :: (0 : Int) :: (0 : Int) :: (0 : Int) :: (0 : Int) :: (0 : Int) :: (0 : Int) :: (0 : Int) :: (0 : Int) :: (0 : Int) :: (0 : Int) :: (0 : Int) :: (0 : Int) :: (0 : Int) :: (0 : Int) :: (0 : Int) :: (0 : Int) :: (0 : Int) :: (0 : Int) :: (0 : Int) :: (0 : Int) :: (0 : Int) :: (0 : Int) :: (0 : Int) :: (0 : Int) :: (0 : Int) :: (0 : Int) :: (0 : Int) :: (0 : Int) :: (0 : Int) :: (0 : Int) :: (0 : Int) :: (0 : Int) :: (0 : Int) :: (0 : Int) :: (0 : Int) :: (0 : Int) :: (0 : Int) :: ([] : List Int)) (a1.take (if (63 : Int) < (a1.length : Int) then (63 : Int) else (a1.length : Int)).toNat)
  have e4 : List.drop ((a1.take (if (63 : Int) < (a1.length : Int) then (63 : Int) else (a1.length : Int)).toNat).length) ((.imm (.int .u8 (0 : Int)) :: .imm (.int .u8 (0 : Int)) :: .imm (.int .u8 (0 : Int)) :: .imm (.int .u8 (0 : Int)) :: .imm (.int .u8 (0 : Int)) :: .imm (.int .u8 (0 : Int)) :: .imm (.int .u8 (0 : Int)) :: .imm (.int .u8 (0 : Int)) :: .imm (.int .u8 (0 : Int)) :: .imm (.int .u8 (0 : Int)) :: .imm (.int .u8 (0 : Int)) :: .imm (.int .u8 (0 : Int)) :: .imm (.int .u8 (0 : Int)) :: .imm (.int .u8 (0 : Int)) :: .imm (.int .u8 (0 : Int)) :: .imm (.int .u8 (0 : Int)) :: .imm (.int .u8 (0 : Int)) :: .imm (.int .u8 (0 : Int)) :: .imm (.int .u8 (0 : Int)) :: .imm (.int .u8 (0 : Int)) :: .imm (.int .u8 (0 : Int)) :: .imm (.int .u8 (0 : Int)) :: .imm (.int .u8 (0 : Int)) :: .imm (.int .u8 (0 : Int)) :: .imm (.int .u8 (0 : Int)) :: .imm (.int .u8 (0 : Int)) :: .imm (.int .u8 (0 : Int)) :: .imm (.int .u8 (0 : Int)) :: .imm (.int .u8 (0 : Int)) :: .imm (.int .u8 (0 : Int)) :: .imm (.int .u8 (0 : Int)) :: .imm (.int .u8 (0 : Int)) :: .imm (.int .u8 (0 : Int)) :: .imm (.int .u8 (0 : Int)) :: .imm (.int .u8 (0 : Int)) :: .imm (.int .u8 (0 : Int)) :: .imm (.int .u8 (0 : Int)) :: .imm (.int .u8 (0 : Int)) :: .imm (.int .u8 (0 : Int)) :: .imm (.int .u8 (0 : Int)) :: .imm (.int .u8 (0 : Int)) :: .imm (.int .u8 (0 : Int)) :: .imm (.int .u8 (0 : Int)) :: .imm (.int .u8 (0 : Int)) :: .imm (.int .u8 (0 : Int)) :: .imm (.int .u8 (0 : Int)) :: .imm (.int .u8 (0 : Int)) :: .imm (.int .u8 (0 : Int)) :: .imm (.int .u8 (0 : Int)) :: .imm (.int .u8 (0 : Int)) :: .imm (.int .u8 (0 : Int)) :: .imm (.int .u8 (0 : Int)) :: .imm (.int .u8 (0 : Int)) :: .imm (.int .u8 (0 : Int)) :: .imm (.int .u8 (0 : Int)) :: .imm (.int .u8 (0 : Int)) :: .imm (.int .u8 (0 : Int)) :: .imm (.int .u8 (0 : Int)) :: .imm (.int .u8 (0 : Int)) :: .imm (.int .u8 (0 : Int)) :: .imm (.int .u8 (0 : Int)) :: .imm (.int .u8 (0 : Int)) :: .imm (.int .u8 (0 : Int)) :: .imm (.int .u8 (0 : Int)) :: ([] : List T)) : List T) = List.map byteT (((0 : Int) :: (0 : Int) :: (0 : Int) :: (0 : Int) :: (0 : Int) :: (0 : Int) :: (0 : Int) :: (0 : Int) :: (0 : Int) :: (0 : Int) :: (0 : Int) :: (0 : Int) :: (0 : Int) :: (0 : Int) :: (0 : Int) :: (0 : Int) :: (0 : Int) :: (0 : Int) :: (0 : Int) :: (0 : Int) :: (0 : Int) :: (0 : Int) :: (0 : Int) :: (0 : Int) :: (0 : Int) :: (0 : Int) :: (0 : Int) :: (0 : Int) :: (0 : Int) :: (0 : Int) :: (0 : Int) :: (0 : Int) :: (0 : Int) :: (0 : Int) :: (0 : Int) :: (0 : Int) :: (0 : Int) :: (0 : Int) :: (0 : Int) :: (0 : Int) :: (0 : Int) :: (0 : Int) :: (0 : Int) :: (0 : Int) :: (0 : Int) :: (0 : Int) :: (0 : Int) :: (0 : Int) :: (0 : Int) :: (0 : Int) :: (0 : Int) :: (0 : Int) :: (0 : Int) :: (0 : Int) :: (0 : Int) :: (0 : Int) :: (0 : Int) :: (0 : Int) :: (0 : Int) :: (0 : Int) :: (0 : Int) :: (0 : Int) :: (0 : Int) :: (0 : Int) :: ([] : List Int)).drop ((a1.take (if (63 : Int) < (a1.length : Int) then (63 : Int) else (a1.length : Int)).toNat).length)) := drop_lit byteT ((0 : Int) :: (0 : Int) :: (0 : Int) :: (0 : Int) :: (0 : Int) :: (0 : Int) :: (0 : Int) :: (0 : Int) :: (0 : Int) :: (0 : Int) :: (0 : Int) :: (0 : Int) :: (0 : Int) :: (0 : Int) :: (0 : Int) :: (0 : Int) :: (0 : Int) :: (0 : Int) :: (0 : Int) :: (0 : Int) :: (0 : Int) :: (0 : Int) :: (0 : Int) :: (0 : Int) :: (0 : Int) :: (0 : Int) :: (0 : Int) :: (0 : Int) :: (0 : Int) :: (0 : Int) :: (0 : Int) :: (0 : Int) :: (0 : Int) :: (0 : Int) :: (0 : Int) :: (0 : Int) :: (0 : Int) :: (0 : Int) :: (0 : Int) :: (0 : Int) :: (0 : Int) :: (0 : Int) :: (0 : Int) :: (0 : Int) :: (0 : Int) :: (0 : Int) :: (0 : Int) :: (0 : Int) :: (0 : Int) :: (0 : Int) :: (0 : Int) :: (0 : Int) :: (0 : Int) :: (0 : Int) :: (0 : Int) :: (0 : Int) :: (0 : Int) :: (0 : Int) :: (0 : Int) :: (0 : Int) :: (0 : Int) :: (0 : Int) :: (0 : Int) :: (0 : Int) :: ([] : List Int)) _ _ rfl
  obtain ⟨g5, h⟩ := grd_some h
  obtain ⟨g6, h⟩ := grd_some h
  have e7 : patchT (List.map byteT ((a1.take (if (63 : Int) < (a1.length : Int) then (63 : Int) else (a1.length : Int)).toNat) ++ ((0 : Int) :: (0 : Int) :: (0 : Int) :: (0 : Int) :: (0 : Int) :: (0 : Int) :: (0 : Int) :: (0 : Int) :: (0 : Int) :: (0 : Int) :: (0 : Int) :: (0 : Int) :: (0 : Int) :: (0 : Int) :: (0 : Int) :: (0 : Int) :: (0 : Int) :: (0 : Int) :: (0 : Int) :: (0 : Int) :: (0 : Int) :: (0 : Int) :: (0 : Int) :: (0 : Int) :: (0 : Int) :: (0 : Int) :: (0 : Int) :: (0 : Int) :: (0 : Int) :: (0 : Int) :: (0 : Int) :: (0 : Int) :: (0 : Int) :: (0 : Int) :: (0 : Int) :: (0 : Int) :: (0 : Int) :: (0 : Int) :: (0 : Int) :: (0 : Int) :: (0 : Int) :: (0 : Int) :: (0 : Int) :: (0 : Int) :: (0 : Int) :: (0 : Int) :: (0 : Int) :: (0 : Int) :: (0 : Int) :: (0 : Int) :: (0 : Int) :: (0 : Int) :: (0 : Int) :: (0 : Int) :: (0 : Int) :: (0 : Int) :: (0 : Int) :: (0 : Int) :: (0 : Int) :: (0 : Int) :: (0 : Int) :: (0 : Int) :: (0 : Int) :: (0 : Int) :: ([] : List Int)).drop ((a1.take (if (63 : Int) < (a1.length : Int) then (63 : Int) else (a1.length : Int)).toNat).length))) (((a1.take (if (63 : Int) < (a1.length : Int) then (63 : Int) else (a1.length : Int)).toNat).length : Int).toNat) ([.imm (.int .u8 (128 : Int))] : List T) = List.map byteT (List.set ((a1.take (if (63 : Int) < (a1.length : Int) then (63 : Int) else (a1.length : Int)).toNat) ++ ((0 : Int) :: (0 : Int) :: (0 : Int) :: (0 : Int) :: (0 : Int) :: (0 : Int) :: (0 : Int) :: (0 : Int) :: (0 : Int) :: (0 : Int) :: (0 : Int) :: (0 : Int) :: (0 : Int) :: (0 : Int) :: (0 : Int) :: (0 : Int) :: (0 : Int) :: (0 : Int) :: (0 : Int) :: (0 : Int) :: (0 : Int) :: (0 : Int) :: (0 : Int) :: (0 : Int) :: (0 : Int) :: (0 : Int) :: (0 : Int) :: (0 : Int) :: (0 : Int) :: (0 : Int) :: (0 : Int) :: (0 : Int) :: (0 : Int) :: (0 : Int) :: (0 : Int) :: (0 : Int) :: (0 : Int) :: (0 : Int) :: (0 : Int) :: (0 : Int) :: (0 : Int) :: (0 : Int) :: (0 : Int) :: (0 : Int) :: (0 : Int) :: (0 : Int) :: (0 : Int) :: (0 : Int) :: (0 : Int) :: (0 : Int) :: (0 : Int) :: (0 : Int) :: (0 : Int) :: (0 : Int) :: (0 : Int) :: (0 : Int) :: (0 : Int) :: (0 : Int) :: (0 : Int) :: (0 : Int) :: (0 : Int) :: (0 : Int) :: (0 : Int) :: (0 : Int) :: ([] : List Int)).drop ((a1.take (if (63 : Int) < (a1.length : Int) then (63 : Int) else (a1.length : Int)).toNat).length)) (((a1.take (if (63 : Int) < (a1.length : Int) then (63 : Int) else (a1.length : Int)).toNat).length : Int).toNat) (128 : Int)) := patch_map byteT (l := ((a1.take (if (63 : Int) < (a1.length : Int) then (63 : Int) else (a1.length : Int)).toNat) ++ ((0 : Int) :: (0 : Int) :: (0 : Int) :: (0 : Int) :: (0 : Int) :: (0 : Int) :: (0 : Int) :: (0 : Int) :: (0 : Int) :: (0 : Int) :: (0 : Int) :: (0 : Int) :: (0 : Int) :: (0 : Int) :: (0 : Int) :: (0 : Int) :: (0 : Int) :: (0 : Int) :: (0 : Int) :: (0 : Int) :: (0 : Int) :: (0 : Int) :: (0 : Int) :: (0 : Int) :: (0 : Int) :: (0 : Int) :: (0 : Int) :: (0 : Int) :: (0 : Int) :: (0 : Int) :: (0 : Int) :: (0 : Int) :: (0 : Int) :: (0 : Int) :: (0 : Int) :: (0 : Int) :: (0 : Int) :: (0 : Int) :: (0 : Int) :: (0 : Int) :: (0 : Int) :: (0 : Int) :: (0 : Int) :: (0 : Int) :: (0 : Int) :: (0 : Int) :: (0 : Int) :: (0 : Int) :: (0 : Int) :: (0 : Int) :: (0 : Int) :: (0 : Int) :: (0 : Int) :: (0 : Int) :: (0 : Int) :: (0 : Int) :: (0 : Int) :: (0 : Int) :: (0 : Int) :: (0 : Int) :: (0 : Int) :: (0 : Int) :: (0 : Int) :: (0 : Int) :: ([] : List Int)).drop ((a1.take (if (63 : Int) < (a1.length : Int) then (63 : Int) else (a1.length : Int)).toNat).length))) (i := ((a1.take (if (63 : Int) < (a1.length : Int) then (63 : Int) else (a1.length : Int)).toNat).length : Int).toNat) (v := (128 : Int)) (by first | omega | (simp only [List.length_cons, List.length_nil]; omega) | (simp only [List.length_append]; omega) | (simp only [List.length_append, List.length_drop, List.length_cons, List.length_nil] at *; omega))
  try simp -implicitDefEqProofs (maxSteps := 4000000) (disch := first | omega | decide | (simp only [go_sem]; omega)) only [go_sem, ↓reduceIte, e3, e4, e7]
  repeat (with_reducible refine And.intro (by first | assumption | omega | (simp; done) | (simp; omega)) ?_)
  refine toEnd hC ?_
  refine endX_seq ?_
  refine runX_meet [2, 4, 5, 6] (fun S => ∃ (x14 : Int) (x15 : Int) (x16 : Int) (x17 : Int) (x18 : Int) (x19 : List (Int)), S = F83_S1 a0 a1 x14 x15 x16 x17 x18 x19 ∧ F83_J1 n a0 a1 x14 x15 x16 x17 x18 x19 = some r) ?_ ?_
  ·refine runX_seq ?_
   refine runX_regionC fun C hC => ?_
   try simp -implicitDefEqProofs (maxSteps := 4000000) (disch := first | omega | decide | (simp only [go_sem]; omega)) only [go_sem, ↓reduceIte]
   repeat (with_reducible refine And.intro (by first | assumption | omega | (simp; done) | (simp; omega)) ?_)
   refine toEnd hC ?_
   refine endX_seq ?_
   rcases iteB_some h with ⟨c8, h⟩ | ⟨c8, h⟩
   ·refine runX_condT rfl c8 ?_
    refine runX_seq ?_
    refine runX_regionC fun C hC => ?_
    obtain ⟨g9, h⟩ := grd_some h
    obtain ⟨v10, h10, h⟩ := bnd_some h
    try simp -implicitDefEqProofs (maxSteps := 4000000) (disch := first | omega | decide | (simp only [go_sem]; omega)) only [go_sem, ↓reduceIte]
    repeat (with_reducible refine And.intro (by first | assumption | omega | (simp; done) | (simp; omega)) ?_)
    refine callG_X (by first | rfl | (simp only [go_sem]; done) | (simp only [closedL, closedT, Bool.and_true]; exact closedL_map _ (fun _ => by first | rfl | (simp only [go_sem]; done)) _)) (F82_ok n (a0.1, a0.2) ((List.set ((a1.take (if (63 : Int) < (a1.length : Int) then (63 : Int) else (a1.length : Int)).toNat) ++ ((0 : Int) :: (0 : Int) :: (0 : Int) :: (0 : Int) :: (0 : Int) :: (0 : Int) :: (0 : Int) :: (0 : Int) :: (0 : Int) :: (0 : Int) :: (0 : Int) :: (0 : Int) :: (0 : Int) :: (0 : Int) :: (0 : Int) :: (0 : Int) :: (0 : Int) :: (0 : Int) :: (0 : Int) :: (0 : Int) :: (0 : Int) :: (0 : Int) :: (0 : Int) :: (0 : Int) :: (0 : Int) :: (0 : Int) :: (0 : Int) :: (0 : Int) :: (0 : Int) :: (0 : Int) :: (0 : Int) :: (0 : Int) :: (0 : Int) :: (0 : Int) :: (0 : Int) :: (0 : Int) :: (0 : Int) :: (0 : Int) :: (0 : Int) :: (0 : Int) :: (0 : Int) :: (0 : Int) :: (0 : Int) :: (0 : Int) :: (0 : Int) :: (0 : Int) :: (0 : Int) :: (0 : Int) :: (0 : Int) :: (0 : Int) :: (0 : Int) :: (0 : Int) :: (0 : Int) :: (0 : Int) :: (0 : Int) :: (0 : Int) :: (0 : Int) :: (0 : Int) :: (0 : Int) :: (0 : Int) :: (0 : Int) :: (0 : Int) :: (0 : Int) :: (0 : Int) :: ([] : List Int)).drop ((a1.take (if (63 : Int) < (a1.length : Int) then (63 : Int) else (a1.length : Int)).toNat).length)) (((a1.take (if (63 : Int) < (a1.length : Int) then (63 : Int) else (a1.length : Int)).toNat).length : Int).toNat) (128 : Int)).take 64) _ h10) (by repeat (first | exact leL_refl _ | refine leL_cons (by first | exact leT_refl _ | exact leT_virt | exact leT_junk _ | exact leT_sl | exact leT_sln | exact leT_nil | (refine leT_agg (by repeat (first | exact leL_refl _ | refine leL_cons (by first | exact leT_refl _ | exact leT_sl | exact leT_sln | exact leT_nil) ?_)))) ?_)) ?_
    try simp -implicitDefEqProofs (maxSteps := 4000000) (disch := first | omega | decide | (simp only [go_sem]; omega)) only [go_sem, ↓reduceIte]
    repeat (with_reducible refine And.intro (by first | assumption | omega | (simp; done) | (simp; omega)) ?_)
    refine toEnd hC ?_
    refine endX_seq ?_
    refine runX_regionC fun C hC => ?_
    simp only [runK_region, runK_draw, liteL, liteL2, dstsL, gL, List.getD_cons_zero, List.getD_cons_succ]
    try simp -implicitDefEqProofs (maxSteps := 4000000) (disch := first | omega | decide | (simp only [go_sem]; omega)) only [go_sem, ↓reduceIte]
    repeat (with_reducible refine And.intro (by first | assumption | omega | (simp; done) | (simp; omega)) ?_)
    refine bldG_of [.imm (.int .u8 (0 : Int)), .imm (.int .u8 (0 : Int)), .imm (.int .u8 (0 : Int)), .imm (.int .u8 (0 : Int)), .imm (.int .u8 (0 : Int)), .imm (.int .u8 (0 : Int)), .imm (.int .u8 (0 : Int)), .imm (.int .u8 (0 : Int)), .imm (.int .u8 (0 : Int)), .imm (.int .u8 (0 : Int)), .imm (.int .u8 (0 : Int)), .imm (.int .u8 (0 : Int)), .imm (.int .u8 (0 : Int)), .imm (.int .u8 (0 : Int)), .imm (.int .u8 (0 : Int)), .imm (.int .u8 (0 : Int)), .imm (.int .u8 (0 : Int)), .imm (.int .u8 (0 : Int)), .imm (.int .u8 (0 : Int)), .imm (.int .u8 (0 : Int)), .imm (.int .u8 (0 : Int)), .imm (.int .u8 (0 : Int)), .imm (.int .u8 (0 : Int)), .imm (.int .u8 (0 : Int)), .imm (.int .u8 (0 : Int)), .imm (.int .u8 (0 : Int)), .imm (.int .u8 (0 : Int)), .imm (.int .u8 (0 : Int)), .imm (.int .u8 (0 : Int)), .imm (.int .u8 (0 : Int)), .imm (.int .u8 (0 : Int)), .imm (.int .u8 (0 : Int)), .imm (.int .u8 (0 : Int)), .imm (.int .u8 (0 : Int)), .imm (.int .u8 (0 : Int)), .imm (.int .u8 (0 : Int)), .imm (.int .u8 (0 : Int)), .imm (.int .u8 (0 : Int)), .imm (.int .u8 (0 : Int)), .imm (.int .u8 (0 : Int)), .imm (.int .u8 (0 : Int)), .imm (.int .u8 (0 : Int)), .imm (.int .u8 (0 : Int)), .imm (.int .u8 (0 : Int)), .imm (.int .u8 (0 : Int)), .imm (.int .u8 (0 : Int)), .imm (.int .u8 (0 : Int)), .imm (.int .u8 (0 : Int)), .imm (.int .u8 (0 : Int)), .imm (.int .u8 (0 : Int)), .imm (.int .u8 (0 : Int)), .imm (.int .u8 (0 : Int)), .imm (.int .u8 (0 : Int)), .imm (.int .u8 (0 : Int)), .imm (.int .u8 (0 : Int)), .imm (.int .u8 (0 : Int)), .imm (.int .u8 (0 : Int)), .imm (.int .u8 (0 : Int)), .imm (.int .u8 (0 : Int)), .imm (.int .u8 (0 : Int)), .imm (.int .u8 (0 : Int)), .imm (.int .u8 (0 : Int)), .imm (.int .u8 (0 : Int)), .imm (.int .u8 (0 : Int))] (by kernel_rfl) ?_
    obtain ⟨g11, h⟩ := grd_some h
    have e12 : List.drop 64 (List.set ((a1.take (if (63 : Int) < (a1.length : Int) then (63 : Int) else (a1.length : Int)).toNat) ++ ((0 : Int) :: (0 : Int) :: (0 : Int) :: (0 : Int) :: (0 : Int) :: (0 : Int) :: (0 : Int) :: (0 : Int) :: (0 : Int) :: (0 : Int) :: (0 : Int) :: (0 : Int) :: (0 : Int) :: (0 : Int) :: (0 : Int) :: (0 : Int) :: (0 : Int) :: (0 : Int) :: (0 : Int) :: (0 : Int) :: (0 : Int) :: (0 : Int) :: (0 : Int) :: (0 : Int) :: (0 : Int) :: (0 : Int) :: (0 : Int) :: (0 : Int) :: (0 : Int) :: (0 : Int) :: (0 : Int) :: (0 : Int) :: (0 : Int) :: (0 : Int) :: (0 : Int) :: (0 : Int) :: (0 : Int) :: (0 : Int) :: (0 : Int) :: (0 : Int) :: (0 : Int) :: (0 : Int) :: (0 : Int) :: (0 : Int) :: (0 : Int) :: (0 : Int) :: (0 : Int) :: (0 : Int) :: (0 : Int) :: (0 : Int) :: (0 : Int) :: (0 : Int) :: (0 : Int) :: (0 : Int) :: (0 : Int) :: (0 : Int) :: (0 : Int) :: (0 : Int) :: (0 : Int) :: (0 : Int) :: (0 : Int) :: (0 : Int) :: (0 : Int) :: (0 : Int) :: ([] : List Int)).drop ((a1.take (if (63 : Int) < (a1.length : Int) then (63 : Int) else (a1.length : Int)).toNat).length)) (((a1.take (if (63 : Int) < (a1.length : Int) then (63 : Int) else (a1.length : Int)).toNat).length : Int).toNat) (128 : Int)) = [] := List.drop_of_length_le (by first | omega | (simp only [List.length_set, List.length_append]; omega) | (simp only [List.length_set, List.length_append, List.length_drop, List.length_cons, List.length_nil] at *; omega))
    have e13 : List.drop 64 (List.set ((a1.take (if (63 : Int) < (a1.length : Int) then (63 : Int) else (a1.length : Int)).toNat) ++ ((0 : Int) :: (0 : Int) :: (0 : Int) :: (0 : Int) :: (0 : Int) :: (0 : Int) :: (0 : Int) :: (0 : Int) :: (0 : Int) :: (0 : Int) :: (0 : Int) :: (0 : Int) :: (0 : Int) :: (0 : Int) :: (0 : Int) :: (0 : Int) :: (0 : Int) :: (0 : Int) :: (0 : Int) :: (0 : Int) :: (0 : Int) :: (0 : Int) :: (0 : Int) :: (0 : Int) :: (0 : Int) :: (0 : Int) :: (0 : Int) :: (0 : Int) :: (0 : Int) :: (0 : Int) :: (0 : Int) :: (0 : Int) :: (0 : Int) :: (0 : Int) :: (0 : Int) :: (0 : Int) :: (0 : Int) :: (0 : Int) :: (0 : Int) :: (0 : Int) :: (0 : Int) :: (0 : Int) :: (0 : Int) :: (0 : Int) :: (0 : Int) :: (0 : Int) :: (0 : Int) :: (0 : Int) :: (0 : Int) :: (0 : Int) :: (0 : Int) :: (0 : Int) :: (0 : Int) :: (0 : Int) :: (0 : Int) :: (0 : Int) :: (0 : Int) :: (0 : Int) :: (0 : Int) :: (0 : Int) :: (0 : Int) :: (0 : Int) :: (0 : Int) :: (0 : Int) :: ([] : List Int)).drop ((a1.take (if (63 : Int) < (a1.length : Int) then (63 : Int) else (a1.length : Int)).toNat).length)) (((a1.take (if (63 : Int) < (a1.length : Int) then (63 : Int) else (a1.length : Int)).toNat).length)) (128 : Int)) = [] := List.drop_of_length_le (by first | omega | (simp only [List.length_set, List.length_append]; omega) | (simp only [List.length_set, List.length_append, List.length_drop, List.length_cons, List.length_nil] at *; omega))
    try simp -implicitDefEqProofs (maxSteps := 4000000) (disch := first | omega | decide | (simp only [go_sem]; omega)) only [go_sem, ↓reduceIte, e12, e13]
    repeat (with_reducible refine And.intro (by first | assumption | omega | (simp; done) | (simp; omega)) ?_)
    refine toEnd hC ?_
    refine endX_q (meetQ_normal ⟨F83_S1 a0 a1 (v10.1.getD 0 default) (v10.1.getD 1 default) (v10.1.getD 2 default) (v10.1.getD 3 default) v10.2 ((0 : Int) :: (0 : Int) :: (0 : Int) :: (0 : Int) :: (0 : Int) :: (0 : Int) :: (0 : Int) :: (0 : Int) :: (0 : Int) :: (0 : Int) :: (0 : Int) :: (0 : Int) :: (0 : Int) :: (0 : Int) :: (0 : Int) :: (0 : Int) :: (0 : Int) :: (0 : Int) :: (0 : Int) :: (0 : Int) :: (0 : Int) :: (0 : Int) :: (0 : Int) :: (0 : Int) :: (0 : Int) :: (0 : Int) :: (0 : Int) :: (0 : Int) :: (0 : Int) :: (0 : Int) :: (0 : Int) :: (0 : Int) :: (0 : Int) :: (0 : Int) :: (0 : Int) :: (0 : Int) :: (0 : Int) :: (0 : Int) :: (0 : Int) :: (0 : Int) :: (0 : Int) :: (0 : Int) :: (0 : Int) :: (0 : Int) :: (0 : Int) :: (0 : Int) :: (0 : Int) :: (0 : Int) :: (0 : Int) :: (0 : Int) :: (0 : Int) :: (0 : Int) :: (0 : Int) :: (0 : Int) :: (0 : Int) :: (0 : Int) :: (0 : Int) :: (0 : Int) :: (0 : Int) :: (0 : Int) :: (0 : Int) :: (0 : Int) :: (0 : Int) :: (0 : Int) :: ([] : List Int)), ?_, (v10.1.getD 0 default), (v10.1.getD 1 default), (v10.1.getD 2 default), (v10.1.getD 3 default), v10.2, ((0 : Int) :: (0 : Int) :: (0 : Int) :: (0 : Int) :: (0 : Int) :: (0 : Int) :: (0 : Int) :: (0 : Int) :: (0 : Int) :: (0 : Int) :: (0 : Int) :: (0 : Int) :: (0 : Int) :: (0 : Int) :: (0 : Int) :: (0 : Int) :: (0 : Int) :: (0 : Int) :: (0 : Int) :: (0 : Int) :: (0 : Int) :: (0 : Int) :: (0 : Int) :: (0 : Int) :: (0 : Int) :: (0 : Int) :: (0 : Int) :: (0 : Int) :: (0 : Int) :: (0 : Int) :: (0 : Int) :: (0 : Int) :: (0 : Int) :: (0 : Int) :: (0 : Int) :: (0 : Int) :: (0 : Int) :: (0 : Int) :: (0 : Int) :: (0 : Int) :: (0 : Int) :: (0 : Int) :: (0 : Int) :: (0 : Int) :: (0 : Int) :: (0 : Int) :: (0 : Int) :: (0 : Int) :: (0 : Int) :: (0 : Int) :: (0 : Int) :: (0 : Int) :: (0 : Int) :: (0 : Int) :: (0 : Int) :: (0 : Int) :: (0 : Int) :: (0 : Int) :: (0 : Int) :: (0 : Int) :: (0 : Int) :: (0 : Int) :: (0 : Int) :: (0 : Int) :: ([] : List Int)), rfl, h⟩)
    simp only [F83_S1]
    (try simp -implicitDefEqProofs (maxSteps := 4000000) (disch := first | omega | decide | (simp only [go_sem]; omega)) only [go_sem, ↓reduceIte])
    first | exact leS_refl _ | (refine leS_le ?_ ?_ <;> first | exact leL_refl _ | exact leOs_refl _ | (simp only [List.append_assoc, List.cons_append, List.nil_append]; exact leOs_refl _) | (repeat (first | exact leL_refl _ | refine leL_cons (by first | exact leT_refl _ | exact leT_virt | exact leT_junk _ | exact leT_sl | exact leT_sln | exact leT_nil | (refine leT_agg (by repeat (first | exact leL_refl _ | refine leL_cons (by first | exact leT_refl _ | exact leT_sl | exact leT_sln | exact leT_nil) ?_)))) ?_)))
   ·refine runX_condF rfl c8 ?_
    refine runX_skip ?_
    refine endX_q (meetQ_normal ⟨F83_S1 a0 a1 (a0.1.getD 0 default) (a0.1.getD 1 default) (a0.1.getD 2 default) (a0.1.getD 3 default) a0.2 (List.set ((a1.take (if (63 : Int) < (a1.length : Int) then (63 : Int) else (a1.length : Int)).toNat) ++ ((0 : Int) :: (0 : Int) :: (0 : Int) :: (0 : Int) :: (0 : Int) :: (0 : Int) :: (0 : Int) :: (0 : Int) :: (0 : Int) :: (0 : Int) :: (0 : Int) :: (0 : Int) :: (0 : Int) :: (0 : Int) :: (0 : Int) :: (0 : Int) :: (0 : Int) :: (0 : Int) :: (0 : Int) :: (0 : Int) :: (0 : Int) :: (0 : Int) :: (0 : Int) :: (0 : Int) :: (0 : Int) :: (0 : Int) :: (0 : Int) :: (0 : Int) :: (0 : Int) :: (0 : Int) :: (0 : Int) :: (0 : Int) :: (0 : Int) :: (0 : Int) :: (0 : Int) :: (0 : Int) :: (0 : Int) :: (0 : Int) :: (0 : Int) :: (0 : Int) :: (0 : Int) :: (0 : Int) :: (0 : Int) :: (0 : Int) :: (0 : Int) :: (0 : Int) :: (0 : Int) :: (0 : Int) :: (0 : Int) :: (0 : Int) :: (0 : Int) :: (0 : Int) :: (0 : Int) :: (0 : Int) :: (0 : Int) :: (0 : Int) :: (0 : Int) :: (0 : Int) :: (0 : Int) :: (0 : Int) :: (0 : Int) :: (0 : Int) :: (0 : Int) :: (0 : Int) :: ([] : List Int)).drop ((a1.take (if (63 : Int) < (a1.length : Int) then (63 : Int) else (a1.length : Int)).toNat).length)) (((a1.take (if (63 : Int) < (a1.length : Int) then (63 : Int) else (a1.length : Int)).toNat).length : Int).toNat) (128 : Int)), ?_, (a0.1.getD 0 default), (a0.1.getD 1 default), (a0.1.getD 2 default), (a0.1.getD 3 default), a0.2, (List.set ((a1.take (if (63 : Int) < (a1.length : Int) then (63 : Int) else (a1.length : Int)).toNat) ++ ((0 : Int) :: (0 : Int) :: (0 : Int) :: (0 : Int) :: (0 : Int) :: (0 : Int) :: (0 : Int) :: (0 : Int) :: (0 : Int) :: (0 : Int) :: (0 : Int) :: (0 : Int) :: (0 : Int) :: (0 : Int) :: (0 : Int) :: (0 : Int) :: (0 : Int) :: (0 : Int) :: (0 : Int) :: (0 : Int) :: (0 : Int) :: (0 : Int) :: (0 : Int) :: (0 : Int) :: (0 : Int) :: (0 : Int) :: (0 : Int) :: (0 : Int) :: (0 : Int) :: (0 : Int) :: (0 : Int) :: (0 : Int) :: (0 : Int) :: (0 : Int) :: (0 : Int) :: (0 : Int) :: (0 : Int) :: (0 : Int) :: (0 : Int) :: (0 : Int) :: (0 : Int) :: (0 : Int) :: (0 : Int) :: (0 : Int) :: (0 : Int) :: (0 : Int) :: (0 : Int) :: (0 : Int) :: (0 : Int) :: (0 : Int) :: (0 : Int) :: (0 : Int) :: (0 : Int) :: (0 : Int) :: (0 : Int) :: (0 : Int) :: (0 : Int) :: (0 : Int) :: (0 : Int) :: (0 : Int) :: (0 : Int) :: (0 : Int) :: (0 : Int) :: (0 : Int) :: ([] : List Int)).drop ((a1.take (if (63 : Int) < (a1.length : Int) then (63 : Int) else (a1.length : Int)).toNat).length)) (((a1.take (if (63 : Int) < (a1.length : Int) then (63 : Int) else (a1.length : Int)).toNat).length : Int).toNat) (128 : Int)), rfl, h⟩)
    simp only [F83_S1]
    (try simp -implicitDefEqProofs (maxSteps := 4000000) (disch := first | omega | decide | (simp only [go_sem]; omega)) only [go_sem, ↓reduceIte])
    first | exact leS_refl _ | (refine leS_le ?_ ?_ <;> first | exact leL_refl _ | exact leOs_refl _ | (simp only [List.append_assoc, List.cons_append, List.nil_append]; exact leOs_refl _) | (repeat (first | exact leL_refl _ | refine leL_cons (by first | exact leT_refl _ | exact leT_virt | exact leT_junk _ | exact leT_sl | exact leT_sln | exact leT_nil | (refine leT_agg (by repeat (first | exact leL_refl _ | refine leL_cons (by first | exact leT_refl _ | exact leT_sl | exact leT_sln | exact leT_nil) ?_)))) ?_)))
  ·clear h
   rintro S ⟨x14, x15, x16, x17, x18, x19, rfl, h⟩
   rw [F83_J1] at h
   simp only [F83_S1]
   refine runX_seq ?_
   refine runX_seq ?_
   refine runX_regionC fun C hC => ?_
   try simp -implicitDefEqProofs (maxSteps := 4000000) (disch := first | omega | decide | (simp only [go_sem]; omega)) only [go_sem, ↓reduceIte]
   repeat (with_reducible refine And.intro (by first | assumption | omega | (simp; done) | (simp; omega)) ?_)
   refine toEnd hC ?_
   refine endX_seq ?_
   refine runX_block ?_
   refine runX_unroll 8 ?_
   refine runX_seq ?_
   refine runX_regionC fun C hC => ?_
   try simp -implicitDefEqProofs (maxSteps := 4000000) (disch := first | omega | decide | (simp only [go_sem]; omega)) only [go_sem, ↓reduceIte]
   repeat (with_reducible refine And.intro (by first | assumption | omega | (simp; done) | (simp; omega)) ?_)
   refine toEnd hC ?_
   refine endX_seq ?_
   refine runX_seq ?_
   refine runX_condT rfl rfl ?_
   refine runX_skip ?_
   refine endX_seq ?_
   refine runX_seq ?_
   refine runX_block ?_
   refine runX_seq ?_
   refine runX_regionC fun C hC => ?_
   try simp -implicitDefEqProofs (maxSteps := 4000000) (disch := first | omega | decide | (simp only [go_sem]; omega)) only [go_sem, ↓reduceIte]
   repeat (with_reducible refine And.intro (by first | assumption | omega | (simp; done) | (simp; omega)) ?_)
   refine toEnd hC ?_
   refine endX_seq ?_
   refine runX_regionC fun C hC => ?_
   obtain ⟨g20, h⟩ := grd_some h
   have e21 : patchT (List.map byteT x19) 56 [.imm (.int .u8 (IntKind.wrap .u8 ((bShr .u64 (IntKind.wrap .u64 ((8 : Int) * (IntKind.wrap .u64 (a0.2 + (IntKind.wrap .u64 (((a1.take (if (63 : Int) < (a1.length : Int) then (63 : Int) else (a1.length : Int)).toNat).length : Int))))))) 0))))] = List.map byteT (List.set x19 56 (IntKind.wrap .u8 ((bShr .u64 (IntKind.wrap .u64 ((8 : Int) * (IntKind.wrap .u64 (a0.2 + (IntKind.wrap .u64 (((a1.take (if (63 : Int) < (a1.length : Int) then (63 : Int) else (a1.length : Int)).toNat).length : Int))))))) 0)))) := patch_map byteT (l := x19) (i := 56) (v := (IntKind.wrap .u8 ((bShr .u64 (IntKind.wrap .u64 ((8 : Int) * (IntKind.wrap .u64 (a0.2 + (IntKind.wrap .u64 (((a1.take (if (63 : Int) < (a1.length : Int) then (63 : Int) else (a1.length : Int)).toNat).length : Int))))))) 0)))) (by first | assumption | omega | (simp only [List.length_set] at *; omega))
   try simp -implicitDefEqProofs (maxSteps := 4000000) (disch := first | omega | decide | (simp only [go_sem]; omega)) only [go_sem, ↓reduceIte, e21]
   repeat (with_reducible refine And.intro (by first | assumption | omega | (simp; done) | (simp; omega)) ?_)
   refine toEnd hC ?_
   refine endX_blk ?_
   refine endX_seq ?_
   refine runX_regionC fun C hC => ?_
   try simp -implicitDefEqProofs (maxSteps := 4000000) (disch := first | omega | decide | (simp only [go_sem]; omega)) only [go_sem, ↓reduceIte]
   repeat (with_reducible refine And.intro (by first | assumption | omega | (simp; done) | (simp; omega)) ?_)
   refine toEnd hC ?_
   refine endX_lp ?_
   refine runX_seq ?_
   refine runX_regionC fun C hC => ?_
   try simp -implicitDefEqProofs (maxSteps := 4000000) (disch := first | omega | decide | (simp only [go_sem]; omega)) only [go_sem, ↓reduceIte]
   repeat (with_reducible refine And.intro (by first | assumption | omega | (simp; done) | (simp; omega)) ?_)
   refine toEnd hC ?_
   refine endX_seq ?_
   refine runX_seq ?_
   refine runX_condT rfl rfl ?_
   refine runX_skip ?_
   refine endX_seq ?_
   refine runX_seq ?_
   refine runX_block ?_
   refine runX_seq ?_
   refine runX_regionC fun C hC => ?_
   try simp -implicitDefEqProofs (maxSteps := 4000000) (disch := first | omega | decide | (simp only [go_sem]; omega)) only [go_sem, ↓reduceIte]
   repeat (with_reducible refine And.intro (by first | assumption | omega | (simp; done) | (simp; omega)) ?_)
   refine toEnd hC ?_
   refine endX_seq ?_
   refine runX_regionC fun C hC => ?_
   obtain ⟨g22, h⟩ := grd_some h
   have e23 : patchT (List.map byteT (List.set x19 56 (IntKind.wrap .u8 ((bShr .u64 (IntKind.wrap .u64 ((8 : Int) * (IntKind.wrap .u64 (a0.2 + (IntKind.wrap .u64 (((a1.take (if (63 : Int) < (a1.length : Int) then (63 : Int) else (a1.length : Int)).toNat).length : Int))))))) 0))))) 57 [.imm (.int .u8 (IntKind.wrap .u8 ((bShr .u64 (IntKind.wrap .u64 ((8 : Int) * (IntKind.wrap .u64 (a0.2 + (IntKind.wrap .u64 (((a1.take (if (63 : Int) < (a1.length : Int) then (63 : Int) else (a1.length : Int)).toNat).length : Int))))))) 8))))] = List.map byteT (List.set (List.set x19 56 (IntKind.wrap .u8 ((bShr .u64 (IntKind.wrap .u64 ((8 : Int) * (IntKind.wrap .u64 (a0.2 + (IntKind.wrap .u64 (((a1.take (if (63 : Int) < (a1.length : Int) then (63 : Int) else (a1.length : Int)).toNat).length : Int))))))) 0)))) 57 (IntKind.wrap .u8 ((bShr .u64 (IntKind.wrap .u64 ((8 : Int) * (IntKind.wrap .u64 (a0.2 + (IntKind.wrap .u64 (((a1.take (if (63 : Int) < (a1.length : Int) then (63 : Int) else (a1.length : Int)).toNat).length : Int))))))) 8)))) := patch_map byteT (l := (List.set x19 56 (IntKind.wrap .u8 ((bShr .u64 (IntKind.wrap .u64 ((8 : Int) * (IntKind.wrap .u64 (a0.2 + (IntKind.wrap .u64 (((a1.take (if (63 : Int) < (a1.length : Int) then (63 : Int) else (a1.length : Int)).toNat).length : Int))))))) 0))))) (i := 57) (v := (IntKind.wrap .u8 ((bShr .u64 (IntKind.wrap .u64 ((8 : Int) * (IntKind.wrap .u64 (a0.2 + (IntKind.wrap .u64 (((a1.take (if (63 : Int) < (a1.length : Int) then (63 : Int) else (a1.length : Int)).toNat).length : Int))))))) 8)))) (by first | assumption | omega | (simp only [List.length_set] at *; omega))
   try simp -implicitDefEqProofs (maxSteps := 4000000) (disch := first | omega | decide | (simp only [go_sem]; omega)) only [go_sem, ↓reduceIte, e23]
   repeat (with_reducible refine And.intro (by first | assumption | omega | (simp; done) | (simp; omega)) ?_)
   refine toEnd hC ?_
   refine endX_blk ?_
   refine endX_seq ?_
   refine runX_regionC fun C hC => ?_
   try simp -implicitDefEqProofs (maxSteps := 4000000) (disch := first | omega | decide | (simp only [go_sem]; omega)) only [go_sem, ↓reduceIte]
   repeat (with_reducible refine And.intro (by first | assumption | omega | (simp; done) | (simp; omega)) ?_)
   refine toEnd hC ?_
   refine endX_lp ?_
   refine runX_seq ?_
   refine runX_regionC fun C hC => ?_
   try simp -implicitDefEqProofs (maxSteps := 4000000) (disch := first | omega | decide | (simp only [go_sem]; omega)) only [go_sem, ↓reduceIte]
   repeat (with_reducible refine And.intro (by first | assumption | omega | (simp; done) | (simp; omega)) ?_)
   refine toEnd hC ?_
   refine endX_seq ?_
   refine runX_seq ?_
   refine runX_condT rfl rfl ?_
   refine runX_skip ?_
   refine endX_seq ?_
   refine runX_seq ?_
   refine runX_block ?_
   refine runX_seq ?_
   refine runX_regionC fun C hC => ?_
   try simp -implicitDefEqProofs (maxSteps := 4000000) (disch := first | omega | decide | (simp only [go_sem]; omega)) only [go_sem, ↓reduceIte]
   repeat (with_reducible refine And.intro (by first | assumption | omega | (simp; done) | (simp; omega)) ?_)
   refine toEnd hC ?_
   refine endX_seq ?_
   refine runX_regionC fun C hC => ?_
   obtain ⟨g24, h⟩ := grd_some h
   have e25 : patchT (List.map byteT (List.set (List.set x19 56 (IntKind.wrap .u8 ((bShr .u64 (IntKind.wrap .u64 ((8 : Int) * (IntKind.wrap .u64 (a0.2 + (IntKind.wrap .u64 (((a1.take (if (63 : Int) < (a1.length : Int) then (63 : Int) else (a1.length : Int)).toNat).length : Int))))))) 0)))) 57 (IntKind.wrap .u8 ((bShr .u64 (IntKind.wrap .u64 ((8 : Int) * (IntKind.wrap .u64 (a0.2 + (IntKind.wrap .u64 (((a1.take (if (63 : Int) < (a1.length : Int) then (63 : Int) else (a1.length : Int)).toNat).length : Int))))))) 8))))) 58 [.imm (.int .u8 (IntKind.wrap .u8 ((bShr .u64 (IntKind.wrap .u64 ((8 : Int) * (IntKind.wrap .u64 (a0.2 + (IntKind.wrap .u64 (((a1.take (if (63 : Int) < (a1.length : Int) then (63 : Int) else (a1.length : Int)).toNat).length : Int))))))) 16))))] = List.map byteT (List.set (List.set (List.set x19 56 (IntKind.wrap .u8 ((bShr .u64 (IntKind.wrap .u64 ((8 : Int) * (IntKind.wrap .u64 (a0.2 + (IntKind.wrap .u64 (((a1.take (if (63 : Int) < (a1.length : Int) then (63 : Int) else (a1.length : Int)).toNat).length : Int))))))) 0)))) 57 (IntKind.wrap .u8 ((bShr .u64 (IntKind.wrap .u64 ((8 : Int) * (IntKind.wrap .u64 (a0.2 + (IntKind.wrap .u64 (((a1.take (if (63 : Int) < (a1.length : Int) then (63 : Int) else (a1.length : Int)).toNat).length : Int))))))) 8)))) 58 (IntKind.wrap .u8 ((bShr .u64 (IntKind.wrap .u64 ((8 : Int) * (IntKind.wrap .u64 (a0.2 + (IntKind.wrap .u64 (((a1.take (if (63 : Int) < (a1.length : Int) then (63 : Int) else (a1.length : Int)).toNat).length : Int))))))) 16)))) := patch_map byteT (l := (List.set (List.set x19 56 (IntKind.wrap .u8 ((bShr .u64 (IntKind.wrap .u64 ((8 : Int) * (IntKind.wrap .u64 (a0.2 + (IntKind.wrap .u64 (((a1.take (if (63 : Int) < (a1.length : Int) then (63 : Int) else (a1.length : Int)).toNat).length : Int))))))) 0)))) 57 (IntKind.wrap .u8 ((bShr .u64 (IntKind.wrap .u64 ((8 : Int) * (IntKind.wrap .u64 (a0.2 + (IntKind.wrap .u64 (((a1.take (if (63 : Int) < (a1.length : Int) then (63 : Int) else (a1.length : Int)).toNat).length : Int))))))) 8))))) (i := 58) (v := (IntKind.wrap .u8 ((bShr .u64 (IntKind.wrap .u64 ((8 : Int) * (IntKind.wrap .u64 (a0.2 + (IntKind.wrap .u64 (((a1.take (if (63 : Int) < (a1.length : Int) then (63 : Int) else (a1.length : Int)).toNat).length : Int))))))) 16)))) (by first | assumption | omega | (simp only [List.length_set] at *; omega))
   try simp -implicitDefEqProofs (maxSteps := 4000000) (disch := first | omega | decide | (simp only [go_sem]; omega)) only [go_sem, ↓reduceIte, e25]
   repeat (with_reducible refine And.intro (by first | assumption | omega | (simp; done) | (simp; omega)) ?_)
   refine toEnd hC ?_
   refine endX_blk ?_
   refine endX_seq ?_
   refine runX_regionC fun C hC => ?_
   try simp -implicitDefEqProofs (maxSteps := 4000000) (disch := first | omega | decide | (simp only [go_sem]; omega)) only [go_sem, ↓reduceIte]
   repeat (with_reducible refine And.intro (by first | assumption | omega | (simp; done) | (simp; omega)) ?_)
   refine toEnd hC ?_
   refine endX_lp ?_
   refine runX_seq ?_
   refine runX_regionC fun C hC => ?_
   try simp -implicitDefEqProofs (maxSteps := 4000000) (disch := first | omega | decide | (simp only [go_sem]; omega)) only [go_sem, ↓reduceIte]
   repeat (with_reducible refine And.intro (by first | assumption | omega | (simp; done) | (simp; omega)) ?_)
   refine toEnd hC ?_
   refine endX_seq ?_
   refine runX_seq ?_
   refine runX_condT rfl rfl ?_
   refine runX_skip ?_
   refine endX_seq ?_
   refine runX_seq ?_
   refine runX_block ?_
   refine runX_seq ?_
   refine runX_regionC fun C hC => ?_
   try simp -implicitDefEqProofs (maxSteps := 4000000) (disch := first | omega | decide | (simp only [go_sem]; omega)) only [go_sem, ↓reduceIte]
   repeat (with_reducible refine And.intro (by first | assumption | omega | (simp; done) | (simp; omega)) ?_)
   refine toEnd hC ?_
   refine endX_seq ?_
   refine runX_regionC fun C hC => ?_
   obtain ⟨g26, h⟩ := grd_some h
   have e27 : patchT (List.map byteT (List.set (List.set (List.set x19 56 (IntKind.wrap .u8 ((bShr .u64 (IntKind.wrap .u64 ((8 : Int) * (IntKind.wrap .u64 (a0.2 + (IntKind.wrap .u64 (((a1.take (if (63 : Int) < (a1.length : Int) then (63 : Int) else (a1.length : Int)).toNat).length : Int))))))) 0)))) 57 (IntKind.wrap .u8 ((bShr .u64 (IntKind.wrap .u64 ((8 : Int) * (IntKind.wrap .u64 (a0.2 + (IntKind.wrap .u64 (((a1.take (if (63 : Int) < (a1.length : Int) then (63 : Int) else (a1.length : Int)).toNat).length : Int))))))) 8)))) 58 (IntKind.wrap .u8 ((bShr .u64 (IntKind.wrap .u64 ((8 : Int) * (IntKind.wrap .u64 (a0.2 + (IntKind.wrap .u64 (((a1.take (if (63 : Int) < (a1.length : Int) then (63 : Int) else (a1.length : Int)).toNat).length : Int))))))) 16))))) 59 [.imm (.int .u8 (IntKind.wrap .u8 ((bShr .u64 (IntKind.wrap .u64 ((8 : Int) * (IntKind.wrap .u64 (a0.2 + (IntKind.wrap .u64 (((a1.take (if (63 : Int) < (a1.length : Int) then (63 : Int) else (a1.length : Int)).toNat).length : Int))))))) 24))))] = List.map byteT (List.set (List.set (List.set (List.set x19 56 (IntKind.wrap .u8 ((bShr .u64 (IntKind.wrap .u64 ((8 : Int) * (IntKind.wrap .u64 (a0.2 + (IntKind.wrap .u64 (((a1.take (if (63 : Int) < (a1.length : Int) then (63 : Int) else (a1.length : Int)).toNat).length : Int))))))) 0)))) 57 (IntKind.wrap .u8 ((bShr .u64 (IntKind.wrap .u64 ((8 : Int) * (IntKind.wrap .u64 (a0.2 + (IntKind.wrap .u64 (((a1.take (if (63 : Int) < (a1.length : Int) then (63 : Int) else (a1.length : Int)).toNat).length : Int))))))) 8)))) 58 (IntKind.wrap .u8 ((bShr .u64 (IntKind.wrap .u64 ((8 : Int) * (IntKind.wrap .u64 (a0.2 + (IntKind.wrap .u64 (((a1.take (if (63 : Int) < (a1.length : Int) then (63 : Int) else (a1.length : Int)).toNat).length : Int))))))) 16)))) 59 (IntKind.wrap .u8 ((bShr .u64 (IntKind.wrap .u64 ((8 : Int) * (IntKind.wrap .u64 (a0.2 + (IntKind.wrap .u64 (((a1.take (if (63 : Int) < (a1.length : Int) then (63 : Int) else (a1.length : Int)).toNat).length : Int))))))) 24)))) := patch_map byteT (l := (List.set (List.set (List.set x19 56 (IntKind.wrap .u8 ((bShr .u64 (IntKind.wrap .u64 ((8 : Int) * (IntKind.wrap .u64 (a0.2 + (IntKind.wrap .u64 (((a1.take (if (63 : Int) < (a1.length : Int) then (63 : Int) else (a1.length : Int)).toNat).length : Int))))))) 0)))) 57 (IntKind.wrap .u8 ((bShr .u64 (IntKind.wrap .u64 ((8 : Int) * (IntKind.wrap .u64 (a0.2 + (IntKind.wrap .u64 (((a1.take (if (63 : Int) < (a1.length : Int) then (63 : Int) else (a1.length : Int)).toNat).length : Int))))))) 8)))) 58 (IntKind.wrap .u8 ((bShr .u64 (IntKind.wrap .u64 ((8 : Int) * (IntKind.wrap .u64 (a0.2 + (IntKind.wrap .u64 (((a1.take (if (63 : Int) < (a1.length : Int) then (63 : Int) else (a1.length : Int)).toNat).length : Int))))))) 16))))) (i := 59) (v := (IntKind.wrap .u8 ((bShr .u64 (IntKind.wrap .u64 ((8 : Int) * (IntKind.wrap .u64 (a0.2 + (IntKind.wrap .u64 (((a1.take (if (63 : Int) < (a1.length : Int) then (63 : Int) else (a1.length : Int)).toNat).length : Int))))))) 24)))) (by first | assumption | omega | (simp only [List.length_set] at *; omega))
   try simp -implicitDefEqProofs (maxSteps := 4000000) (disch := first | omega | decide | (simp only [go_sem]; omega)) only [go_sem, ↓reduceIte, e27]
   repeat (with_reducible refine And.intro (by first | assumption | omega | (simp; done) | (simp; omega)) ?_)
   refine toEnd hC ?_
   refine endX_blk ?_
   refine endX_seq ?_
   refine runX_regionC fun C hC => ?_
   try simp -implicitDefEqProofs (maxSteps := 4000000) (disch := first | omega | decide | (simp only [go_sem]; omega)) only [go_sem, ↓reduceIte]
   repeat (with_reducible refine And.intro (by first | assumption | omega | (simp; done) | (simp; omega)) ?_)
   refine toEnd hC ?_
   refine endX_lp ?_
   refine runX_seq ?_
   refine runX_regionC fun C hC => ?_
   try simp -implicitDefEqProofs (maxSteps := 4000000) (disch := first | omega | decide | (simp only [go_sem]; omega)) only [go_sem, ↓reduceIte]
   repeat (with_reducible refine And.intro (by first | assumption | omega | (simp; done) | (simp; omega)) ?_)
   refine toEnd hC ?_
   refine endX_seq ?_
   refine runX_seq ?_
   refine runX_condT rfl rfl ?_
   refine runX_skip ?_
   refine endX_seq ?_
   refine runX_seq ?_
   refine runX_block ?_
   refine runX_seq ?_
   refine runX_regionC fun C hC => ?_
   try simp -implicitDefEqProofs (maxSteps := 4000000) (disch := first | omega | decide | (simp only [go_sem]; omega)) only [go_sem, ↓reduceIte]
   repeat (with_reducible refine And.intro (by first | assumption | omega | (simp; done) | (simp; omega)) ?_)
   refine toEnd hC ?_
   refine endX_seq ?_
   refine runX_regionC fun C hC => ?_
   obtain ⟨g28, h⟩ := grd_some h
   have e29 : patchT (List.map byteT (List.set (List.set (List.set (List.set x19 56 (IntKind.wrap .u8 ((bShr .u64 (IntKind.wrap .u64 ((8 : Int) * (IntKind.wrap .u64 (a0.2 + (IntKind.wrap .u64 (((a1.take (if (63 : Int) < (a1.length : Int) then (63 : Int) else (a1.length : Int)).toNat).length : Int))))))) 0)))) 57 (IntKind.wrap .u8 ((bShr .u64 (IntKind.wrap .u64 ((8 : Int) * (IntKind.wrap .u64 (a0.2 + (IntKind.wrap .u64 (((a1.take (if (63 : Int) < (a1.length : Int) then (63 : Int) else (a1.length : Int)).toNat).length : Int))))))) 8)))) 58 (IntKind.wrap .u8 ((bShr .u64 (IntKind.wrap .u64 ((8 : Int) * (IntKind.wrap .u64 (a0.2 + (IntKind.wrap .u64 (((a1.take (if (63 : Int) < (a1.length : Int) then (63 : Int) else (a1.length : Int)).toNat).length : Int))))))) 16)))) 59 (IntKind.wrap .u8 ((bShr .u64 (IntKind.wrap .u64 ((8 : Int) * (IntKind.wrap .u64 (a0.2 + (IntKind.wrap .u64 (((a1.take (if (63 : Int) < (a1.length : Int) then (63 : Int) else (a1.length : Int)).toNat).length : Int))))))) 24))))) 60 [.imm (.int .u8 (IntKind.wrap .u8 ((bShr .u64 (IntKind.wrap .u64 ((8 : Int) * (IntKind.wrap .u64 (a0.2 + (IntKind.wrap .u64 (((a1.take (if (63 : Int) < (a1.length : Int) then (63 : Int) else (a1.length : Int)).toNat).length : Int))))))) 32))))] = List.map byteT (List.set (List.set (List.set (List.set (List.set x19 56 (IntKind.wrap .u8 ((bShr .u64 (IntKind.wrap .u64 ((8 : Int) * (IntKind.wrap .u64 (a0.2 + (IntKind.wrap .u64 (((a1.take (if (63 : Int) < (a1.length : Int) then (63 : Int) else (a1.length : Int)).toNat).length : Int))))))) 0)))) 57 (IntKind.wrap .u8 ((bShr .u64 (IntKind.wrap .u64 ((8 : Int) * (IntKind.wrap .u64 (a0.2 + (IntKind.wrap .u64 (((a1.take (if (63 : Int) < (a1.length : Int) then (63 : Int) else (a1.length : Int)).toNat).length : Int))))))) 8)))) 58 (IntKind.wrap .u8 ((bShr .u64 (IntKind.wrap .u64 ((8 : Int) * (IntKind.wrap .u64 (a0.2 + (IntKind.wrap .u64 (((a1.take (if (63 : Int) < (a1.length : Int) then (63 : Int) else (a1.length : Int)).toNat).length : Int))))))) 16)))) 59 (IntKind.wrap .u8 ((bShr .u64 (IntKind.wrap .u64 ((8 : Int) * (IntKind.wrap .u64 (a0.2 + (IntKind.wrap .u64 (((a1.take (if (63 : Int) < (a1.length : Int) then (63 : Int) else (a1.length : Int)).toNat).length : Int))))))) 24)))) 60 (IntKind.wrap .u8 ((bShr .u64 (IntKind.wrap .u64 ((8 : Int) * (IntKind.wrap .u64 (a0.2 + (IntKind.wrap .u64 (((a1.take (if (63 : Int) < (a1.length : Int) then (63 : Int) else (a1.length : Int)).toNat).length : Int))))))) 32)))) := patch_map byteT (l := (List.set (List.set (List.set (List.set x19 56 (IntKind.wrap .u8 ((bShr .u64 (IntKind.wrap .u64 ((8 : Int) * (IntKind.wrap .u64 (a0.2 + (IntKind.wrap .u64 (((a1.take (if (63 : Int) < (a1.length : Int) then (63 : Int) else (a1.length : Int)).toNat).length : Int))))))) 0)))) 57 (IntKind.wrap .u8 ((bShr .u64 (IntKind.wrap .u64 ((8 : Int) * (IntKind.wrap .u64 (a0.2 + (IntKind.wrap .u64 (((a1.take (if (63 : Int) < (a1.length : Int) then (63 : Int) else (a1.length : Int)).toNat).length : Int))))))) 8)))) 58 (IntKind.wrap .u8 ((bShr .u64 (IntKind.wrap .u64 ((8 : Int) * (IntKind.wrap .u64 (a0.2 + (IntKind.wrap .u64 (((a1.take (if (63 : Int) < (a1.length : Int) then (63 : Int) else (a1.length : Int)).toNat).length : Int))))))) 16)))) 59 (IntKind.wrap .u8 ((bShr .u64 (IntKind.wrap .u64 ((8 : Int) * (IntKind.wrap .u64 (a0.2 + (IntKind.wrap .u64 (((a1.take (if (63 : Int) < (a1.length : Int) then (63 : Int) else (a1.length : Int)).toNat).length : Int))))))) 24))))) (i := 60) (v := (IntKind.wrap .u8 ((bShr .u64 (IntKind.wrap .u64 ((8 : Int) * (IntKind.wrap .u64 (a0.2 + (IntKind.wrap .u64 (((a1.take (if (63 : Int) < (a1.length : Int) then (63 : Int) else (a1.length : Int)).toNat).length : Int))))))) 32)))) (by first | assumption | omega | (simp only [List.length_set] at *; omega))
   try simp -implicitDefEqProofs (maxSteps := 4000000) (disch := first | omega | decide | (simp only [go_sem]; omega)) only [go_sem, ↓reduceIte, e29]
   repeat (with_reducible refine And.intro (by first | assumption | omega | (simp; done) | (simp; omega)) ?_)
   refine toEnd hC ?_
   refine endX_blk ?_
   refine endX_seq ?_
   refine runX_regionC fun C hC => ?_
   try simp -implicitDefEqProofs (maxSteps := 4000000) (disch := first | omega | decide | (simp only [go_sem]; omega)) only [go_sem, ↓reduceIte]
   repeat (with_reducible refine And.intro (by first | assumption | omega | (simp; done) | (simp; omega)) ?_)
   refine toEnd hC ?_
   refine endX_lp ?_
   refine runX_seq ?_
   refine runX_regionC fun C hC => ?_
   try simp -implicitDefEqProofs (maxSteps := 4000000) (disch := first | omega | decide | (simp only [go_sem]; omega)) only [go_sem, ↓reduceIte]
   repeat (with_reducible refine And.intro (by first | assumption | omega | (simp; done) | (simp; omega)) ?_)
   refine toEnd hC ?_
   refine endX_seq ?_
   refine runX_seq ?_
   refine runX_condT rfl rfl ?_
   refine runX_skip ?_
   refine endX_seq ?_
   refine runX_seq ?_
   refine runX_block ?_
   refine runX_seq ?_
   refine runX_regionC fun C hC => ?_
   try simp -implicitDefEqProofs (maxSteps := 4000000) (disch := first | omega | decide | (simp only [go_sem]; omega)) only [go_sem, ↓reduceIte]
   repeat (with_reducible refine And.intro (by first | assumption | omega | (simp; done) | (simp; omega)) ?_)
   refine toEnd hC ?_
   refine endX_seq ?_
   refine runX_regionC fun C hC => ?_
   obtain ⟨g30, h⟩ := grd_some h
   have e31 : patchT (List.map byteT (List.set (List.set (List.set (List.set (List.set x19 56 (IntKind.wrap .u8 ((bShr .u64 (IntKind.wrap .u64 ((8 : Int) * (IntKind.wrap .u64 (a0.2 + (IntKind.wrap .u64 (((a1.take (if (63 : Int) < (a1.length : Int) then (63 : Int) else (a1.length : Int)).toNat).length : Int))))))) 0)))) 57 (IntKind.wrap .u8 ((bShr .u64 (IntKind.wrap .u64 ((8 : Int) * (IntKind.wrap .u64 (a0.2 + (IntKind.wrap .u64 (((a1.take (if (63 : Int) < (a1.length : Int) then (63 : Int) else (a1.length : Int)).toNat).length : Int))))))) 8)))) 58 (IntKind.wrap .u8 ((bShr .u64 (IntKind.wrap .u64 ((8 : Int) * (IntKind.wrap .u64 (a0.2 + (IntKind.wrap .u64 (((a1.take (if (63 : Int) < (a1.length : Int) then (63 : Int) else (a1.length : Int)).toNat).length : Int))))))) 16)))) 59 (IntKind.wrap .u8 ((bShr .u64 (IntKind.wrap .u64 ((8 : Int) * (IntKind.wrap .u64 (a0.2 + (IntKind.wrap .u64 (((a1.take (if (63 : Int) < (a1.length : Int) then (63 : Int) else (a1.length : Int)).toNat).length : Int))))))) 24)))) 60 (IntKind.wrap .u8 ((bShr .u64 (IntKind.wrap .u64 ((8 : Int) * (IntKind.wrap .u64 (a0.2 + (IntKind.wrap .u64 (((a1.take (if (63 : Int) < (a1.length : Int) then (63 : Int) else (a1.length : Int)).toNat).length : Int))))))) 32))))) 61 [.imm (.int .u8 (IntKind.wrap .u8 ((bShr .u64 (IntKind.wrap .u64 ((8 : Int) * (IntKind.wrap .u64 (a0.2 + (IntKind.wrap .u64 (((a1.take (if (63 : Int) < (a1.length : Int) then (63 : Int) else (a1.length : Int)).toNat).length : Int))))))) 40))))] = List.map byteT (List.set (List.set (List.set (List.set (List.set (List.set x19 56 (IntKind.wrap .u8 ((bShr .u64 (IntKind.wrap .u64 ((8 : Int) * (IntKind.wrap .u64 (a0.2 + (IntKind.wrap .u64 (((a1.take (if (63 : Int) < (a1.length : Int) then (63 : Int) else (a1.length : Int)).toNat).length : Int))))))) 0)))) 57 (IntKind.wrap .u8 ((bShr .u64 (IntKind.wrap .u64 ((8 : Int) * (IntKind.wrap .u64 (a0.2 + (IntKind.wrap .u64 (((a1.take (if (63 : Int) < (a1.length : Int) then (63 : Int) else (a1.length : Int)).toNat).length : Int))))))) 8)))) 58 (IntKind.wrap .u8 ((bShr .u64 (IntKind.wrap .u64 ((8 : Int) * (IntKind.wrap .u64 (a0.2 + (IntKind.wrap .u64 (((a1.take (if (63 : Int) < (a1.length : Int) then (63 : Int) else (a1.length : Int)).toNat).length : Int))))))) 16)))) 59 (IntKind.wrap .u8 ((bShr .u64 (IntKind.wrap .u64 ((8 : Int) * (IntKind.wrap .u64 (a0.2 + (IntKind.wrap .u64 (((a1.take (if (63 : Int) < (a1.length : Int) then (63 : Int) else (a1.length : Int)).toNat).length : Int))))))) 24)))) 60 (IntKind.wrap .u8 ((bShr .u64 (IntKind.wrap .u64 ((8 : Int) * (IntKind.wrap .u64 (a0.2 + (IntKind.wrap .u64 (((a1.take (if (63 : Int) < (a1.length : Int) then (63 : Int) else (a1.length : Int)).toNat).length : Int))))))) 32)))) 61 (IntKind.wrap .u8 ((bShr .u64 (IntKind.wrap .u64 ((8 : Int) * (IntKind.wrap .u64 (a0.2 + (IntKind.wrap .u64 (((a1.take (if (63 : Int) < (a1.length : Int) then (63 : Int) else (a1.length : Int)).toNat).length : Int))))))) 40)))) := patch_map byteT (l := (List.set (List.set (List.set (List.set (List.set x19 56 (IntKind.wrap .u8 ((bShr .u64 (IntKind.wrap .u64 ((8 : Int) * (IntKind.wrap .u64 (a0.2 + (IntKind.wrap .u64 (((a1.take (if (63 : Int) < (a1.length : Int) then (63 : Int) else (a1.length : Int)).toNat).length : Int))))))) 0)))) 57 (IntKind.wrap .u8 ((bShr .u64 (IntKind.wrap .u64 ((8 : Int) * (IntKind.wrap .u64 (a0.2 + (IntKind.wrap .u64 (((a1.take (if (63 : Int) < (a1.length : Int) then (63 : Int) else (a1.length : Int)).toNat).length : Int))))))) 8)))) 58 (IntKind.wrap .u8 ((bShr .u64 (IntKind.wrap .u64 ((8 : Int) * (IntKind.wrap .u64 (a0.2 + (IntKind.wrap .u64 (((a1.take (if (63 : Int) < (a1.length : Int) then (63 : Int) else (a1.length : Int)).toNat).length : Int))))))) 16)))) 59 (IntKind.wrap .u8 ((bShr .u64 (IntKind.wrap .u64 ((8 : Int) * (IntKind.wrap .u64 (a0.2 + (IntKind.wrap .u64 (((a1.take (if (63 : Int) < (a1.length : Int) then (63 : Int) else (a1.length : Int)).toNat).length : Int))))))) 24)))) 60 (IntKind.wrap .u8 ((bShr .u64 (IntKind.wrap .u64 ((8 : Int) * (IntKind.wrap .u64 (a0.2 + (IntKind.wrap .u64 (((a1.take (if (63 : Int) < (a1.length : Int) then (63 : Int) else (a1.length : Int)).toNat).length : Int))))))) 32))))) (i := 61) (v := (IntKind.wrap .u8 ((bShr .u64 (IntKind.wrap .u64 ((8 : Int) * (IntKind.wrap .u64 (a0.2 + (IntKind.wrap .u64 (((a1.take (if (63 : Int) < (a1.length : Int) then (63 : Int) else (a1.length : Int)).toNat).length : Int))))))) 40)))) (by first | assumption | omega | (simp only [List.length_set] at *; omega))
   try simp -implicitDefEqProofs (maxSteps := 4000000) (disch := first | omega | decide | (simp only [go_sem]; omega)) only [go_sem, ↓reduceIte, e31]
   repeat (with_reducible refine And.intro (by first | assumption | omega | (simp; done) | (simp; omega)) ?_)
   refine toEnd hC ?_
   refine endX_blk ?_
   refine endX_seq ?_
   refine runX_regionC fun C hC => ?_
   try simp -implicitDefEqProofs (maxSteps := 4000000) (disch := first | omega | decide | (simp only [go_sem]; omega)) only [go_sem, ↓reduceIte]
   repeat (with_reducible refine And.intro (by first | assumption | omega | (simp; done) | (simp; omega)) ?_)
   refine toEnd hC ?_
   refine endX_lp ?_
   refine runX_seq ?_
   refine runX_regionC fun C hC => ?_
   try simp -implicitDefEqProofs (maxSteps := 4000000) (disch := first | omega | decide | (simp only [go_sem]; omega)) only [go_sem, ↓reduceIte]
   repeat (with_reducible refine And.intro (by first | assumption | omega | (simp; done) | (simp; omega)) ?_)
   refine toEnd hC ?_
   refine endX_seq ?_
   refine runX_seq ?_
   refine runX_condT rfl rfl ?_
   refine runX_skip ?_
   refine endX_seq ?_
   refine runX_seq ?_
   refine runX_block ?_
   refine runX_seq ?_
   refine runX_regionC fun C hC => ?_
   try simp -implicitDefEqProofs (maxSteps := 4000000) (disch := first | omega | decide | (simp only [go_sem]; omega)) only [go_sem, ↓reduceIte]
   repeat (with_reducible refine And.intro (by first | assumption | omega | (simp; done) | (simp; omega)) ?_)
   refine toEnd hC ?_
   refine endX_seq ?_
   refine runX_regionC fun C hC => ?_
   obtain ⟨g32, h⟩ := grd_some h
   have e33 : patchT (List.map byteT (List.set (List.set (List.set (List.set (List.set (List.set x19 56 (IntKind.wrap .u8 ((bShr .u64 (IntKind.wrap .u64 ((8 : Int) * (IntKind.wrap .u64 (a0.2 + (IntKind.wrap .u64 (((a1.take (if (63 : Int) < (a1.length : Int) then (63 : Int) else (a1.length : Int)).toNat).length : Int))))))) 0)))) 57 (IntKind.wrap .u8 ((bShr .u64 (IntKind.wrap .u64 ((8 : Int) * (IntKind.wrap .u64 (a0.2 + (IntKind.wrap .u64 (((a1.take (if (63 : Int) < (a1.length : Int) then (63 : Int) else (a1.length : Int)).toNat).length : Int))))))) 8)))) 58 (IntKind.wrap .u8 ((bShr .u64 (IntKind.wrap .u64 ((8 : Int) * (IntKind.wrap .u64 (a0.2 + (IntKind.wrap .u64 (((a1.take (if (63 : Int) < (a1.length : Int) then (63 : Int) else (a1.length : Int)).toNat).length : Int))))))) 16)))) 59 (IntKind.wrap .u8 ((bShr .u64 (IntKind.wrap .u64 ((8 : Int) * (IntKind.wrap .u64 (a0.2 + (IntKind.wrap .u64 (((a1.take (if (63 : Int) < (a1.length : Int) then (63 : Int) else (a1.length : Int)).toNat).length : Int))))))) 24)))) 60 (IntKind.wrap .u8 ((bShr .u64 (IntKind.wrap .u64 ((8 : Int) * (IntKind.wrap .u64 (a0.2 + (IntKind.wrap .u64 (((a1.take (if (63 : Int) < (a1.length : Int) then (63 : Int) else (a1.length : Int)).toNat).length : Int))))))) 32)))) 61 (IntKind.wrap .u8 ((bShr .u64 (IntKind.wrap .u64 ((8 : Int) * (IntKind.wrap .u64 (a0.2 + (IntKind.wrap .u64 (((a1.take (if (63 : Int) < (a1.length : Int) then (63 : Int) else (a1.length : Int)).toNat).length : Int))))))) 40))))) 62 [.imm (.int .u8 (IntKind.wrap .u8 ((bShr .u64 (IntKind.wrap .u64 ((8 : Int) * (IntKind.wrap .u64 (a0.2 + (IntKind.wrap .u64 (((a1.take (if (63 : Int) < (a1.length : Int) then (63 : Int) else (a1.length : Int)).toNat).length : Int))))))) 48))))] = List.map byteT (List.set (List.set (List.set (List.set (List.set (List.set (List.set x19 56 (IntKind.wrap .u8 ((bShr .u64 (IntKind.wrap .u64 ((8 : Int) * (IntKind.wrap .u64 (a0.2 + (IntKind.wrap .u64 (((a1.take (if (63 : Int) < (a1.length : Int) then (63 : Int) else (a1.length : Int)).toNat).length : Int))))))) 0)))) 57 (IntKind.wrap .u8 ((bShr .u64 (IntKind.wrap .u64 ((8 : Int) * (IntKind.wrap .u64 (a0.2 + (IntKind.wrap .u64 (((a1.take (if (63 : Int) < (a1.length : Int) then (63 : Int) else (a1.length : Int)).toNat).length : Int))))))) 8)))) 58 (IntKind.wrap .u8 ((bShr .u64 (IntKind.wrap .u64 ((8 : Int) * (IntKind.wrap .u64 (a0.2 + (IntKind.wrap .u64 (((a1.take (if (63 : Int) < (a1.length : Int) then (63 : Int) else (a1.length : Int)).toNat).length : Int))))))) 16)))) 59 (IntKind.wrap .u8 ((bShr .u64 (IntKind.wrap .u64 ((8 : Int) * (IntKind.wrap .u64 (a0.2 + (IntKind.wrap .u64 (((a1.take (if (63 : Int) < (a1.length : Int) then (63 : Int) else (a1.length : Int)).toNat).length : Int))))))) 24)))) 60 (IntKind.wrap .u8 ((bShr .u64 (IntKind.wrap .u64 ((8 : Int) * (IntKind.wrap .u64 (a0.2 + (IntKind.wrap .u64 (((a1.take (if (63 : Int) < (a1.length : Int) then (63 : Int) else (a1.length : Int)).toNat).length : Int))))))) 32)))) 61 (IntKind.wrap .u8 ((bShr .u64 (IntKind.wrap .u64 ((8 : Int) * (IntKind.wrap .u64 (a0.2 + (IntKind.wrap .u64 (((a1.take (if (63 : Int) < (a1.length : Int) then (63 : Int) else (a1.length : Int)).toNat).length : Int))))))) 40)))) 62 (IntKind.wrap .u8 ((bShr .u64 (IntKind.wrap .u64 ((8 : Int) * (IntKind.wrap .u64 (a0.2 + (IntKind.wrap .u64 (((a1.take (if (63 : Int) < (a1.length : Int) then (63 : Int) else (a1.length : Int)).toNat).length : Int))))))) 48)))) := patch_map byteT (l := (List.set (List.set (List.set (List.set (List.set (List.set x19 56 (IntKind.wrap .u8 ((bShr .u64 (IntKind.wrap .u64 ((8 : Int) * (IntKind.wrap .u64 (a0.2 + (IntKind.wrap .u64 (((a1.take (if (63 : Int) < (a1.length : Int) then (63 : Int) else (a1.length : Int)).toNat).length : Int))))))) 0)))) 57 (IntKind.wrap .u8 ((bShr .u64 (IntKind.wrap .u64 ((8 : Int) * (IntKind.wrap .u64 (a0.2 + (IntKind.wrap .u64 (((a1.take (if (63 : Int) < (a1.length : Int) then (63 : Int) else (a1.length : Int)).toNat).length : Int))))))) 8)))) 58 (IntKind.wrap .u8 ((bShr .u64 (IntKind.wrap .u64 ((8 : Int) * (IntKind.wrap .u64 (a0.2 + (IntKind.wrap .u64 (((a1.take (if (63 : Int) < (a1.length : Int) then (63 : Int) else (a1.length : Int)).toNat).length : Int))))))) 16)))) 59 (IntKind.wrap .u8 ((bShr .u64 (IntKind.wrap .u64 ((8 : Int) * (IntKind.wrap .u64 (a0.2 + (IntKind.wrap .u64 (((a1.take (if (63 : Int) < (a1.length : Int) then (63 : Int) else (a1.length : Int)).toNat).length : Int))))))) 24)))) 60 (IntKind.wrap .u8 ((bShr .u64 (IntKind.wrap .u64 ((8 : Int) * (IntKind.wrap .u64 (a0.2 + (IntKind.wrap .u64 (((a1.take (if (63 : Int) < (a1.length : Int) then (63 : Int) else (a1.length : Int)).toNat).length : Int))))))) 32)))) 61 (IntKind.wrap .u8 ((bShr .u64 (IntKind.wrap .u64 ((8 : Int) * (IntKind.wrap .u64 (a0.2 + (IntKind.wrap .u64 (((a1.take (if (63 : Int) < (a1.length : Int) then (63 : Int) else (a1.length : Int)).toNat).length : Int))))))) 40))))) (i := 62) (v := (IntKind.wrap .u8 ((bShr .u64 (IntKind.wrap .u64 ((8 : Int) * (IntKind.wrap .u64 (a0.2 + (IntKind.wrap .u64 (((a1.take (if (63 : Int) < (a1.length : Int) then (63 : Int) else (a1.length : Int)).toNat).length : Int))))))) 48)))) (by first | assumption | omega | (simp only [List.length_set] at *; omega))
   try simp -implicitDefEqProofs (maxSteps := 4000000) (disch := first | omega | decide | (simp only [go_sem]; omega)) only [go_sem, ↓reduceIte, e33]
   repeat (with_reducible refine And.intro (by first | assumption | omega | (simp; done) | (simp; omega)) ?_)
   refine toEnd hC ?_
   refine endX_blk ?_
   refine endX_seq ?_
   refine runX_regionC fun C hC => ?_
   try simp -implicitDefEqProofs (maxSteps := 4000000) (disch := first | omega | decide | (simp only [go_sem]; omega)) only [go_sem, ↓reduceIte]
   repeat (with_reducible refine And.intro (by first | assumption | omega | (simp; done) | (simp; omega)) ?_)
   refine toEnd hC ?_
   refine endX_lp ?_
   refine runX_seq ?_
   refine runX_regionC fun C hC => ?_
   try simp -implicitDefEqProofs (maxSteps := 4000000) (disch := first | omega | decide | (simp only [go_sem]; omega)) only [go_sem, ↓reduceIte]
   repeat (with_reducible refine And.intro (by first | assumption | omega | (simp; done) | (simp; omega)) ?_)
   refine toEnd hC ?_
   refine endX_seq ?_
   refine runX_seq ?_
   refine runX_condT rfl rfl ?_
   refine runX_skip ?_
   refine endX_seq ?_
   refine runX_seq ?_
   refine runX_block ?_
   refine runX_seq ?_
   refine runX_regionC fun C hC => ?_
   try simp -implicitDefEqProofs (maxSteps := 4000000) (disch := first | omega | decide | (simp only [go_sem]; omega)) only [go_sem, ↓reduceIte]
   repeat (with_reducible refine And.intro (by first | assumption | omega | (simp; done) | (simp; omega)) ?_)
   refine toEnd hC ?_
   refine endX_seq ?_
   refine runX_regionC fun C hC => ?_
   obtain ⟨g34, h⟩ := grd_some h
   have e35 : patchT (List.map byteT (List.set (List.set (List.set (List.set (List.set (List.set (List.set x19 56 (IntKind.wrap .u8 ((bShr .u64 (IntKind.wrap .u64 ((8 : Int) * (IntKind.wrap .u64 (a0.2 + (IntKind.wrap .u64 (((a1.take (if (63 : Int) < (a1.length : Int) then (63 : Int) else (a1.length : Int)).toNat).length : Int))))))) 0)))) 57 (IntKind.wrap .u8 ((bShr .u64 (IntKind.wrap .u64 ((8 : Int) * (IntKind.wrap .u64 (a0.2 + (IntKind.wrap .u64 (((a1.take (if (63 : Int) < (a1.length : Int) then (63 : Int) else (a1.length : Int)).toNat).length : Int))))))) 8)))) 58 (IntKind.wrap .u8 ((bShr .u64 (IntKind.wrap .u64 ((8 : Int) * (IntKind.wrap .u64 (a0.2 + (IntKind.wrap .u64 (((a1.take (if (63 : Int) < (a1.length : Int) then (63 : Int) else (a1.length : Int)).toNat).length : Int))))))) 16)))) 59 (IntKind.wrap .u8 ((bShr .u64 (IntKind.wrap .u64 ((8 : Int) * (IntKind.wrap .u64 (a0.2 + (IntKind.wrap .u64 (((a1.take (if (63 : Int) < (a1.length : Int) then (63 : Int) else (a1.length : Int)).toNat).length : Int))))))) 24)))) 60 (IntKind.wrap .u8 ((bShr .u64 (IntKind.wrap .u64 ((8 : Int) * (IntKind.wrap .u64 (a0.2 + (IntKind.wrap .u64 (((a1.take (if (63 : Int) < (a1.length : Int) then (63 : Int) else (a1.length : Int)).toNat).length : Int))))))) 32)))) 61 (IntKind.wrap .u8 ((bShr .u64 (IntKind.wrap .u64 ((8 : Int) * (IntKind.wrap .u64 (a0.2 + (IntKind.wrap .u64 (((a1.take (if (63 : Int) < (a1.length : Int) then (63 : Int) else (a1.length : Int)).toNat).length : Int))))))) 40)))) 62 (IntKind.wrap .u8 ((bShr .u64 (IntKind.wrap .u64 ((8 : Int) * (IntKind.wrap .u64 (a0.2 + (IntKind.wrap .u64 (((a1.take (if (63 : Int) < (a1.length : Int) then (63 : Int) else (a1.length : Int)).toNat).length : Int))))))) 48))))) 63 [.imm (.int .u8 (IntKind.wrap .u8 ((bShr .u64 (IntKind.wrap .u64 ((8 : Int) * (IntKind.wrap .u64 (a0.2 + (IntKind.wrap .u64 (((a1.take (if (63 : Int) < (a1.length : Int) then (63 : Int) else (a1.length : Int)).toNat).length : Int))))))) 56))))] = List.map byteT (List.set (List.set (List.set (List.set (List.set (List.set (List.set (List.set x19 56 (IntKind.wrap .u8 ((bShr .u64 (IntKind.wrap .u64 ((8 : Int) * (IntKind.wrap .u64 (a0.2 + (IntKind.wrap .u64 (((a1.take (if (63 : Int) < (a1.length : Int) then (63 : Int) else (a1.length : Int)).toNat).length : Int))))))) 0)))) 57 (IntKind.wrap .u8 ((bShr .u64 (IntKind.wrap .u64 ((8 : Int) * (IntKind.wrap .u64 (a0.2 + (IntKind.wrap .u64 (((a1.take (if (63 : Int) < (a1.length : Int) then (63 : Int) else (a1.length : Int)).toNat).length : Int))))))) 8)))) 58 (IntKind.wrap .u8 ((bShr .u64 (IntKind.wrap .u64 ((8 : Int) * (IntKind.wrap .u64 (a0.2 + (IntKind.wrap .u64 (((a1.take (if (63 : Int) < (a1.length : Int) then (63 : Int) else (a1.length : Int)).toNat).length : Int))))))) 16)))) 59 (IntKind.wrap .u8 ((bShr .u64 (IntKind.wrap .u64 ((8 : Int) * (IntKind.wrap .u64 (a0.2 + (IntKind.wrap .u64 (((a1.take (if (63 : Int) < (a1.length : Int) then (63 : Int) else (a1.length : Int)).toNat).length : Int))))))) 24)))) 60 (IntKind.wrap .u8 ((bShr .u64 (IntKind.wrap .u64 ((8 : Int) * (IntKind.wrap .u64 (a0.2 + (IntKind.wrap .u64 (((a1.take (if (63 : Int) < (a1.length : Int) then (63 : Int) else (a1.length : Int)).toNat).length : Int))))))) 32)))) 61 (IntKind.wrap .u8 ((bShr .u64 (IntKind.wrap .u64 ((8 : Int) * (IntKind.wrap .u64 (a0.2 + (IntKind.wrap .u64 (((a1.take (if (63 : Int) < (a1.length : Int) then (63 : Int) else (a1.length : Int)).toNat).length : Int))))))) 40)))) 62 (IntKind.wrap .u8 ((bShr .u64 (IntKind.wrap .u64 ((8 : Int) * (IntKind.wrap .u64 (a0.2 + (IntKind.wrap .u64 (((a1.take (if (63 : Int) < (a1.length : Int) then (63 : Int) else (a1.length : Int)).toNat).length : Int))))))) 48)))) 63 (IntKind.wrap .u8 ((bShr .u64 (IntKind.wrap .u64 ((8 : Int) * (IntKind.wrap .u64 (a0.2 + (IntKind.wrap .u64 (((a1.take (if (63 : Int) < (a1.length : Int) then (63 : Int) else (a1.length : Int)).toNat).length : Int))))))) 56)))) := patch_map byteT (l := (List.set (List.set (List.set (List.set (List.set (List.set (List.set x19 56 (IntKind.wrap .u8 ((bShr .u64 (IntKind.wrap .u64 ((8 : Int) * (IntKind.wrap .u64 (a0.2 + (IntKind.wrap .u64 (((a1.take (if (63 : Int) < (a1.length : Int) then (63 : Int) else (a1.length : Int)).toNat).length : Int))))))) 0)))) 57 (IntKind.wrap .u8 ((bShr .u64 (IntKind.wrap .u64 ((8 : Int) * (IntKind.wrap .u64 (a0.2 + (IntKind.wrap .u64 (((a1.take (if (63 : Int) < (a1.length : Int) then (63 : Int) else (a1.length : Int)).toNat).length : Int))))))) 8)))) 58 (IntKind.wrap .u8 ((bShr .u64 (IntKind.wrap .u64 ((8 : Int) * (IntKind.wrap .u64 (a0.2 + (IntKind.wrap .u64 (((a1.take (if (63 : Int) < (a1.length : Int) then (63 : Int) else (a1.length : Int)).toNat).length : Int))))))) 16)))) 59 (IntKind.wrap .u8 ((bShr .u64 (IntKind.wrap .u64 ((8 : Int) * (IntKind.wrap .u64 (a0.2 + (IntKind.wrap .u64 (((a1.take (if (63 : Int) < (a1.length : Int) then (63 : Int) else (a1.length : Int)).toNat).length : Int))))))) 24)))) 60 (IntKind.wrap .u8 ((bShr .u64 (IntKind.wrap .u64 ((8 : Int) * (IntKind.wrap .u64 (a0.2 + (IntKind.wrap .u64 (((a1.take (if (63 : Int) < (a1.length : Int) then (63 : Int) else (a1.length : Int)).toNat).length : Int))))))) 32)))) 61 (IntKind.wrap .u8 ((bShr .u64 (IntKind.wrap .u64 ((8 : Int) * (IntKind.wrap .u64 (a0.2 + (IntKind.wrap .u64 (((a1.take (if (63 : Int) < (a1.length : Int) then (63 : Int) else (a1.length : Int)).toNat).length : Int))))))) 40)))) 62 (IntKind.wrap .u8 ((bShr .u64 (IntKind.wrap .u64 ((8 : Int) * (IntKind.wrap .u64 (a0.2 + (IntKind.wrap .u64 (((a1.take (if (63 : Int) < (a1.length : Int) then (63 : Int) else (a1.length : Int)).toNat).length : Int))))))) 48))))) (i := 63) (v := (IntKind.wrap .u8 ((bShr .u64 (IntKind.wrap .u64 ((8 : Int) * (IntKind.wrap .u64 (a0.2 + (IntKind.wrap .u64 (((a1.take (if (63 : Int) < (a1.length : Int) then (63 : Int) else (a1.length : Int)).toNat).length : Int))))))) 56)))) (by first | assumption | omega | (simp only [List.length_set] at *; omega))
   try simp -implicitDefEqProofs (maxSteps := 4000000) (disch := first | omega | decide | (simp only [go_sem]; omega)) only [go_sem, ↓reduceIte, e35]
   repeat (with_reducible refine And.intro (by first | assumption | omega | (simp; done) | (simp; omega)) ?_)
   refine toEnd hC ?_
   refine endX_blk ?_
   refine endX_seq ?_
   refine runX_regionC fun C hC => ?_
   try simp -implicitDefEqProofs (maxSteps := 4000000) (disch := first | omega | decide | (simp only [go_sem]; omega)) only [go_sem, ↓reduceIte]
   repeat (with_reducible refine And.intro (by first | assumption | omega | (simp; done) | (simp; omega)) ?_)
   refine toEnd hC ?_
   refine endX_lp ?_
   refine runX_seq ?_
   refine runX_regionC fun C hC => ?_
   try simp -implicitDefEqProofs (maxSteps := 4000000) (disch := first | omega | decide | (simp only [go_sem]; omega)) only [go_sem, ↓reduceIte]
   repeat (with_reducible refine And.intro (by first | assumption | omega | (simp; done) | (simp; omega)) ?_)
   refine toEnd hC ?_
   refine endX_seq ?_
   refine runX_seq ?_
   refine runX_condF rfl rfl ?_
   refine runX_exit ?_
   refine endX_seqE ?_
   refine endX_lpE ?_
   refine endX_blkE ?_
   refine endX_seq ?_
   refine runX_seq ?_
   refine runX_regionC fun C hC => ?_
   obtain ⟨g36, h⟩ := grd_some h
   obtain ⟨v37, h37, h⟩ := bnd_some h
   try simp -implicitDefEqProofs (maxSteps := 4000000) (disch := first | omega | decide | (simp only [go_sem]; omega)) only [go_sem, ↓reduceIte]
   repeat (with_reducible refine And.intro (by first | assumption | omega | (simp; done) | (simp; omega)) ?_)
   refine callG_X (by first | rfl | (simp only [go_sem]; done) | (simp only [closedL, closedT, Bool.and_true]; exact closedL_map _ (fun _ => by first | rfl | (simp only [go_sem]; done)) _)) (F82_ok n ([x14, x15, x16, x17], x18) ((List.set (List.set (List.set (List.set (List.set (List.set (List.set (List.set x19 56 (IntKind.wrap .u8 ((bShr .u64 (IntKind.wrap .u64 ((8 : Int) * (IntKind.wrap .u64 (a0.2 + (IntKind.wrap .u64 (((a1.take (if (63 : Int) < (a1.length : Int) then (63 : Int) else (a1.length : Int)).toNat).length : Int))))))) 0)))) 57 (IntKind.wrap .u8 ((bShr .u64 (IntKind.wrap .u64 ((8 : Int) * (IntKind.wrap .u64 (a0.2 + (IntKind.wrap .u64 (((a1.take (if (63 : Int) < (a1.length : Int) then (63 : Int) else (a1.length : Int)).toNat).length : Int))))))) 8)))) 58 (IntKind.wrap .u8 ((bShr .u64 (IntKind.wrap .u64 ((8 : Int) * (IntKind.wrap .u64 (a0.2 + (IntKind.wrap .u64 (((a1.take (if (63 : Int) < (a1.length : Int) then (63 : Int) else (a1.length : Int)).toNat).length : Int))))))) 16)))) 59 (IntKind.wrap .u8 ((bShr .u64 (IntKind.wrap .u64 ((8 : Int) * (IntKind.wrap .u64 (a0.2 + (IntKind.wrap .u64 (((a1.take (if (63 : Int) < (a1.length : Int) then (63 : Int) else (a1.length : Int)).toNat).length : Int))))))) 24)))) 60 (IntKind.wrap .u8 ((bShr .u64 (IntKind.wrap .u64 ((8 : Int) * (IntKind.wrap .u64 (a0.2 + (IntKind.wrap .u64 (((a1.take (if (63 : Int) < (a1.length : Int) then (63 : Int) else (a1.length : Int)).toNat).length : Int))))))) 32)))) 61 (IntKind.wrap .u8 ((bShr .u64 (IntKind.wrap .u64 ((8 : Int) * (IntKind.wrap .u64 (a0.2 + (IntKind.wrap .u64 (((a1.take (if (63 : Int) < (a1.length : Int) then (63 : Int) else (a1.length : Int)).toNat).length : Int))))))) 40)))) 62 (IntKind.wrap .u8 ((bShr .u64 (IntKind.wrap .u64 ((8 : Int) * (IntKind.wrap .u64 (a0.2 + (IntKind.wrap .u64 (((a1.take (if (63 : Int) < (a1.length : Int) then (63 : Int) else (a1.length : Int)).toNat).length : Int))))))) 48)))) 63 (IntKind.wrap .u8 ((bShr .u64 (IntKind.wrap .u64 ((8 : Int) * (IntKind.wrap .u64 (a0.2 + (IntKind.wrap .u64 (((a1.take (if (63 : Int) < (a1.length : Int) then (63 : Int) else (a1.length : Int)).toNat).length : Int))))))) 56)))).take 64) _ h37) (by repeat (first | exact leL_refl _ | refine leL_cons (by first | exact leT_refl _ | exact leT_virt | exact leT_junk _ | exact leT_sl | exact leT_sln | exact leT_nil | (refine leT_agg (by repeat (first | exact leL_refl _ | refine leL_cons (by first | exact leT_refl _ | exact leT_sl | exact leT_sln | exact leT_nil) ?_)))) ?_)) ?_
   try simp -implicitDefEqProofs (maxSteps := 4000000) (disch := first | omega | decide | (simp only [go_sem]; omega)) only [go_sem, ↓reduceIte]
   repeat (with_reducible refine And.intro (by first | assumption | omega | (simp; done) | (simp; omega)) ?_)
   refine toEnd hC ?_
   refine endX_seq ?_
   refine runX_seq ?_
   refine runX_regionC fun C hC => ?_
   try simp -implicitDefEqProofs (maxSteps := 4000000) (disch := first | omega | decide | (simp only [go_sem]; omega)) only [go_sem, ↓reduceIte]
   repeat (with_reducible refine And.intro (by first | assumption | omega | (simp; done) | (simp; omega)) ?_)
   refine toEnd hC ?_
   refine endX_seq ?_
   refine runX_seq ?_
   refine runX_seq ?_
   refine runX_regionC fun C hC => ?_
   try simp -implicitDefEqProofs (maxSteps := 4000000) (disch := first | omega | decide | (simp only [go_sem]; omega)) only [go_sem, ↓reduceIte]
   repeat (with_reducible refine And.intro (by first | assumption | omega | (simp; done) | (simp; omega)) ?_)
   refine toEnd hC ?_
   refine endX_seq ?_
   refine runX_block ?_
   refine runX_unroll 16 ?_
   refine runX_seq ?_
   refine runX_regionC fun C hC => ?_
   try simp -implicitDefEqProofs (maxSteps := 4000000) (disch := first | omega | decide | (simp only [go_sem]; omega)) only [go_sem, ↓reduceIte]
   repeat (with_reducible refine And.intro (by first | assumption | omega | (simp; done) | (simp; omega)) ?_)
   refine toEnd hC ?_
   refine endX_seq ?_
   refine runX_seq ?_
   refine runX_condT rfl rfl ?_
   refine runX_skip ?_
   refine endX_seq ?_
   refine runX_seq ?_
   refine runX_block ?_
   refine runX_seq ?_
   refine runX_regionC fun C hC => ?_
   try simp -implicitDefEqProofs (maxSteps := 4000000) (disch := first | omega | decide | (simp only [go_sem]; omega)) only [go_sem, ↓reduceIte]
   repeat (with_reducible refine And.intro (by first | assumption | omega | (simp; done) | (simp; omega)) ?_)
   refine toEnd hC ?_
   refine endX_seq ?_
   refine runX_regionC fun C hC => ?_
   try simp -implicitDefEqProofs (maxSteps := 4000000) (disch := first | omega | decide | (simp only [go_sem]; omega)) only [go_sem, ↓reduceIte]
   repeat (with_reducible refine And.intro (by first | assumption | omega | (simp; done) | (simp; omega)) ?_)
   refine toEnd hC ?_
   refine endX_blk ?_
   refine endX_seq ?_
   refine runX_regionC fun C hC => ?_
   try simp -implicitDefEqProofs (maxSteps := 4000000) (disch := first | omega | decide | (simp only [go_sem]; omega)) only [go_sem, ↓reduceIte]
   repeat (with_reducible refine And.intro (by first | assumption | omega | (simp; done) | (simp; omega)) ?_)
   refine toEnd hC ?_
   refine endX_lp ?_
   refine runX_seq ?_
   refine runX_regionC fun C hC => ?_
   try simp -implicitDefEqProofs (maxSteps := 4000000) (disch := first | omega | decide | (simp only [go_sem]; omega)) only [go_sem, ↓reduceIte]
   repeat (with_reducible refine And.intro (by first | assumption | omega | (simp; done) | (simp; omega)) ?_)
   refine toEnd hC ?_
   refine endX_seq ?_
   refine runX_seq ?_
   refine runX_condT rfl rfl ?_
   refine runX_skip ?_
   refine endX_seq ?_
   refine runX_seq ?_
   refine runX_block ?_
   refine runX_seq ?_
   refine runX_regionC fun C hC => ?_
   try simp -implicitDefEqProofs (maxSteps := 4000000) (disch := first | omega | decide | (simp only [go_sem]; omega)) only [go_sem, ↓reduceIte]
   repeat (with_reducible refine And.intro (by first | assumption | omega | (simp; done) | (simp; omega)) ?_)
   refine toEnd hC ?_
   refine endX_seq ?_
   refine runX_regionC fun C hC => ?_
   try simp -implicitDefEqProofs (maxSteps := 4000000) (disch := first | omega | decide | (simp only [go_sem]; omega)) only [go_sem, ↓reduceIte]
   repeat (with_reducible refine And.intro (by first | assumption | omega | (simp; done) | (simp; omega)) ?_)
   refine toEnd hC ?_
   refine endX_blk ?_
   refine endX_seq ?_
   refine runX_regionC fun C hC => ?_
   try simp -implicitDefEqProofs (maxSteps := 4000000) (disch := first | omega | decide | (simp only [go_sem]; omega)) only [go_sem, ↓reduceIte]
   repeat (with_reducible refine And.intro (by first | assumption | omega | (simp; done) | (simp; omega)) ?_)
   refine toEnd hC ?_
   refine endX_lp ?_
   refine runX_seq ?_
   refine runX_regionC fun C hC => ?_
   try simp -implicitDefEqProofs (maxSteps := 4000000) (disch := first | omega | decide | (simp only [go_sem]; omega)) only [go_sem, ↓reduceIte]
   repeat (with_reducible refine And.intro (by first | assumption | omega | (simp; done) | (simp; omega)) ?_)
   refine toEnd hC ?_
   refine endX_seq ?_
   refine runX_seq ?_
   refine runX_condT rfl rfl ?_
   refine runX_skip ?_
   refine endX_seq ?_
   refine runX_seq ?_
   refine runX_block ?_
   refine runX_seq ?_
   refine runX_regionC fun C hC => ?_
   try simp -implicitDefEqProofs (maxSteps := 4000000) (disch := first | omega | decide | (simp only [go_sem]; omega)) only [go_sem, ↓reduceIte]
   repeat (with_reducible refine And.intro (by first | assumption | omega | (simp; done) | (simp; omega)) ?_)
   refine toEnd hC ?_
   refine endX_seq ?_
   refine runX_regionC fun C hC => ?_
   try simp -implicitDefEqProofs (maxSteps := 4000000) (disch := first | omega | decide | (simp only [go_sem]; omega)) only [go_sem, ↓reduceIte]
   repeat (with_reducible refine And.intro (by first | assumption | omega | (simp; done) | (simp; omega)) ?_)
   refine toEnd hC ?_
   refine endX_blk ?_
   refine endX_seq ?_
   refine runX_regionC fun C hC => ?_
   try simp -implicitDefEqProofs (maxSteps := 4000000) (disch := first | omega | decide | (simp only [go_sem]; omega)) only [go_sem, ↓reduceIte]
   repeat (with_reducible refine And.intro (by first | assumption | omega | (simp; done) | (simp; omega)) ?_)
   refine toEnd hC ?_
   refine endX_lp ?_
   refine runX_seq ?_
   refine runX_regionC fun C hC => ?_
   try simp -implicitDefEqProofs (maxSteps := 4000000) (disch := first | omega | decide | (simp only [go_sem]; omega)) only [go_sem, ↓reduceIte]
   repeat (with_reducible refine And.intro (by first | assumption | omega | (simp; done) | (simp; omega)) ?_)
   refine toEnd hC ?_
   refine endX_seq ?_
   refine runX_seq ?_
   refine runX_condT rfl rfl ?_
   refine runX_skip ?_
   refine endX_seq ?_
   refine runX_seq ?_
   refine runX_block ?_
   refine runX_seq ?_
   refine runX_regionC fun C hC => ?_
   try simp -implicitDefEqProofs (maxSteps := 4000000) (disch := first | omega | decide | (simp only [go_sem]; omega)) only [go_sem, ↓reduceIte]
   repeat (with_reducible refine And.intro (by first | assumption | omega | (simp; done) | (simp; omega)) ?_)
   refine toEnd hC ?_
   refine endX_seq ?_
   refine runX_regionC fun C hC => ?_
   try simp -implicitDefEqProofs (maxSteps := 4000000) (disch := first | omega | decide | (simp only [go_sem]; omega)) only [go_sem, ↓reduceIte]
   repeat (with_reducible refine And.intro (by first | assumption | omega | (simp; done) | (simp; omega)) ?_)
   refine toEnd hC ?_
   refine endX_blk ?_
   refine endX_seq ?_
   refine runX_regionC fun C hC => ?_
   try simp -implicitDefEqProofs (maxSteps := 4000000) (disch := first | omega | decide | (simp only [go_sem]; omega)) only [go_sem, ↓reduceIte]
   repeat (with_reducible refine And.intro (by first | assumption | omega | (simp; done) | (simp; omega)) ?_)
   refine toEnd hC ?_
   refine endX_lp ?_
   refine runX_seq ?_
   refine runX_regionC fun C hC => ?_
   try simp -implicitDefEqProofs (maxSteps := 4000000) (disch := first | omega | decide | (simp only [go_sem]; omega)) only [go_sem, ↓reduceIte]
   repeat (with_reducible refine And.intro (by first | assumption | omega | (simp; done) | (simp; omega)) ?_)
   refine toEnd hC ?_
   refine endX_seq ?_
   refine runX_seq ?_
   refine runX_condT rfl rfl ?_
   refine runX_skip ?_
   refine endX_seq ?_
   refine runX_seq ?_
   refine runX_block ?_
   refine runX_seq ?_
   refine runX_regionC fun C hC => ?_
   try simp -implicitDefEqProofs (maxSteps := 4000000) (disch := first | omega | decide | (simp only [go_sem]; omega)) only [go_sem, ↓reduceIte]
   repeat (with_reducible refine And.intro (by first | assumption | omega | (simp; done) | (simp; omega)) ?_)
   refine toEnd hC ?_
   refine endX_seq ?_
   refine runX_regionC fun C hC => ?_
   try simp -implicitDefEqProofs (maxSteps := 4000000) (disch := first | omega | decide | (simp only [go_sem]; omega)) only [go_sem, ↓reduceIte]
   repeat (with_reducible refine And.intro (by first | assumption | omega | (simp; done) | (simp; omega)) ?_)
   refine toEnd hC ?_
   refine endX_blk ?_
   refine endX_seq ?_
   refine runX_regionC fun C hC => ?_
   try simp -implicitDefEqProofs (maxSteps := 4000000) (disch := first | omega | decide | (simp only [go_sem]; omega)) only [go_sem, ↓reduceIte]
   repeat (with_reducible refine And.intro (by first | assumption | omega | (simp; done) | (simp; omega)) ?_)
   refine toEnd hC ?_
   refine endX_lp ?_
   refine runX_seq ?_
   refine runX_regionC fun C hC => ?_
   try simp -implicitDefEqProofs (maxSteps := 4000000) (disch := first | omega | decide | (simp only [go_sem]; omega)) only [go_sem, ↓reduceIte]
   repeat (with_reducible refine And.intro (by first | assumption | omega | (simp; done) | (simp; omega)) ?_)
   refine toEnd hC ?_
   refine endX_seq ?_
   refine runX_seq ?_
   refine runX_condT rfl rfl ?_
   refine runX_skip ?_
   refine endX_seq ?_
   refine runX_seq ?_
   refine runX_block ?_
   refine runX_seq ?_
   refine runX_regionC fun C hC => ?_
   try simp -implicitDefEqProofs (maxSteps := 4000000) (disch := first | omega | decide | (simp only [go_sem]; omega)) only [go_sem, ↓reduceIte]
   repeat (with_reducible refine And.intro (by first | assumption | omega | (simp; done) | (simp; omega)) ?_)
   refine toEnd hC ?_
   refine endX_seq ?_
   refine runX_regionC fun C hC => ?_
   try simp -implicitDefEqProofs (maxSteps := 4000000) (disch := first | omega | decide | (simp only [go_sem]; omega)) only [go_sem, ↓reduceIte]
   repeat (with_reducible refine And.intro (by first | assumption | omega | (simp; done) | (simp; omega)) ?_)
   refine toEnd hC ?_
   refine endX_blk ?_
   refine endX_seq ?_
   refine runX_regionC fun C hC => ?_
   try simp -implicitDefEqProofs (maxSteps := 4000000) (disch := first | omega | decide | (simp only [go_sem]; omega)) only [go_sem, ↓reduceIte]
   repeat (with_reducible refine And.intro (by first | assumption | omega | (simp; done) | (simp; omega)) ?_)
   refine toEnd hC ?_
   refine endX_lp ?_
   refine runX_seq ?_
   refine runX_regionC fun C hC => ?_
   try simp -implicitDefEqProofs (maxSteps := 4000000) (disch := first | omega | decide | (simp only [go_sem]; omega)) only [go_sem, ↓reduceIte]
   repeat (with_reducible refine And.intro (by first | assumption | omega | (simp; done) | (simp; omega)) ?_)
   refine toEnd hC ?_
   refine endX_seq ?_
   refine runX_seq ?_
   refine runX_condT rfl rfl ?_
   refine runX_skip ?_
   refine endX_seq ?_
   refine runX_seq ?_
   refine runX_block ?_
   refine runX_seq ?_
   refine runX_regionC fun C hC => ?_
   try simp -implicitDefEqProofs (maxSteps := 4000000) (disch := first | omega | decide | (simp only [go_sem]; omega)) only [go_sem, ↓reduceIte]
   repeat (with_reducible refine And.intro (by first | assumption | omega | (simp; done) | (simp; omega)) ?_)
   refine toEnd hC ?_
   refine endX_seq ?_
   refine runX_regionC fun C hC => ?_
   try simp -implicitDefEqProofs (maxSteps := 4000000) (disch := first | omega | decide | (simp only [go_sem]; omega)) only [go_sem, ↓reduceIte]
   repeat (with_reducible refine And.intro (by first | assumption | omega | (simp; done) | (simp; omega)) ?_)
   refine toEnd hC ?_
   refine endX_blk ?_
   refine endX_seq ?_
   refine runX_regionC fun C hC => ?_
   try simp -implicitDefEqProofs (maxSteps := 4000000) (disch := first | omega | decide | (simp only [go_sem]; omega)) only [go_sem, ↓reduceIte]
   repeat (with_reducible refine And.intro (by first | assumption | omega | (simp; done) | (simp; omega)) ?_)
   refine toEnd hC ?_
   refine endX_lp ?_
   refine runX_seq ?_
   refine runX_regionC fun C hC => ?_
   try simp -implicitDefEqProofs (maxSteps := 4000000) (disch := first | omega | decide | (simp only [go_sem]; omega)) only [go_sem, ↓reduceIte]
   repeat (with_reducible refine And.intro (by first | assumption | omega | (simp; done) | (simp; omega)) ?_)
   refine toEnd hC ?_
   refine endX_seq ?_
   refine runX_seq ?_
   refine runX_condT rfl rfl ?_
   refine runX_skip ?_
   refine endX_seq ?_
   refine runX_seq ?_
   refine runX_block ?_
   refine runX_seq ?_
   refine runX_regionC fun C hC => ?_
   try simp -implicitDefEqProofs (maxSteps := 4000000) (disch := first | omega | decide | (simp only [go_sem]; omega)) only [go_sem, ↓reduceIte]
   repeat (with_reducible refine And.intro (by first | assumption | omega | (simp; done) | (simp; omega)) ?_)
   refine toEnd hC ?_
   refine endX_seq ?_
   refine runX_regionC fun C hC => ?_
   try simp -implicitDefEqProofs (maxSteps := 4000000) (disch := first | omega | decide | (simp only [go_sem]; omega)) only [go_sem, ↓reduceIte]
   repeat (with_reducible refine And.intro (by first | assumption | omega | (simp; done) | (simp; omega)) ?_)
   refine toEnd hC ?_
   refine endX_blk ?_
   refine endX_seq ?_
   refine runX_regionC fun C hC => ?_
   try simp -implicitDefEqProofs (maxSteps := 4000000) (disch := first | omega | decide | (simp only [go_sem]; omega)) only [go_sem, ↓reduceIte]
   repeat (with_reducible refine And.intro (by first | assumption | omega | (simp; done) | (simp; omega)) ?_)
   refine toEnd hC ?_
   refine endX_lp ?_
   refine runX_seq ?_
   refine runX_regionC fun C hC => ?_
   try simp -implicitDefEqProofs (maxSteps := 4000000) (disch := first | omega | decide | (simp only [go_sem]; omega)) only [go_sem, ↓reduceIte]
   repeat (with_reducible refine And.intro (by first | assumption | omega | (simp; done) | (simp; omega)) ?_)
   refine toEnd hC ?_
   refine endX_seq ?_
   refine runX_seq ?_
   refine runX_condT rfl rfl ?_
   refine runX_skip ?_
   refine endX_seq ?_
   refine runX_seq ?_
   refine runX_block ?_
   refine runX_seq ?_
   refine runX_regionC fun C hC => ?_
   try simp -implicitDefEqProofs (maxSteps := 4000000) (disch := first | omega | decide | (simp only [go_sem]; omega)) only [go_sem, ↓reduceIte]
   repeat (with_reducible refine And.intro (by first | assumption | omega | (simp; done) | (simp; omega)) ?_)
   refine toEnd hC ?_
   refine endX_seq ?_
   refine runX_regionC fun C hC => ?_
   try simp -implicitDefEqProofs (maxSteps := 4000000) (disch := first | omega | decide | (simp only [go_sem]; omega)) only [go_sem, ↓reduceIte]
   repeat (with_reducible refine And.intro (by first | assumption | omega | (simp; done) | (simp; omega)) ?_)
   refine toEnd hC ?_
   refine endX_blk ?_
   refine endX_seq ?_
   refine runX_regionC fun C hC => ?_
   try simp -implicitDefEqProofs (maxSteps := 4000000) (disch := first | omega | decide | (simp only [go_sem]; omega)) only [go_sem, ↓reduceIte]
   repeat (with_reducible refine And.intro (by first | assumption | omega | (simp; done) | (simp; omega)) ?_)
   refine toEnd hC ?_
   refine endX_lp ?_
   refine runX_seq ?_
   refine runX_regionC fun C hC => ?_
   try simp -implicitDefEqProofs (maxSteps := 4000000) (disch := first | omega | decide | (simp only [go_sem]; omega)) only [go_sem, ↓reduceIte]
   repeat (with_reducible refine And.intro (by first | assumption | omega | (simp; done) | (simp; omega)) ?_)
   refine toEnd hC ?_
   refine endX_seq ?_
   refine runX_seq ?_
   refine runX_condT rfl rfl ?_
   refine runX_skip ?_
   refine endX_seq ?_
   refine runX_seq ?_
   refine runX_block ?_
   refine runX_seq ?_
   refine runX_regionC fun C hC => ?_
   try simp -implicitDefEqProofs (maxSteps := 4000000) (disch := first | omega | decide | (simp only [go_sem]; omega)) only [go_sem, ↓reduceIte]
   repeat (with_reducible refine And.intro (by first | assumption | omega | (simp; done) | (simp; omega)) ?_)
   refine toEnd hC ?_
   refine endX_seq ?_
   refine runX_regionC fun C hC => ?_
   try simp -implicitDefEqProofs (maxSteps := 4000000) (disch := first | omega | decide | (simp only [go_sem]; omega)) only [go_sem, ↓reduceIte]
   repeat (with_reducible refine And.intro (by first | assumption | omega | (simp; done) | (simp; omega)) ?_)
   refine toEnd hC ?_
   refine endX_blk ?_
   refine endX_seq ?_
   refine runX_regionC fun C hC => ?_
   try simp -implicitDefEqProofs (maxSteps := 4000000) (disch := first | omega | decide | (simp only [go_sem]; omega)) only [go_sem, ↓reduceIte]
   repeat (with_reducible refine And.intro (by first | assumption | omega | (simp; done) | (simp; omega)) ?_)
   refine toEnd hC ?_
   refine endX_lp ?_
   refine runX_seq ?_
   refine runX_regionC fun C hC => ?_
   try simp -implicitDefEqProofs (maxSteps := 4000000) (disch := first | omega | decide | (simp only [go_sem]; omega)) only [go_sem, ↓reduceIte]
   repeat (with_reducible refine And.intro (by first | assumption | omega | (simp; done) | (simp; omega)) ?_)
   refine toEnd hC ?_
   refine endX_seq ?_
   refine runX_seq ?_
   refine runX_condT rfl rfl ?_
   refine runX_skip ?_
   refine endX_seq ?_
   refine runX_seq ?_
   refine runX_block ?_
   refine runX_seq ?_
   refine runX_regionC fun C hC => ?_
   try simp -implicitDefEqProofs (maxSteps := 4000000) (disch := first | omega | decide | (simp only [go_sem]; omega)) only [go_sem, ↓reduceIte]
   repeat (with_reducible refine And.intro (by first | assumption | omega | (simp; done) | (simp; omega)) ?_)
   refine toEnd hC ?_
   refine endX_seq ?_
   refine runX_regionC fun C hC => ?_
   try simp -implicitDefEqProofs (maxSteps := 4000000) (disch := first | omega | decide | (simp only [go_sem]; omega)) only [go_sem, ↓reduceIte]
   repeat (with_reducible refine And.intro (by first | assumption | omega | (simp; done) | (simp; omega)) ?_)
   refine toEnd hC ?_
   refine endX_blk ?_
   refine endX_seq ?_
   refine runX_regionC fun C hC => ?_
   try simp -implicitDefEqProofs (maxSteps := 4000000) (disch := first | omega | decide | (simp only [go_sem]; omega)) only [go_sem, ↓reduceIte]
   repeat (with_reducible refine And.intro (by first | assumption | omega | (simp; done) | (simp; omega)) ?_)
   refine toEnd hC ?_
   refine endX_lp ?_
   refine runX_seq ?_
   refine runX_regionC fun C hC => ?_
   try simp -implicitDefEqProofs (maxSteps := 4000000) (disch := first | omega | decide | (simp only [go_sem]; omega)) only [go_sem, ↓reduceIte]
   repeat (with_reducible refine And.intro (by first | assumption | omega | (simp; done) | (simp; omega)) ?_)
   refine toEnd hC ?_
   refine endX_seq ?_
   refine runX_seq ?_
   refine runX_condT rfl rfl ?_
   refine runX_skip ?_
   refine endX_seq ?_
   refine runX_seq ?_
   refine runX_block ?_
   refine runX_seq ?_
   refine runX_regionC fun C hC => ?_
   try simp -implicitDefEqProofs (maxSteps := 4000000) (disch := first | omega | decide | (simp only [go_sem]; omega)) only [go_sem, ↓reduceIte]
   repeat (with_reducible refine And.intro (by first | assumption | omega | (simp; done) | (simp; omega)) ?_)
   refine toEnd hC ?_
   refine endX_seq ?_
   refine runX_regionC fun C hC => ?_
   try simp -implicitDefEqProofs (maxSteps := 4000000) (disch := first | omega | decide | (simp only [go_sem]; omega)) only [go_sem, ↓reduceIte]
   repeat (with_reducible refine And.intro (by first | assumption | omega | (simp; done) | (simp; omega)) ?_)
   refine toEnd hC ?_
   refine endX_blk ?_
   refine endX_seq ?_
   refine runX_regionC fun C hC => ?_
   try simp -implicitDefEqProofs (maxSteps := 4000000) (disch := first | omega | decide | (simp only [go_sem]; omega)) only [go_sem, ↓reduceIte]
   repeat (with_reducible refine And.intro (by first | assumption | omega | (simp; done) | (simp; omega)) ?_)
   refine toEnd hC ?_
   refine endX_lp ?_
   refine runX_seq ?_
   refine runX_regionC fun C hC => ?_
   try simp -implicitDefEqProofs (maxSteps := 4000000) (disch := first | omega | decide | (simp only [go_sem]; omega)) only [go_sem, ↓reduceIte]
   repeat (with_reducible refine And.intro (by first | assumption | omega | (simp; done) | (simp; omega)) ?_)
   refine toEnd hC ?_
   refine endX_seq ?_
   refine runX_seq ?_
   refine runX_condT rfl rfl ?_
   refine runX_skip ?_
   refine endX_seq ?_
   refine runX_seq ?_
   refine runX_block ?_
   refine runX_seq ?_
   refine runX_regionC fun C hC => ?_
   try simp -implicitDefEqProofs (maxSteps := 4000000) (disch := first | omega | decide | (simp only [go_sem]; omega)) only [go_sem, ↓reduceIte]
   repeat (with_reducible refine And.intro (by first | assumption | omega | (simp; done) | (simp; omega)) ?_)
   refine toEnd hC ?_
   refine endX_seq ?_
   refine runX_regionC fun C hC => ?_
   try simp -implicitDefEqProofs (maxSteps := 4000000) (disch := first | omega | decide | (simp only [go_sem]; omega)) only [go_sem, ↓reduceIte]
   repeat (with_reducible refine And.intro (by first | assumption | omega | (simp; done) | (simp; omega)) ?_)
   refine toEnd hC ?_
   refine endX_blk ?_
   refine endX_seq ?_
   refine runX_regionC fun C hC => ?_
   try simp -implicitDefEqProofs (maxSteps := 4000000) (disch := first | omega | decide | (simp only [go_sem]; omega)) only [go_sem, ↓reduceIte]
   repeat (with_reducible refine And.intro (by first | assumption | omega | (simp; done) | (simp; omega)) ?_)
   refine toEnd hC ?_
   refine endX_lp ?_
   refine runX_seq ?_
   refine runX_regionC fun C hC => ?_
   try simp -implicitDefEqProofs (maxSteps := 4000000) (disch := first | omega | decide | (simp only [go_sem]; omega)) only [go_sem, ↓reduceIte]
   repeat (with_reducible refine And.intro (by first | assumption | omega | (simp; done) | (simp; omega)) ?_)
   refine toEnd hC ?_
   refine endX_seq ?_
   refine runX_seq ?_
   refine runX_condT rfl rfl ?_
   refine runX_skip ?_
   refine endX_seq ?_
   refine runX_seq ?_
   refine runX_block ?_
   refine runX_seq ?_
   refine runX_regionC fun C hC => ?_
   try simp -implicitDefEqProofs (maxSteps := 4000000) (disch := first | omega | decide | (simp only [go_sem]; omega)) only [go_sem, ↓reduceIte]
   repeat (with_reducible refine And.intro (by first | assumption | omega | (simp; done) | (simp; omega)) ?_)
   refine toEnd hC ?_
   refine endX_seq ?_
   refine runX_regionC fun C hC => ?_
   try simp -implicitDefEqProofs (maxSteps := 4000000) (disch := first | omega | decide | (simp only [go_sem]; omega)) only [go_sem, ↓reduceIte]
   repeat (with_reducible refine And.intro (by first | assumption | omega | (simp; done) | (simp; omega)) ?_)
   refine toEnd hC ?_
   refine endX_blk ?_
   refine endX_seq ?_
   refine runX_regionC fun C hC => ?_
   try simp -implicitDefEqProofs (maxSteps := 4000000) (disch := first | omega | decide | (simp only [go_sem]; omega)) only [go_sem, ↓reduceIte]
   repeat (with_reducible refine And.intro (by first | assumption | omega | (simp; done) | (simp; omega)) ?_)
   refine toEnd hC ?_
   refine endX_lp ?_
   refine runX_seq ?_
   refine runX_regionC fun C hC => ?_
   try simp -implicitDefEqProofs (maxSteps := 4000000) (disch := first | omega | decide | (simp only [go_sem]; omega)) only [go_sem, ↓reduceIte]
   repeat (with_reducible refine And.intro (by first | assumption | omega | (simp; done) | (simp; omega)) ?_)
   refine toEnd hC ?_
   refine endX_seq ?_
   refine runX_seq ?_
   refine runX_condT rfl rfl ?_
   refine runX_skip ?_
   refine endX_seq ?_
   refine runX_seq ?_
   refine runX_block ?_
   refine runX_seq ?_
   refine runX_regionC fun C hC => ?_
   try simp -implicitDefEqProofs (maxSteps := 4000000) (disch := first | omega | decide | (simp only [go_sem]; omega)) only [go_sem, ↓reduceIte]
   repeat (with_reducible refine And.intro (by first | assumption | omega | (simp; done) | (simp; omega)) ?_)
   refine toEnd hC ?_
   refine endX_seq ?_
   refine runX_regionC fun C hC => ?_
   try simp -implicitDefEqProofs (maxSteps := 4000000) (disch := first | omega | decide | (simp only [go_sem]; omega)) only [go_sem, ↓reduceIte]
   repeat (with_reducible refine And.intro (by first | assumption | omega | (simp; done) | (simp; omega)) ?_)
   refine toEnd hC ?_
   refine endX_blk ?_
   refine endX_seq ?_
   refine runX_regionC fun C hC => ?_
   try simp -implicitDefEqProofs (maxSteps := 4000000) (disch := first | omega | decide | (simp only [go_sem]; omega)) only [go_sem, ↓reduceIte]
   repeat (with_reducible refine And.intro (by first | assumption | omega | (simp; done) | (simp; omega)) ?_)
   refine toEnd hC ?_
   refine endX_lp ?_
   refine runX_seq ?_
   refine runX_regionC fun C hC => ?_
   try simp -implicitDefEqProofs (maxSteps := 4000000) (disch := first | omega | decide | (simp only [go_sem]; omega)) only [go_sem, ↓reduceIte]
   repeat (with_reducible refine And.intro (by first | assumption | omega | (simp; done) | (simp; omega)) ?_)
   refine toEnd hC ?_
   refine endX_seq ?_
   refine runX_seq ?_
   refine runX_condT rfl rfl ?_
   refine runX_skip ?_
   refine endX_seq ?_
   refine runX_seq ?_
   refine runX_block ?_
   refine runX_seq ?_
   refine runX_regionC fun C hC => ?_
   try simp -implicitDefEqProofs (maxSteps := 4000000) (disch := first | omega | decide | (simp only [go_sem]; omega)) only [go_sem, ↓reduceIte]
   repeat (with_reducible refine And.intro (by first | assumption | omega | (simp; done) | (simp; omega)) ?_)
   refine toEnd hC ?_
   refine endX_seq ?_
   refine runX_regionC fun C hC => ?_
   try simp -implicitDefEqProofs (maxSteps := 4000000) (disch := first | omega | decide | (simp only [go_sem]; omega)) only [go_sem, ↓reduceIte]
   repeat (with_reducible refine And.intro (by first | assumption | omega | (simp; done) | (simp; omega)) ?_)
   refine toEnd hC ?_
   refine endX_blk ?_
   refine endX_seq ?_
   refine runX_regionC fun C hC => ?_
   try simp -implicitDefEqProofs (maxSteps := 4000000) (disch := first | omega | decide | (simp only [go_sem]; omega)) only [go_sem, ↓reduceIte]
   repeat (with_reducible refine And.intro (by first | assumption | omega | (simp; done) | (simp; omega)) ?_)
   refine toEnd hC ?_
   refine endX_lp ?_
   refine runX_seq ?_
   refine runX_regionC fun C hC => ?_
   try simp -implicitDefEqProofs (maxSteps := 4000000) (disch := first | omega | decide | (simp only [go_sem]; omega)) only [go_sem, ↓reduceIte]
   repeat (with_reducible refine And.intro (by first | assumption | omega | (simp; done) | (simp; omega)) ?_)
   refine toEnd hC ?_
   refine endX_seq ?_
   refine runX_seq ?_
   refine runX_condF rfl rfl ?_
   refine runX_exit ?_
   refine endX_seqE ?_
   refine endX_lpE ?_
   refine endX_blkE ?_
   refine endX_seq ?_
   refine runX_seq ?_
   refine runX_regionC fun C hC => ?_
   try simp -implicitDefEqProofs (maxSteps := 4000000) (disch := first | omega | decide | (simp only [go_sem]; omega)) only [go_sem, ↓reduceIte]
   repeat (with_reducible refine And.intro (by first | assumption | omega | (simp; done) | (simp; omega)) ?_)
   refine toEnd hC ?_
   refine endX_seq ?_
   refine runX_ret ?_
   refine endX_q ?_
   obtain rfl := Option.some.inj h
   show RetW _ _ _ _ _
   simp only [RetW]
   (try simp -implicitDefEqProofs (maxSteps := 4000000) (disch := first | omega | decide | (simp only [go_sem]; omega)) only [go_sem, ↓reduceIte])
   (try simp (disch := omega) only [if_pos, Nat.sub_zero])
   exact leT_refl _
end Go.Proofs.YtaiapalhdejngaaX

set_option linter.unusedVariables false
set_option linter.unusedSimpArgs false
namespace Go.Proofs.YtaiapalhdejngaaX
open Go Go.RowKit Go.Proofs
set_option maxRecDepth 100000
attribute [local go_sem ↓] stepsK_build stepsK_bs appendS
attribute [local go_sem] String.reduceEq String.reduceNe reduceCtorEq Int.reduceEq Nat.reduceAdd Nat.reduceSub Nat.reduceMul Nat.reduceLT Nat.reduceLeDiff Nat.reduceEqDiff Nat.reduceBEq Int.reduceToNat Int.reduceLT Int.reduceLE Int.reduceGT Int.reduceGE Int.reduceAdd Int.reduceSub Int.reduceMul Int.reduceNeg Int.reduceBEq Int.reduceBNe Int.reducePow Int.reduceDiv Int.reduceMod Int.reduceTDiv Int.reduceTMod Int.reduceNatCast
/-! ### md5.Sum -/
def F45_S1 (x2 : List (Int)) (x3 : Int) (x4 : Int) (x5 : Int) (x6 : Int) (x7 : Int) : St := ⟨[.sl 1 false (List.map byteT x2), .junk, .ref 0 0 0 0, .ref 1 0 0 0, .junk, .junk, .junk, .junk, .junk, .junk, .junk, .junk, .junk, .junk, .junk, .junk, .junk, .junk], [some (.box 70 (.agg [.imm (.int .u8 (0 : Int)), .imm (.int .u8 (0 : Int)), .imm (.int .u8 (0 : Int)), .imm (.int .u8 (0 : Int)), .imm (.int .u8 (0 : Int)), .imm (.int .u8 (0 : Int)), .imm (.int .u8 (0 : Int)), .imm (.int .u8 (0 : Int)), .imm (.int .u8 (0 : Int)), .imm (.int .u8 (0 : Int)), .imm (.int .u8 (0 : Int)), .imm (.int .u8 (0 : Int)), .imm (.int .u8 (0 : Int)), .imm (.int .u8 (0 : Int)), .imm (.int .u8 (0 : Int)), .imm (.int .u8 (0 : Int))]) false), some (.box 113 (.agg [.imm (.int .u32 x3), .imm (.int .u32 x4), .imm (.int .u32 x5), .imm (.int .u32 x6), .imm (.int .u64 x7)]) false)]⟩
def F45_L1 : Nat → (List (Int)) → (Int) → (Int) → (Int) → (Int) → (Int) → Option (List (Int))
 | 0, _, _, _, _, _, _ => none
 | m1 + 1, x2, x3, x4, x5, x6, x7 => iteB (decide ((64 : Int) ≤ (x2.length : Int))) (grd (64 ≤ x2.length) (grd (64 ≤ (x2.take 64).length) ((F82 m1 ([x3, x4, x5, x6], x7) ((x2.take 64).take 64)).bind fun v11 => grd ((64 : Int) ≤ (x2.length : Int)) (F45_L1 m1 (x2.drop 64) (v11.1.getD 0 default) (v11.1.getD 1 default) (v11.1.getD 2 default) (v11.1.getD 3 default) v11.2)))) ((F83 m1 ([x3, x4, x5, x6], x7) x2).bind fun v13 => grd (v13.length = 16) (grd (16 ≤ v13.length) (some (v13.take 16))))
def F45 (n : Nat) (a0 : List (Int)) : Option (List (Int)) := (F81 n ).bind fun v1 => F45_L1 n a0 (v1.1.getD 0 default) (v1.1.getD 1 default) (v1.1.getD 2 default) (v1.1.getD 3 default) v1.2
set_option maxHeartbeats 4000000 in
theorem F45_ok : ∀ (n : Nat) (a0 : List (Int)) (r : List (Int)), F45 n a0 = some r → FnC Try.prog 45 [.sl 1 false (List.map byteT a0)] (.agg (List.map byteT r))
 | n, a0, r, h => by
  unfold F45 at h
  refine FnC.goX mixed Try.func45 (by kernel_rfl) rfl ?_
  simp only [Try.ntmps45, List.length_cons, List.length_nil, List.replicate, List.cons_append, List.nil_append, Nat.reduceAdd, Nat.reduceSub]
  refine runX_seq ?_
  refine runX_regionC fun C hC => ?_
  try simp -implicitDefEqProofs (disch := omega) only [go_sem, ↓reduceIte]
  refine toEnd hC ?_
  refine endX_seq ?_
  refine runX_seq ?_
  refine runX_regionC fun C hC => ?_
  simp only [runK_region, runK_draw, liteL, liteL2, dstsL, gL, List.getD_cons_zero, List.getD_cons_succ]
  obtain ⟨v1, h1, h⟩ := bnd_some h
  try simp -implicitDefEqProofs (maxSteps := 4000000) (disch := first | omega | decide | (simp only [go_sem]; omega)) only [go_sem, ↓reduceIte]
  repeat (with_reducible refine And.intro (by first | assumption | omega | (simp; done) | (simp; omega)) ?_)
  refine callG_X (by first | rfl | (simp only [go_sem]; done) | (simp only [closedL, closedT, Bool.and_true]; exact closedL_map _ (fun _ => by first | rfl | (simp only [go_sem]; done)) _)) (F81_ok n  _ h1) (by repeat (first | exact leL_refl _ | refine leL_cons (by first | exact leT_refl _ | exact leT_virt | exact leT_junk _ | exact leT_sl | exact leT_sln | exact leT_nil | (refine leT_agg (by repeat (first | exact leL_refl _ | refine leL_cons (by first | exact leT_refl _ | exact leT_sl | exact leT_sln | exact leT_nil) ?_)))) ?_)) ?_
  try simp -implicitDefEqProofs (maxSteps := 4000000) (disch := first | omega | decide | (simp only [go_sem]; omega)) only [go_sem, ↓reduceIte]
  repeat (with_reducible refine And.intro (by first | assumption | omega | (simp; done) | (simp; omega)) ?_)
  refine toEnd hC ?_
  refine endX_seq ?_
  refine runX_seq ?_
  refine runX_block ?_
  refine runX_loop [0, 2, 3] (fun m S => ∃ (x2 : List (Int)) (x3 : Int) (x4 : Int) (x5 : Int) (x6 : Int) (x7 : Int), S = F45_S1 x2 x3 x4 x5 x6 x7 ∧ m ≤ n ∧ F45_L1 m x2 x3 x4 x5 x6 x7 = some r) n ⟨F45_S1 a0 (v1.1.getD 0 default) (v1.1.getD 1 default) (v1.1.getD 2 default) (v1.1.getD 3 default) v1.2, ?_, a0, (v1.1.getD 0 default), (v1.1.getD 1 default), (v1.1.getD 2 default), (v1.1.getD 3 default), v1.2, rfl, Nat.le_refl _, h⟩ ?_
  ·simp only [F45_S1]
   (try simp -implicitDefEqProofs (disch := omega) only [go_sem, ↓reduceIte])
   exact leS_refl _
  ·clear h
   rintro m1 S ⟨x2, x3, x4, x5, x6, x7, rfl, hm1, h⟩
   cases m1 with
   | zero => first | cases (show (none : Option _) = some _ from h) | (rw [F45_L1] at h; cases h)
   | succ m1 =>
    rw [F45_L1] at h
    simp only [F45_S1]
    refine runX_seq ?_
    refine runX_seq ?_
    refine runX_regionC fun C hC => ?_
    try simp -implicitDefEqProofs (maxSteps := 4000000) (disch := first | omega | decide | (simp only [go_sem]; omega)) only [go_sem, ↓reduceIte]
    repeat (with_reducible refine And.intro (by first | assumption | omega | (simp; done) | (simp; omega)) ?_)
    refine toEnd hC ?_
    refine endX_seq ?_
    rcases iteB_some h with ⟨c8, h⟩ | ⟨c8, h⟩
    ·refine runX_condT rfl c8 ?_
     refine runX_skip ?_
     refine endX_seq ?_
     refine runX_seq ?_
     refine runX_block ?_
     refine runX_drawC mixed (by kernel_rfl) fun C hC => ?_
     obtain ⟨g9, h⟩ := grd_some h
     obtain ⟨g10, h⟩ := grd_some h
     obtain ⟨v11, h11, h⟩ := bnd_some h
     try simp -implicitDefEqProofs (maxSteps := 4000000) (disch := first | omega | decide | (simp only [go_sem]; omega)) only [go_sem, ↓reduceIte]
     repeat (with_reducible refine And.intro (by first | assumption | omega | (simp; done) | (simp; omega)) ?_)
     refine callD_X (F82_ok m1 ([x3, x4, x5, x6], x7) ((x2.take 64).take 64) _ h11) (by repeat (first | exact leL_refl _ | refine leL_cons (by first | exact leT_refl _ | exact leT_virt | exact leT_junk _ | exact leT_sl | exact leT_sln | exact leT_nil | (refine leT_agg (by repeat (first | exact leL_refl _ | refine leL_cons (by first | exact leT_refl _ | exact leT_sl | exact leT_sln | exact leT_nil) ?_)))) ?_)) ?_
     try simp -implicitDefEqProofs (maxSteps := 4000000) (disch := first | omega | decide | (simp only [go_sem]; omega)) only [go_sem, ↓reduceIte]
     repeat (with_reducible refine And.intro (by first | assumption | omega | (simp; done) | (simp; omega)) ?_)
     refine toEnd hC ?_
     refine endX_blk ?_
     refine endX_seq ?_
     refine runX_regionC fun C hC => ?_
     obtain ⟨g12, h⟩ := grd_some h
     try simp -implicitDefEqProofs (maxSteps := 4000000) (disch := first | omega | decide | (simp only [go_sem]; omega)) only [go_sem, ↓reduceIte]
     repeat (with_reducible refine And.intro (by first | assumption | omega | (simp; done) | (simp; omega)) ?_)
     refine toEnd hC ?_
     refine endX_q (roundQ_normal ⟨m1, by omega, F45_S1 (x2.drop 64) (v11.1.getD 0 default) (v11.1.getD 1 default) (v11.1.getD 2 default) (v11.1.getD 3 default) v11.2, ?_, (x2.drop 64), (v11.1.getD 0 default), (v11.1.getD 1 default), (v11.1.getD 2 default), (v11.1.getD 3 default), v11.2, rfl, by omega, h⟩)
     simp only [F45_S1]
     (try simp -implicitDefEqProofs (maxSteps := 4000000) (disch := first | omega | decide | (simp only [go_sem]; omega)) only [go_sem, ↓reduceIte])
     first | exact leS_refl _ | (refine leS_le ?_ ?_ <;> first | exact leL_refl _ | exact leOs_refl _ | (simp only [List.append_assoc, List.cons_append, List.nil_append]; exact leOs_refl _) | (repeat (first | exact leL_refl _ | refine leL_cons (by first | exact leT_refl _ | exact leT_virt | exact leT_junk _ | exact leT_sl | exact leT_sln | exact leT_nil | (refine leT_agg (by repeat (first | exact leL_refl _ | refine leL_cons (by first | exact leT_refl _ | exact leT_sl | exact leT_sln | exact leT_nil) ?_)))) ?_)))
    ·refine runX_condF rfl c8 ?_
     refine runX_exit ?_
     refine endX_seqE ?_
     refine endX_q (roundQ_exit ?_)
     refine endX_blkE ?_
     refine endX_seq ?_
     refine runX_seq ?_
     refine runX_regionC fun C hC => ?_
     obtain ⟨v13, h13, h⟩ := bnd_some h
     try simp -implicitDefEqProofs (maxSteps := 4000000) (disch := first | omega | decide | (simp only [go_sem]; omega)) only [go_sem, ↓reduceIte]
     repeat (with_reducible refine And.intro (by first | assumption | omega | (simp; done) | (simp; omega)) ?_)
     refine callG_X (by first | rfl | (simp only [go_sem]; done) | (simp only [closedL, closedT, Bool.and_true]; exact closedL_map _ (fun _ => by first | rfl | (simp only [go_sem]; done)) _)) (F83_ok m1 ([x3, x4, x5, x6], x7) x2 _ h13) (by repeat (first | exact leL_refl _ | refine leL_cons (by first | exact leT_refl _ | exact leT_virt | exact leT_junk _ | exact leT_sl | exact leT_sln | exact leT_nil | (refine leT_agg (by repeat (first | exact leL_refl _ | refine leL_cons (by first | exact leT_refl _ | exact leT_sl | exact leT_sln | exact leT_nil) ?_)))) ?_)) ?_
     obtain ⟨g14, h⟩ := grd_some h
     have e15 : List.drop v13.length ([.imm (.int .u8 (0 : Int)), .imm (.int .u8 (0 : Int)), .imm (.int .u8 (0 : Int)), .imm (.int .u8 (0 : Int)), .imm (.int .u8 (0 : Int)), .imm (.int .u8 (0 : Int)), .imm (.int .u8 (0 : Int)), .imm (.int .u8 (0 : Int)), .imm (.int .u8 (0 : Int)), .imm (.int .u8 (0 : Int)), .imm (.int .u8 (0 : Int)), .imm (.int .u8 (0 : Int)), .imm (.int .u8 (0 : Int)), .imm (.int .u8 (0 : Int)), .imm (.int .u8 (0 : Int)), .imm (.int .u8 (0 : Int))] : List T) = [] := drop_all (by first | (simp only [List.length_cons, List.length_nil]; omega) | (simp; omega))
     try simp -implicitDefEqProofs (maxSteps := 4000000) (disch := first | omega | decide | (simp only [go_sem]; omega)) only [go_sem, ↓reduceIte, e15]
     repeat (with_reducible refine And.intro (by first | assumption | omega | (simp; done) | (simp; omega)) ?_)
     refine toEnd hC ?_
     refine endX_seq ?_
     refine runX_ret ?_
     refine endX_q ?_
     obtain ⟨g16, h⟩ := grd_some h
     obtain rfl := Option.some.inj h
     show RetW _ _ _ _ _
     simp only [RetW]
     (try simp -implicitDefEqProofs (maxSteps := 4000000) (disch := first | omega | decide | (simp only [go_sem]; omega)) only [go_sem, ↓reduceIte])
     repeat (with_reducible refine And.intro (by first | assumption | omega | (simp; done) | (simp; omega)) ?_)
     (try simp (disch := omega) only [if_pos, Nat.sub_zero])
     exact leT_refl _
end Go.Proofs.YtaiapalhdejngaaX

set_option linter.unusedVariables false
set_option linter.unusedSimpArgs false
namespace Go.Proofs.YtaiapalhdejngaaX
open Go Go.RowKit Go.Proofs
set_option maxRecDepth 100000
attribute [local go_sem ↓] stepsK_build stepsK_bs appendS
attribute [local go_sem] String.reduceEq String.reduceNe reduceCtorEq Int.reduceEq Nat.reduceAdd Nat.reduceSub Nat.reduceMul Nat.reduceLT Nat.reduceLeDiff Nat.reduceEqDiff Nat.reduceBEq Int.reduceToNat Int.reduceLT Int.reduceLE Int.reduceGT Int.reduceGE Int.reduceAdd Int.reduceSub Int.reduceMul Int.reduceNeg Int.reduceBEq Int.reduceBNe Int.reducePow Int.reduceDiv Int.reduceMod Int.reduceTDiv Int.reduceTMod Int.reduceNatCast
/-! ### md5.Text -/
def F54_S1 (v1 : List (Int)) (x2 : Int) (x3 : List (Int)) : St := ⟨[.junk, .junk, .junk, .rsl 0 1 0 x3.length, .junk, .junk, .junk, .agg (List.map byteT v1), .imm (.int .i64 x2), .junk, .junk, .junk, .junk, .junk, .junk, .junk, .junk, .junk, .junk, .junk, .junk, .junk, .junk], [some (.buf 5 1 (List.map byteT x3) 0)]⟩
def F54_L1 : Nat → (List (Int)) → (Int) → (List (Int)) → Option (List UInt8)
 | 0, _, _, _ => none
 | m1 + 1, v1, x2, x3 => iteB (decide (x2 < (16 : Int))) (grd (0 ≤ x2 ∧ x2 < (16 : Int) ∧ x2.toNat < v1.length) (grd (0 ≤ (bShr .u8 (v1.getD x2.toNat default) 4) ∧ (bShr .u8 (v1.getD x2.toNat default) 4) < (16 : Int)) (grd (0 ≤ (IntKind.wrap .u8 (bAnd .u8 (v1.getD x2.toNat default) (15 : Int))) ∧ (IntKind.wrap .u8 (bAnd .u8 (v1.getD x2.toNat default) (15 : Int))) < (16 : Int)) (grd ((x3.length + 2) ≤ 549755813888) (F54_L1 m1 v1 (IntKind.wrap .i64 (x2 + (1 : Int))) (x3 ++ ([((([48, 49, 50, 51, 52, 53, 54, 55, 56, 57, 97, 98, 99, 100, 101, 102] : List UInt8).getD (bShr .u8 (v1.getD x2.toNat default) 4).toNat 0).toNat : Int), ((([48, 49, 50, 51, 52, 53, 54, 55, 56, 57, 97, 98, 99, 100, 101, 102] : List UInt8).getD (IntKind.wrap .u8 (bAnd .u8 (v1.getD x2.toNat default) (15 : Int))).toNat 0).toNat : Int)]))))))) (some (x3.map toB))
def F54 (n : Nat) (a0 : List (Int)) : Option (List UInt8) := (F45 n a0).bind fun v1 => F54_L1 n v1 (0 : Int) []
set_option maxHeartbeats 4000000 in
theorem F54_ok : ∀ (n : Nat) (a0 : List (Int)) (r : List UInt8), F54 n a0 = some r → FnC Try.prog 54 [.sl 1 false (List.map byteT a0)] (.imm (.string (bs r)))
 | n, a0, r, h => by
  unfold F54 at h
  refine FnC.goX mixed Try.func54 (by kernel_rfl) rfl ?_
  simp only [Try.ntmps54, List.length_cons, List.length_nil, List.replicate, List.cons_append, List.nil_append, Nat.reduceAdd, Nat.reduceSub]
  refine runX_seq ?_
  refine runX_regionC fun C hC => ?_
  try simp -implicitDefEqProofs (disch := omega) only [go_sem, ↓reduceIte]
  refine toEnd hC ?_
  refine endX_seq ?_
  refine runX_seq ?_
  refine runX_regionC fun C hC => ?_
  try simp -implicitDefEqProofs (disch := omega) only [go_sem, ↓reduceIte]
  refine toEnd hC ?_
  refine endX_seq ?_
  refine runX_seq ?_
  refine runX_seq ?_
  refine runX_regionC fun C hC => ?_
  obtain ⟨v1, h1, h⟩ := bnd_some h
  try simp -implicitDefEqProofs (maxSteps := 4000000) (disch := first | omega | decide | (simp only [go_sem]; omega)) only [go_sem, ↓reduceIte]
  repeat (with_reducible refine And.intro (by first | assumption | omega | (simp; done) | (simp; omega)) ?_)
  refine callG_X (by first | rfl | (simp only [go_sem]; done) | (simp only [closedL, closedT, Bool.and_true]; exact closedL_map _ (fun _ => by first | rfl | (simp only [go_sem]; done)) _)) (F45_ok n a0 _ h1) (by repeat (first | exact leL_refl _ | refine leL_cons (by first | exact leT_refl _ | exact leT_virt | exact leT_junk _ | exact leT_sl | exact leT_sln | exact leT_nil | (refine leT_agg (by repeat (first | exact leL_refl _ | refine leL_cons (by first | exact leT_refl _ | exact leT_sl | exact leT_sln | exact leT_nil) ?_)))) ?_)) ?_
  try simp -implicitDefEqProofs (maxSteps := 4000000) (disch := first | omega | decide | (simp only [go_sem]; omega)) only [go_sem, ↓reduceIte]
  repeat (with_reducible refine And.intro (by first | assumption | omega | (simp; done) | (simp; omega)) ?_)
  refine toEnd hC ?_
  refine endX_seq ?_
  refine runX_block ?_
  refine runX_loop [3, 7, 8] (fun m S => ∃ (x2 : Int) (x3 : List (Int)), S = F54_S1 v1 x2 x3 ∧ m ≤ n ∧ F54_L1 m v1 x2 x3 = some r) n ⟨F54_S1 v1 (0 : Int) [], ?_, (0 : Int), [], rfl, Nat.le_refl _, h⟩ ?_
  ·(try simp -implicitDefEqProofs (disch := omega) only [go_sem, ↓reduceIte])
   simp only [F54_S1]
   refine leS_trans (leS_pad _ _ 1) ?_
   simp only [List.replicate, List.cons_append, List.nil_append]
   refine leS_virt 0 5 1 rfl ?_ ?_ rfl
   ·repeat (first | exact leL_refl _ | refine leL_cons (by first | exact leT_refl _ | exact leT_virt | exact leT_junk _ | exact leT_sl | exact leT_sln | exact leT_nil | (refine leT_agg (by repeat (first | exact leL_refl _ | refine leL_cons (by first | exact leT_refl _ | exact leT_sl | exact leT_sln | exact leT_nil) ?_)))) ?_)
   ·repeat (first | exact leOs_refl _ | refine leOs.cons (by first | exact leO.same _ | (refine leO.box (leT_agg (by repeat (first | exact leL_refl _ | refine leL_cons (by first | exact leT_refl _ | exact leT_virt | exact leT_junk _ | exact leT_sl | exact leT_sln | exact leT_nil | (refine leT_agg (by repeat (first | exact leL_refl _ | refine leL_cons (by first | exact leT_refl _ | exact leT_sl | exact leT_sln | exact leT_nil) ?_)))) ?_))) rfl) | (refine leO.box (by first | exact leT_virt | exact leT_sl | exact leT_sln) rfl)) ?_)
  ·clear h
   rintro m1 S ⟨x2, x3, rfl, hm1, h⟩
   cases m1 with
   | zero => first | cases (show (none : Option _) = some _ from h) | (rw [F54_L1] at h; cases h)
   | succ m1 =>
    rw [F54_L1] at h
    simp only [F54_S1]
    refine runX_seq ?_
    refine runX_regionC fun C hC => ?_
    try simp -implicitDefEqProofs (disch := omega) only [go_sem, ↓reduceIte]
    refine toEnd hC ?_
    refine endX_seq ?_
    refine runX_seq ?_
    rcases iteB_some h with ⟨c4, h⟩ | ⟨c4, h⟩
    ·refine runX_condT rfl c4 ?_
     refine runX_skip ?_
     refine endX_seq ?_
     refine runX_seq ?_
     refine runX_block ?_
     refine runX_seq ?_
     refine runX_regionC fun C hC => ?_
     obtain ⟨g5, h⟩ := grd_some h
     try simp -implicitDefEqProofs (maxSteps := 4000000) (disch := first | omega | decide | (simp only [go_sem]; omega)) only [go_sem, ↓reduceIte]
     repeat (with_reducible refine And.intro (by first | assumption | omega | (simp; done) | (simp; omega)) ?_)
     refine toEnd hC ?_
     refine endX_seq ?_
     refine runX_drawC mixed (by kernel_rfl) fun C hC => ?_
     obtain ⟨g6, h⟩ := grd_some h
     obtain ⟨g7, h⟩ := grd_some h
     try simp -implicitDefEqProofs (maxSteps := 4000000) (disch := first | omega | decide | (simp only [go_sem]; omega)) only [go_sem, ↓reduceIte]
     repeat (with_reducible refine And.intro (by first | assumption | omega | (simp; done) | (simp; omega)) ?_)
     refine buildX_val ?_
     obtain ⟨g8, h⟩ := grd_some h
     try simp -implicitDefEqProofs (maxSteps := 4000000) (disch := first | omega | decide | (simp only [go_sem]; omega)) only [go_sem, ↓reduceIte]
     repeat (with_reducible refine And.intro (by first | assumption | omega | (simp; done) | (simp; omega)) ?_)
     refine toEnd hC ?_
     refine endX_blk ?_
     refine endX_seq ?_
     refine runX_regionC fun C hC => ?_
     try simp -implicitDefEqProofs (disch := omega) only [go_sem, ↓reduceIte]
     refine toEnd hC ?_
     refine endX_q (roundQ_normal ⟨m1, by omega, F54_S1 v1 (IntKind.wrap .i64 (x2 + (1 : Int))) (x3 ++ ([((([48, 49, 50, 51, 52, 53, 54, 55, 56, 57, 97, 98, 99, 100, 101, 102] : List UInt8).getD (bShr .u8 (v1.getD x2.toNat default) 4).toNat 0).toNat : Int), ((([48, 49, 50, 51, 52, 53, 54, 55, 56, 57, 97, 98, 99, 100, 101, 102] : List UInt8).getD (IntKind.wrap .u8 (bAnd .u8 (v1.getD x2.toNat default) (15 : Int))).toNat 0).toNat : Int)])), ?_, (IntKind.wrap .i64 (x2 + (1 : Int))), (x3 ++ ([((([48, 49, 50, 51, 52, 53, 54, 55, 56, 57, 97, 98, 99, 100, 101, 102] : List UInt8).getD (bShr .u8 (v1.getD x2.toNat default) 4).toNat 0).toNat : Int), ((([48, 49, 50, 51, 52, 53, 54, 55, 56, 57, 97, 98, 99, 100, 101, 102] : List UInt8).getD (IntKind.wrap .u8 (bAnd .u8 (v1.getD x2.toNat default) (15 : Int))).toNat 0).toNat : Int)])), rfl, by omega, h⟩)
     simp only [F54_S1]
     (try simp -implicitDefEqProofs (maxSteps := 4000000) (disch := first | omega | decide | (simp only [go_sem]; omega)) only [go_sem, ↓reduceIte])
     first | exact leS_refl _ | (refine leS_le ?_ ?_ <;> first | exact leL_refl _ | exact leOs_refl _ | (simp only [List.append_assoc, List.cons_append, List.nil_append]; exact leOs_refl _) | (repeat (first | exact leL_refl _ | refine leL_cons (by first | exact leT_refl _ | exact leT_virt | exact leT_junk _ | exact leT_sl | exact leT_sln | exact leT_nil | (refine leT_agg (by repeat (first | exact leL_refl _ | refine leL_cons (by first | exact leT_refl _ | exact leT_sl | exact leT_sln | exact leT_nil) ?_)))) ?_)))
    ·refine runX_condF rfl c4 ?_
     refine runX_exit ?_
     refine endX_seqE ?_
     refine endX_q (roundQ_exit ?_)
     refine endX_blkE ?_
     refine endX_seq ?_
     refine runX_seq ?_
     refine runX_regionC fun C hC => ?_
     try simp -implicitDefEqProofs (disch := omega) only [go_sem, ↓reduceIte]
     refine toEnd hC ?_
     refine endX_seq ?_
     refine runX_ret ?_
     refine endX_q ?_
     obtain rfl := Option.some.inj h
     show RetW _ _ _ _ _
     simp only [RetW]
     (try simp -implicitDefEqProofs (disch := omega) only [go_sem, ↓reduceIte])
     (try simp (disch := omega) only [if_pos, Nat.sub_zero])
     exact leT_refl _
end Go.Proofs.YtaiapalhdejngaaX

set_option linter.unusedVariables false
set_option linter.unusedSimpArgs false
namespace Go.Proofs.YtaiapalhdejngaaX
open Go Go.RowKit Go.Proofs
set_option maxRecDepth 100000
attribute [local go_sem ↓] stepsK_build stepsK_bs appendS
attribute [local go_sem] String.reduceEq String.reduceNe reduceCtorEq Int.reduceEq Nat.reduceAdd Nat.reduceSub Nat.reduceMul Nat.reduceLT Nat.reduceLeDiff Nat.reduceEqDiff Nat.reduceBEq Int.reduceToNat Int.reduceLT Int.reduceLE Int.reduceGT Int.reduceGE Int.reduceAdd Int.reduceSub Int.reduceMul Int.reduceNeg Int.reduceBEq Int.reduceBNe Int.reducePow Int.reduceDiv Int.reduceMod Int.reduceTDiv Int.reduceTMod Int.reduceNatCast
/-! ### hex.Decimal -/
def F55_S4 (x11 : Int) (x12 : Int) (x13 : List (Int)) : St := ⟨[.junk, .junk, .junk, .junk, .rsl 0 1 0 x13.length, .imm (.int .i64 x11), .imm (.int .i64 x12), .junk, .junk, .junk, .junk, .junk, .junk, .junk, .junk, .junk, .junk, .junk, .junk, .junk, .junk, .junk, .junk, .junk, .junk, .junk, .junk, .junk, .junk, .junk, .junk, .junk, .junk, .junk, .junk, .junk, .junk, .junk, .junk, .junk, .junk, .junk, .junk, .junk, .junk, .junk, .junk, .junk, .junk, .junk, .junk, .junk, .junk, .junk], [some (.buf 5 1 (List.map byteT x13) 0)]⟩
def F55_S3 (x10 : List (Int)) : St := ⟨[.junk, .junk, .junk, .junk, .rsl 0 1 0 x10.length, .junk, .junk, .junk, .junk, .junk, .junk, .junk, .junk, .junk, .junk, .junk, .junk, .junk, .junk, .junk, .junk, .junk, .junk, .junk, .junk, .junk, .junk, .junk, .junk, .junk, .junk, .junk, .junk, .junk, .junk, .junk, .junk, .junk, .junk, .junk, .junk, .junk, .junk, .junk, .junk, .junk, .junk, .junk, .junk, .junk, .junk, .junk, .junk, .junk], [some (.buf 5 1 (List.map byteT x10) 0)]⟩
def F55_S2 (a0 : Int) (x3 : Int) (x4 : List (Int)) : St := ⟨[.imm (.int .i64 a0), .junk, .junk, .imm (.int .u64 x3), .rsl 0 1 0 x4.length, .junk, .junk, .junk, .junk, .junk, .junk, .junk, .junk, .junk, .junk, .junk, .junk, .junk, .junk, .junk, .junk, .junk, .junk, .junk, .junk, .junk, .junk, .junk, .junk, .junk, .junk, .junk, .junk, .junk, .junk, .junk, .junk, .junk, .junk, .junk, .junk, .junk, .junk, .junk, .junk, .junk, .junk, .junk, .junk, .junk, .junk, .junk, .junk, .junk], [some (.buf 5 1 (List.map byteT x4) 0)]⟩
def F55_S1 (a0 : Int) (x2 : Int) : St := ⟨[.imm (.int .i64 a0), .junk, .junk, .imm (.int .u64 x2), .junk, .junk, .junk, .junk, .junk, .junk, .junk, .junk, .junk, .junk, .junk, .junk, .junk, .junk, .junk, .junk, .junk, .junk, .junk, .junk, .junk, .junk, .junk, .junk, .junk, .junk, .junk, .junk, .junk, .junk, .junk, .junk, .junk, .junk, .junk, .junk, .junk, .junk, .junk, .junk, .junk, .junk, .junk, .junk, .junk, .junk, .junk, .junk, .junk, .junk], []⟩
mutual
def F55_L4 : Nat → (Int) → (Int) → (List (Int)) → Option (List UInt8)
 | 0, _, _, _ => none
 | m4 + 1, x11, x12, x13 => iteB (decide (x11 < x12)) (grd (0 ≤ x12 ∧ x12 < (x13.length : Int)) (grd (x12.toNat < x13.length) (grd (0 ≤ x11 ∧ x11 < (x13.length : Int)) (grd (x11.toNat < x13.length) (grd (0 ≤ x11 ∧ x11 < (x13.length : Int)) (grd (x11.toNat < x13.length) (grd (0 ≤ x12 ∧ x12 < (x13.length : Int)) (grd (x12.toNat < x13.length) (F55_L4 m4 (IntKind.wrap .i64 (x11 + (1 : Int))) (IntKind.wrap .i64 (x12 - (1 : Int))) (List.set (List.set x13 x11.toNat (x13.getD x12.toNat default)) x12.toNat (x13.getD x11.toNat default))))))))))) (some (x13.map toB))
def F55_J3 (m2 : Nat) (x10 : List (Int)) : Option (List UInt8) := F55_L4 m2 (0 : Int) (IntKind.wrap .i64 ((x10.length : Int) - (1 : Int))) x10
def F55_L2 : Nat → (Int) → (Int) → (List (Int)) → Option (List UInt8)
 | 0, _, _, _ => none
 | m2 + 1, a0, x3, x4 => grd (0 ≤ (x3.tmod (10 : Int)) ∧ (x3.tmod (10 : Int)) < (16 : Int)) (grd ((x4.length + 1) ≤ 549755813888) (iteB ((IntKind.wrap .u64 (x3.tdiv (10 : Int))) == (0 : Int)) (iteB (decide (a0 < (0 : Int))) (grd ((x4.length + 2) ≤ 549755813888) (F55_J3 m2 ((x4 ++ ([((([48, 49, 50, 51, 52, 53, 54, 55, 56, 57, 97, 98, 99, 100, 101, 102] : List UInt8).getD (x3.tmod (10 : Int)).toNat 0).toNat : Int)])) ++ [(45 : Int)]))) (F55_J3 m2 (x4 ++ ([((([48, 49, 50, 51, 52, 53, 54, 55, 56, 57, 97, 98, 99, 100, 101, 102] : List UInt8).getD (x3.tmod (10 : Int)).toNat 0).toNat : Int)])))) (F55_L2 m2 a0 (IntKind.wrap .u64 (x3.tdiv (10 : Int))) (x4 ++ ([((([48, 49, 50, 51, 52, 53, 54, 55, 56, 57, 97, 98, 99, 100, 101, 102] : List UInt8).getD (x3.tmod (10 : Int)).toNat 0).toNat : Int)])))))
def F55_J1 (n : Nat) (a0 : Int) (x2 : Int) : Option (List UInt8) := F55_L2 n a0 x2 []
end
def F55 (n : Nat) (a0 : Int) : Option (List UInt8) := iteB (decide (a0 < (0 : Int))) (F55_J1 n a0 (IntKind.wrap .u64 ((0 : Int) - (IntKind.wrap .u64 (a0))))) (F55_J1 n a0 (IntKind.wrap .u64 (a0)))
set_option maxHeartbeats 4000000 in
theorem F55_ok : ∀ (n : Nat) (a0 : Int) (r : List UInt8), F55 n a0 = some r → FnC Try.prog 55 [.imm (.int .i64 a0)] (.imm (.string (bs r)))
 | n, a0, r, h => by
  unfold F55 at h
  refine FnC.goX mixed Try.func55 (by kernel_rfl) rfl ?_
  simp only [Try.ntmps55, List.length_cons, List.length_nil, List.replicate, List.cons_append, List.nil_append, Nat.reduceAdd, Nat.reduceSub]
  refine runX_seq ?_
  refine runX_regionC fun C hC => ?_
  try simp -implicitDefEqProofs (disch := omega) only [go_sem, ↓reduceIte]
  refine toEnd hC ?_
  refine endX_seq ?_
  refine runX_seq ?_
  refine runX_regionC fun C hC => ?_
  try simp -implicitDefEqProofs (disch := omega) only [go_sem, ↓reduceIte]
  refine toEnd hC ?_
  refine endX_seq ?_
  refine runX_meet [0, 3] (fun S => ∃ (x2 : Int), S = F55_S1 a0 x2 ∧ F55_J1 n a0 x2 = some r) ?_ ?_
  ·refine runX_seq ?_
   refine runX_regionC fun C hC => ?_
   try simp -implicitDefEqProofs (disch := omega) only [go_sem, ↓reduceIte]
   refine toEnd hC ?_
   refine endX_seq ?_
   rcases iteB_some h with ⟨c1, h⟩ | ⟨c1, h⟩
   ·refine runX_condT rfl c1 ?_
    refine runX_regionC fun C hC => ?_
    try simp -implicitDefEqProofs (disch := omega) only [go_sem, ↓reduceIte]
    refine toEnd hC ?_
    refine endX_q (meetQ_normal ⟨F55_S1 a0 (IntKind.wrap .u64 ((0 : Int) - (IntKind.wrap .u64 (a0)))), ?_, (IntKind.wrap .u64 ((0 : Int) - (IntKind.wrap .u64 (a0)))), rfl, h⟩)
    simp only [F55_S1]
    (try simp -implicitDefEqProofs (disch := omega) only [go_sem, ↓reduceIte])
    exact leS_refl _
   ·refine runX_condF rfl c1 ?_
    refine runX_skip ?_
    refine endX_q (meetQ_normal ⟨F55_S1 a0 (IntKind.wrap .u64 (a0)), ?_, (IntKind.wrap .u64 (a0)), rfl, h⟩)
    simp only [F55_S1]
    (try simp -implicitDefEqProofs (disch := omega) only [go_sem, ↓reduceIte])
    exact leS_refl _
  ·clear h
   rintro S ⟨x2, rfl, h⟩
   rw [F55_J1] at h
   simp only [F55_S1]
   refine runX_seq ?_
   refine runX_regionC fun C hC => ?_
   try simp -implicitDefEqProofs (disch := omega) only [go_sem, ↓reduceIte]
   refine toEnd hC ?_
   refine endX_seq ?_
   refine runX_seq ?_
   refine runX_block ?_
   refine runX_loop [0, 3, 4] (fun m S => ∃ (x3 : Int) (x4 : List (Int)), S = F55_S2 a0 x3 x4 ∧ m ≤ n ∧ F55_L2 m a0 x3 x4 = some r) n ⟨F55_S2 a0 x2 [], ?_, x2, [], rfl, Nat.le_refl _, h⟩ ?_
   ·(try simp -implicitDefEqProofs (disch := omega) only [go_sem, ↓reduceIte])
    simp only [F55_S2]
    refine leS_trans (leS_pad _ _ 1) ?_
    simp only [List.replicate, List.cons_append, List.nil_append]
    refine leS_virt 0 5 1 rfl ?_ ?_ rfl
    ·repeat (first | exact leL_refl _ | refine leL_cons (by first | exact leT_refl _ | exact leT_virt | exact leT_junk _ | exact leT_sl | exact leT_sln | exact leT_nil | (refine leT_agg (by repeat (first | exact leL_refl _ | refine leL_cons (by first | exact leT_refl _ | exact leT_sl | exact leT_sln | exact leT_nil) ?_)))) ?_)
    ·repeat (first | exact leOs_refl _ | refine leOs.cons (by first | exact leO.same _ | (refine leO.box (leT_agg (by repeat (first | exact leL_refl _ | refine leL_cons (by first | exact leT_refl _ | exact leT_virt | exact leT_junk _ | exact leT_sl | exact leT_sln | exact leT_nil | (refine leT_agg (by repeat (first | exact leL_refl _ | refine leL_cons (by first | exact leT_refl _ | exact leT_sl | exact leT_sln | exact leT_nil) ?_)))) ?_))) rfl) | (refine leO.box (by first | exact leT_virt | exact leT_sl | exact leT_sln) rfl)) ?_)
   ·clear h
    rintro m2 S ⟨x3, x4, rfl, hm2, h⟩
    cases m2 with
    | zero => first | cases (show (none : Option _) = some _ from h) | (rw [F55_L2] at h; cases h)
    | succ m2 =>
     rw [F55_L2] at h
     simp only [F55_S2]
     refine runX_block ?_
     refine runX_seq ?_
     refine runX_regionC fun C hC => ?_
     obtain ⟨g5, h⟩ := grd_some h
     try simp -implicitDefEqProofs (maxSteps := 4000000) (disch := first | omega | decide | (simp only [go_sem]; omega)) only [go_sem, ↓reduceIte]
     repeat (with_reducible refine And.intro (by first | assumption | omega | (simp; done) | (simp; omega)) ?_)
     refine bs_go <| buildX_val ?_
     obtain ⟨g6, h⟩ := grd_some h
     try simp -implicitDefEqProofs (maxSteps := 4000000) (disch := first | omega | decide | (simp only [go_sem]; omega)) only [go_sem, ↓reduceIte]
     repeat (with_reducible refine And.intro (by first | assumption | omega | (simp; done) | (simp; omega)) ?_)
     refine toEnd hC ?_
     refine endX_seq ?_
     refine runX_seq ?_
     refine runX_regionC fun C hC => ?_
     try simp -implicitDefEqProofs (disch := omega) only [go_sem, ↓reduceIte]
     refine toEnd hC ?_
     refine endX_seq ?_
     refine runX_seq ?_
     refine runX_regionC fun C hC => ?_
     try simp -implicitDefEqProofs (disch := omega) only [go_sem, ↓reduceIte]
     refine toEnd hC ?_
     refine endX_seq ?_
     rcases iteB_some h with ⟨c7, h⟩ | ⟨c7, h⟩
     ·refine runX_condT rfl c7 ?_
      refine runX_exit ?_
      refine endX_blkO (by decide) ?_
      refine endX_q (roundQ_exit ?_)
      refine endX_blkE ?_
      refine endX_seq ?_
      refine runX_meet [4] (fun S => ∃ (x10 : List (Int)), S = F55_S3 x10 ∧ F55_J3 m2 x10 = some r) ?_ ?_
      ·refine runX_seq ?_
       refine runX_regionC fun C hC => ?_
       try simp -implicitDefEqProofs (disch := omega) only [go_sem, ↓reduceIte]
       refine toEnd hC ?_
       refine endX_seq ?_
       rcases iteB_some h with ⟨c8, h⟩ | ⟨c8, h⟩
       ·refine runX_condT rfl c8 ?_
        refine runX_regionC fun C hC => ?_
        try simp -implicitDefEqProofs (maxSteps := 4000000) (disch := first | omega | decide | (simp only [go_sem]; omega)) only [go_sem, ↓reduceIte]
        repeat (with_reducible refine And.intro (by first | assumption | omega | (simp; done) | (simp; omega)) ?_)
        refine bs_go <| buildX_val ?_
        obtain ⟨g9, h⟩ := grd_some h
        try simp -implicitDefEqProofs (maxSteps := 4000000) (disch := first | omega | decide | (simp only [go_sem]; omega)) only [go_sem, ↓reduceIte]
        repeat (with_reducible refine And.intro (by first | assumption | omega | (simp; done) | (simp; omega)) ?_)
        refine toEnd hC ?_
        refine endX_q (meetQ_normal ⟨F55_S3 ((x4 ++ ([((([48, 49, 50, 51, 52, 53, 54, 55, 56, 57, 97, 98, 99, 100, 101, 102] : List UInt8).getD (x3.tmod (10 : Int)).toNat 0).toNat : Int)])) ++ [(45 : Int)]), ?_, ((x4 ++ ([((([48, 49, 50, 51, 52, 53, 54, 55, 56, 57, 97, 98, 99, 100, 101, 102] : List UInt8).getD (x3.tmod (10 : Int)).toNat 0).toNat : Int)])) ++ [(45 : Int)]), rfl, h⟩)
        simp only [F55_S3]
        (try simp -implicitDefEqProofs (disch := omega) only [go_sem, ↓reduceIte])
        exact leS_refl _
       ·refine runX_condF rfl c8 ?_
        refine runX_skip ?_
        refine endX_q (meetQ_normal ⟨F55_S3 (x4 ++ ([((([48, 49, 50, 51, 52, 53, 54, 55, 56, 57, 97, 98, 99, 100, 101, 102] : List UInt8).getD (x3.tmod (10 : Int)).toNat 0).toNat : Int)])), ?_, (x4 ++ ([((([48, 49, 50, 51, 52, 53, 54, 55, 56, 57, 97, 98, 99, 100, 101, 102] : List UInt8).getD (x3.tmod (10 : Int)).toNat 0).toNat : Int)])), rfl, h⟩)
        simp only [F55_S3]
        (try simp -implicitDefEqProofs (disch := omega) only [go_sem, ↓reduceIte])
        exact leS_refl _
      ·clear h
       rintro S ⟨x10, rfl, h⟩
       rw [F55_J3] at h
       simp only [F55_S3]
       refine runX_seq ?_
       refine runX_seq ?_
       refine runX_regionC fun C hC => ?_
       try simp -implicitDefEqProofs (disch := omega) only [go_sem, ↓reduceIte]
       refine toEnd hC ?_
       refine endX_seq ?_
       refine runX_block ?_
       refine runX_loop [4, 5, 6] (fun m S => ∃ (x11 : Int) (x12 : Int) (x13 : List (Int)), S = F55_S4 x11 x12 x13 ∧ m ≤ m2 ∧ F55_L4 m x11 x12 x13 = some r) m2 ⟨F55_S4 (0 : Int) (IntKind.wrap .i64 ((x10.length : Int) - (1 : Int))) x10, ?_, (0 : Int), (IntKind.wrap .i64 ((x10.length : Int) - (1 : Int))), x10, rfl, Nat.le_refl _, h⟩ ?_
       ·simp only [F55_S4]
        (try simp -implicitDefEqProofs (disch := omega) only [go_sem, ↓reduceIte])
        exact leS_refl _
       ·clear h
        rintro m4 S ⟨x11, x12, x13, rfl, hm4, h⟩
        cases m4 with
        | zero => first | cases (show (none : Option _) = some _ from h) | (rw [F55_L4] at h; cases h)
        | succ m4 =>
         rw [F55_L4] at h
         simp only [F55_S4]
         refine runX_seq ?_
         refine runX_seq ?_
         refine runX_regionC fun C hC => ?_
         try simp -implicitDefEqProofs (disch := omega) only [go_sem, ↓reduceIte]
         refine toEnd hC ?_
         refine endX_seq ?_
         rcases iteB_some h with ⟨c14, h⟩ | ⟨c14, h⟩
         ·refine runX_condT rfl c14 ?_
          refine runX_skip ?_
          refine endX_seq ?_
          refine runX_seq ?_
          refine runX_block ?_
          refine runX_draw2C mixed [2, 3] (by kernel_rfl) fun C hC => ?_
          obtain ⟨g15, h⟩ := grd_some h
          obtain ⟨g16, h⟩ := grd_some h
          obtain ⟨g17, h⟩ := grd_some h
          obtain ⟨g18, h⟩ := grd_some h
          obtain ⟨g19, h⟩ := grd_some h
          obtain ⟨g20, h⟩ := grd_some h
          obtain ⟨g21, h⟩ := grd_some h
          obtain ⟨g22, h⟩ := grd_some h
          try simp -implicitDefEqProofs (maxSteps := 4000000) (disch := first | omega | decide | (simp only [go_sem]; omega)) only [go_sem, ↓reduceIte]
          repeat (with_reducible refine And.intro (by first | assumption | omega | (simp; done) | (simp; omega)) ?_)
          refine toEnd hC ?_
          refine endX_blk ?_
          refine endX_seq ?_
          refine runX_regionC fun C hC => ?_
          try simp -implicitDefEqProofs (disch := omega) only [go_sem, ↓reduceIte]
          refine toEnd hC ?_
          refine endX_q (roundQ_normal ⟨m4, by omega, F55_S4 (IntKind.wrap .i64 (x11 + (1 : Int))) (IntKind.wrap .i64 (x12 - (1 : Int))) (List.set (List.set x13 x11.toNat (x13.getD x12.toNat default)) x12.toNat (x13.getD x11.toNat default)), ?_, (IntKind.wrap .i64 (x11 + (1 : Int))), (IntKind.wrap .i64 (x12 - (1 : Int))), (List.set (List.set x13 x11.toNat (x13.getD x12.toNat default)) x12.toNat (x13.getD x11.toNat default)), rfl, by omega, h⟩)
          simp only [F55_S4]
          (try simp -implicitDefEqProofs (disch := omega) only [go_sem, ↓reduceIte])
          exact leS_refl _
         ·refine runX_condF rfl c14 ?_
          refine runX_exit ?_
          refine endX_seqE ?_
          refine endX_q (roundQ_exit ?_)
          refine endX_blkE ?_
          refine endX_seq ?_
          refine runX_seq ?_
          refine runX_regionC fun C hC => ?_
          try simp -implicitDefEqProofs (disch := omega) only [go_sem, ↓reduceIte]
          refine toEnd hC ?_
          refine endX_seq ?_
          refine runX_ret ?_
          refine endX_q ?_
          obtain rfl := Option.some.inj h
          show RetW _ _ _ _ _
          simp only [RetW]
          (try simp -implicitDefEqProofs (disch := omega) only [go_sem, ↓reduceIte])
          (try simp (disch := omega) only [if_pos, Nat.sub_zero])
          exact leT_refl _
     ·refine runX_condF rfl c7 ?_
      refine runX_skip ?_
      refine endX_blk ?_
      refine endX_q (roundQ_normal ⟨m2, by omega, F55_S2 a0 (IntKind.wrap .u64 (x3.tdiv (10 : Int))) (x4 ++ ([((([48, 49, 50, 51, 52, 53, 54, 55, 56, 57, 97, 98, 99, 100, 101, 102] : List UInt8).getD (x3.tmod (10 : Int)).toNat 0).toNat : Int)])), ?_, (IntKind.wrap .u64 (x3.tdiv (10 : Int))), (x4 ++ ([((([48, 49, 50, 51, 52, 53, 54, 55, 56, 57, 97, 98, 99, 100, 101, 102] : List UInt8).getD (x3.tmod (10 : Int)).toNat 0).toNat : Int)])), rfl, by omega, h⟩)
      simp only [F55_S2]
      (try simp -implicitDefEqProofs (disch := omega) only [go_sem, ↓reduceIte])
      exact leS_refl _
end Go.Proofs.YtaiapalhdejngaaX

set_option linter.unusedVariables false
set_option linter.unusedSimpArgs false
namespace Go.Proofs.YtaiapalhdejngaaX
open Go Go.RowKit Go.Proofs
set_option maxRecDepth 100000
attribute [local go_sem ↓] stepsK_build stepsK_bs appendS
attribute [local go_sem] String.reduceEq String.reduceNe reduceCtorEq Int.reduceEq Nat.reduceAdd Nat.reduceSub Nat.reduceMul Nat.reduceLT Nat.reduceLeDiff Nat.reduceEqDiff Nat.reduceBEq Int.reduceToNat Int.reduceLT Int.reduceLE Int.reduceGT Int.reduceGE Int.reduceAdd Int.reduceSub Int.reduceMul Int.reduceNeg Int.reduceBEq Int.reduceBNe Int.reducePow Int.reduceDiv Int.reduceMod Int.reduceTDiv Int.reduceTMod Int.reduceNatCast
/-! ### etag.Parts -/
def F19_S1 (a0 : List (List UInt8)) (x3 : Int) (x4 : List (Int)) : St := ⟨[.sl 1 false (List.map eS a0), .junk, .junk, .junk, .ref 0 0 0 0, .fn 53 [.ref 0 0 0 0], .junk, .junk, .junk, .junk, .junk, .junk, .junk, .junk, .junk, .junk, .junk, .sl 1 false (List.map eS a0), .imm (.int .i64 (a0.length : Int)), .imm (.int .i64 x3), .junk, .junk, .junk, .junk, .junk, .junk, .junk, .junk, .junk, .junk, .junk, .junk, .junk, .junk, .junk], [some (.box 52 (.rsl 1 1 0 x4.length) false), some (.buf 5 1 (List.map byteT x4) 0)]⟩
def F19_L1 : Nat → (List (List UInt8)) → (Int) → (List (Int)) → Option ((List UInt8) × (Bool))
 | 0, _, _, _ => none
 | m1 + 1, a0, x3, x4 => iteB (decide (x3 < (a0.length : Int))) (grd (0 ≤ x3 ∧ x3 < (a0.length : Int)) ((F53 m1 (a0.getD x3.toNat default) x4).bind fun v7 => iteB (!v7.1) (some ([], false)) (F19_L1 m1 a0 (IntKind.wrap .i64 (x3 + (1 : Int))) v7.2))) ((F54 m1 x4).bind fun v9 => grd (v9.length + 1 ≤ 9223372036854775807) ((F55 m1 (a0.length : Int)).bind fun v11 => grd ((v9.length + 1) + v11.length ≤ 9223372036854775807) (some (((v9 ++ ([45] : List UInt8)) ++ v11), true))))
def F19 (n : Nat) (a0 : List (List UInt8)) : Option ((List UInt8) × (Bool)) := iteB ((a0.length : Int) == (0 : Int)) (some ([], false)) (iteB (decide ((10000 : Int) < (a0.length : Int))) (some ([], false)) (F19_L1 n a0 (0 : Int) []))
set_option maxHeartbeats 4000000 in
theorem F19_ok : ∀ (n : Nat) (a0 : List (List UInt8)) (r : (List UInt8) × (Bool)), F19 n a0 = some r → FnC Try.prog 19 [.sl 1 false (List.map eS a0)] (.tup [.imm (.string (bs r.1)), .imm (.bool r.2)])
 | n, a0, r, h => by
  unfold F19 at h
  refine FnC.goX mixed Try.func19 (by kernel_rfl) rfl ?_
  simp only [Try.ntmps19, List.length_cons, List.length_nil, List.replicate, List.cons_append, List.nil_append, Nat.reduceAdd, Nat.reduceSub]
  refine runX_seq ?_
  refine runX_regionC fun C hC => ?_
  try simp -implicitDefEqProofs (disch := omega) only [go_sem, ↓reduceIte]
  refine toEnd hC ?_
  refine endX_seq ?_
  refine runX_seq ?_
  refine runX_seq ?_
  refine runX_regionC fun C hC => ?_
  try simp -implicitDefEqProofs (disch := omega) only [go_sem, ↓reduceIte]
  rcases iteB_some h with ⟨c1, h⟩ | ⟨c1, h⟩
  ·refine guardK_F c1 ?_
   try simp -implicitDefEqProofs (disch := omega) only [go_sem, ↓reduceIte]
   refine toEnd hC ?_
   refine endX_seq ?_
   refine runX_condT rfl rfl ?_
   refine runX_seq ?_
   refine runX_regionC fun C hC => ?_
   try simp -implicitDefEqProofs (disch := omega) only [go_sem, ↓reduceIte]
   refine toEnd hC ?_
   refine endX_seq ?_
   refine runX_ret ?_
   refine endX_seqR ?_
   refine endX_q ?_
   obtain rfl := Option.some.inj h
   show RetW _ _ _ _ _
   simp only [RetW]
   (try simp -implicitDefEqProofs (disch := omega) only [go_sem, ↓reduceIte])
   (try simp (disch := omega) only [if_pos, Nat.sub_zero])
   exact leT_refl _
  ·refine guardK_T c1 ?_
   try simp -implicitDefEqProofs (disch := omega) only [go_sem, ↓reduceIte]
   refine toEnd hC ?_
   refine endX_seq ?_
   rcases iteB_some h with ⟨c2, h⟩ | ⟨c2, h⟩
   ·refine runX_condT rfl c2 ?_
    refine runX_seq ?_
    refine runX_regionC fun C hC => ?_
    try simp -implicitDefEqProofs (disch := omega) only [go_sem, ↓reduceIte]
    refine toEnd hC ?_
    refine endX_seq ?_
    refine runX_ret ?_
    refine endX_seqR ?_
    refine endX_q ?_
    obtain rfl := Option.some.inj h
    show RetW _ _ _ _ _
    simp only [RetW]
    (try simp -implicitDefEqProofs (disch := omega) only [go_sem, ↓reduceIte])
    (try simp (disch := omega) only [if_pos, Nat.sub_zero])
    exact leT_refl _
   ·refine runX_condF rfl c2 ?_
    refine runX_skip ?_
    refine endX_seq ?_
    refine runX_seq ?_
    refine runX_regionC fun C hC => ?_
    try simp -implicitDefEqProofs (disch := omega) only [go_sem, ↓reduceIte]
    refine toEnd hC ?_
    refine endX_seq ?_
    refine runX_seq ?_
    refine runX_regionC fun C hC => ?_
    try simp -implicitDefEqProofs (disch := omega) only [go_sem, ↓reduceIte]
    refine toEnd hC ?_
    refine endX_seq ?_
    refine runX_seq ?_
    refine runX_seq ?_
    refine runX_regionC fun C hC => ?_
    try simp -implicitDefEqProofs (disch := omega) only [go_sem, ↓reduceIte]
    refine toEnd hC ?_
    refine endX_seq ?_
    refine runX_block ?_
    refine runX_loop [0, 4, 5, 17, 18, 19] (fun m S => ∃ (x3 : Int) (x4 : List (Int)), S = F19_S1 a0 x3 x4 ∧ m ≤ n ∧ F19_L1 m a0 x3 x4 = some r) n ⟨F19_S1 a0 (0 : Int) [], ?_, (0 : Int), [], rfl, Nat.le_refl _, h⟩ ?_
    ·(try simp -implicitDefEqProofs (disch := omega) only [go_sem, ↓reduceIte])
     simp only [F19_S1]
     refine leS_trans (leS_pad _ _ 1) ?_
     simp only [List.replicate, List.cons_append, List.nil_append]
     refine leS_virt 1 5 1 rfl ?_ ?_ rfl
     ·repeat (first | exact leL_refl _ | refine leL_cons (by first | exact leT_refl _ | exact leT_virt | exact leT_junk _ | exact leT_sl | exact leT_sln | exact leT_nil | (refine leT_agg (by repeat (first | exact leL_refl _ | refine leL_cons (by first | exact leT_refl _ | exact leT_sl | exact leT_sln | exact leT_nil) ?_)))) ?_)
     ·repeat (first | exact leOs_refl _ | refine leOs.cons (by first | exact leO.same _ | (refine leO.box (leT_agg (by repeat (first | exact leL_refl _ | refine leL_cons (by first | exact leT_refl _ | exact leT_virt | exact leT_junk _ | exact leT_sl | exact leT_sln | exact leT_nil | (refine leT_agg (by repeat (first | exact leL_refl _ | refine leL_cons (by first | exact leT_refl _ | exact leT_sl | exact leT_sln | exact leT_nil) ?_)))) ?_))) rfl) | (refine leO.box (by first | exact leT_virt | exact leT_sl | exact leT_sln) rfl)) ?_)
    ·clear h
     rintro m1 S ⟨x3, x4, rfl, hm1, h⟩
     cases m1 with
     | zero => first | cases (show (none : Option _) = some _ from h) | (rw [F19_L1] at h; cases h)
     | succ m1 =>
      rw [F19_L1] at h
      simp only [F19_S1]
      refine runX_seq ?_
      refine runX_regionC fun C hC => ?_
      try simp -implicitDefEqProofs (disch := omega) only [go_sem, ↓reduceIte]
      refine toEnd hC ?_
      refine endX_seq ?_
      refine runX_seq ?_
      rcases iteB_some h with ⟨c5, h⟩ | ⟨c5, h⟩
      ·refine runX_condT rfl c5 ?_
       refine runX_skip ?_
       refine endX_seq ?_
       refine runX_seq ?_
       refine runX_block ?_
       refine runX_seq ?_
       refine runX_regionC fun C hC => ?_
       obtain ⟨g6, h⟩ := grd_some h
       try simp -implicitDefEqProofs (maxSteps := 4000000) (disch := first | omega | decide | (simp only [go_sem]; omega)) only [go_sem, ↓reduceIte]
       repeat (with_reducible refine And.intro (by first | assumption | omega | (simp; done) | (simp; omega)) ?_)
       refine toEnd hC ?_
       refine endX_seq ?_
       refine runX_seq ?_
       refine runX_regionC fun C hC => ?_
       obtain ⟨v7, h7, h⟩ := bnd_some h
       try simp -implicitDefEqProofs (disch := omega) only [go_sem, ↓reduceIte]
       refine callR_X [0, 1] (F53_ok m1 (a0.getD x3.toNat default) x4 _ h7) (by decide) (by (try simp -implicitDefEqProofs (disch := omega) only [go_sem, ↓reduceIte]); repeat (first | exact trivial | refine And.intro ?_ ?_ | exact fun _ => trivial | exact fun _ _ => trivial | exact fun _ _ h => h | rfl | decide)) (by (try simp -implicitDefEqProofs (maxSteps := 4000000) (disch := first | omega | decide | (simp only [go_sem]; omega)) only [go_sem, ↓reduceIte]); repeat (first | exact leL_refl _ | refine leL_cons (by first | exact leT_refl _ | exact leT_virt | exact leT_junk _ | exact leT_sl | exact leT_sln | exact leT_nil | (refine leT_agg (by repeat (first | exact leL_refl _ | refine leL_cons (by first | exact leT_refl _ | exact leT_sl | exact leT_sln | exact leT_nil) ?_)))) ?_)) ?_
       try simp -implicitDefEqProofs (disch := omega) only [go_sem, ↓reduceIte]
       refine toEnd hC ?_
       refine endX_seq ?_
       rcases iteB_some h with ⟨c8, h⟩ | ⟨c8, h⟩
       ·refine runX_condT rfl c8 ?_
        refine runX_seq ?_
        refine runX_regionC fun C hC => ?_
        try simp -implicitDefEqProofs (disch := omega) only [go_sem, ↓reduceIte]
        refine toEnd hC ?_
        refine endX_seq ?_
        refine runX_ret ?_
        refine endX_blkR ?_
        refine endX_seqR ?_
        refine endX_q (roundQ_ret ?_)
        refine endX_blkR ?_
        refine endX_seqR ?_
        refine endX_q ?_
        obtain rfl := Option.some.inj h
        show RetW _ _ _ _ _
        simp only [RetW]
        (try simp -implicitDefEqProofs (disch := omega) only [go_sem, ↓reduceIte])
        (try simp (disch := omega) only [if_pos, Nat.sub_zero])
        exact leT_refl _
       ·refine runX_condF rfl c8 ?_
        refine runX_skip ?_
        refine endX_blk ?_
        refine endX_seq ?_
        refine runX_regionC fun C hC => ?_
        try simp -implicitDefEqProofs (disch := omega) only [go_sem, ↓reduceIte]
        refine toEnd hC ?_
        refine endX_q (roundQ_normal ⟨m1, by omega, F19_S1 a0 (IntKind.wrap .i64 (x3 + (1 : Int))) v7.2, ?_, (IntKind.wrap .i64 (x3 + (1 : Int))), v7.2, rfl, by omega, h⟩)
        simp only [F19_S1]
        (try simp -implicitDefEqProofs (maxSteps := 4000000) (disch := first | omega | decide | (simp only [go_sem]; omega)) only [go_sem, ↓reduceIte])
        first | exact leS_refl _ | (refine leS_le ?_ ?_ <;> first | exact leL_refl _ | exact leOs_refl _ | (simp only [List.append_assoc, List.cons_append, List.nil_append]; exact leOs_refl _) | (repeat (first | exact leL_refl _ | refine leL_cons (by first | exact leT_refl _ | exact leT_virt | exact leT_junk _ | exact leT_sl | exact leT_sln | exact leT_nil | (refine leT_agg (by repeat (first | exact leL_refl _ | refine leL_cons (by first | exact leT_refl _ | exact leT_sl | exact leT_sln | exact leT_nil) ?_)))) ?_)))
      ·refine runX_condF rfl c5 ?_
       refine runX_exit ?_
       refine endX_seqE ?_
       refine endX_q (roundQ_exit ?_)
       refine endX_blkE ?_
       refine endX_seq ?_
       refine runX_seq ?_
       refine runX_regionC fun C hC => ?_
       obtain ⟨v9, h9, h⟩ := bnd_some h
       try simp -implicitDefEqProofs (maxSteps := 4000000) (disch := first | omega | decide | (simp only [go_sem]; omega)) only [go_sem, ↓reduceIte]
       repeat (with_reducible refine And.intro (by first | assumption | omega | (simp; done) | (simp; omega)) ?_)
       refine callG_X (by first | rfl | (simp only [go_sem]; done) | (simp only [closedL, closedT, Bool.and_true]; exact closedL_map _ (fun _ => by first | rfl | (simp only [go_sem]; done)) _)) (F54_ok m1 x4 _ h9) (by repeat (first | exact leL_refl _ | refine leL_cons (by first | exact leT_refl _ | exact leT_virt | exact leT_junk _ | exact leT_sl | exact leT_sln | exact leT_nil | (refine leT_agg (by repeat (first | exact leL_refl _ | refine leL_cons (by first | exact leT_refl _ | exact leT_sl | exact leT_sln | exact leT_nil) ?_)))) ?_)) ?_
       obtain ⟨g10, h⟩ := grd_some h
       obtain ⟨v11, h11, h⟩ := bnd_some h
       try simp -implicitDefEqProofs (maxSteps := 4000000) (disch := first | omega | decide | (simp only [go_sem]; omega)) only [go_sem, ↓reduceIte]
       repeat (with_reducible refine And.intro (by first | assumption | omega | (simp; done) | (simp; omega)) ?_)
       refine callG_X (by first | rfl | (simp only [go_sem]; done) | (simp only [closedL, closedT, Bool.and_true]; exact closedL_map _ (fun _ => by first | rfl | (simp only [go_sem]; done)) _)) (F55_ok m1 (a0.length : Int) _ h11) (by repeat (first | exact leL_refl _ | refine leL_cons (by first | exact leT_refl _ | exact leT_virt | exact leT_junk _ | exact leT_sl | exact leT_sln | exact leT_nil | (refine leT_agg (by repeat (first | exact leL_refl _ | refine leL_cons (by first | exact leT_refl _ | exact leT_sl | exact leT_sln | exact leT_nil) ?_)))) ?_)) ?_
       obtain ⟨g12, h⟩ := grd_some h
       try simp -implicitDefEqProofs (maxSteps := 4000000) (disch := first | omega | decide | (simp only [go_sem]; omega)) only [go_sem, ↓reduceIte]
       repeat (with_reducible refine And.intro (by first | assumption | omega | (simp; done) | (simp; omega)) ?_)
       refine toEnd hC ?_
       refine endX_seq ?_
       refine runX_ret ?_
       refine endX_q ?_
       obtain rfl := Option.some.inj h
       show RetW _ _ _ _ _
       simp only [RetW]
       (try simp -implicitDefEqProofs (disch := omega) only [go_sem, ↓reduceIte])
       (try simp (disch := omega) only [if_pos, Nat.sub_zero])
       exact leT_refl _
end Go.Proofs.YtaiapalhdejngaaX

set_option linter.unusedVariables false
set_option linter.unusedSimpArgs false
namespace Go.Proofs.YtaiapalhdejngaaX
open Go Go.RowKit Go.Proofs
set_option maxRecDepth 100000
attribute [local go_sem ↓] stepsK_build stepsK_bs appendS
attribute [local go_sem] String.reduceEq String.reduceNe reduceCtorEq Int.reduceEq Nat.reduceAdd Nat.reduceSub Nat.reduceMul Nat.reduceLT Nat.reduceLeDiff Nat.reduceEqDiff Nat.reduceBEq Int.reduceToNat Int.reduceLT Int.reduceLE Int.reduceGT Int.reduceGE Int.reduceAdd Int.reduceSub Int.reduceMul Int.reduceNeg Int.reduceBEq Int.reduceBNe Int.reducePow Int.reduceDiv Int.reduceMod Int.reduceTDiv Int.reduceTMod Int.reduceNatCast
/-! ### etag.Plain -/
def F39 (n : Nat) (a0 : List (Int)) : Option (List UInt8) := (F54 n a0).bind fun v1 => some v1
set_option maxHeartbeats 4000000 in
theorem F39_ok : ∀ (n : Nat) (a0 : List (Int)) (r : List UInt8), F39 n a0 = some r → FnC Try.prog 39 [.sl 1 false (List.map byteT a0)] (.imm (.string (bs r)))
 | n, a0, r, h => by
  unfold F39 at h
  refine FnC.goX mixed Try.func39 (by kernel_rfl) rfl ?_
  simp only [Try.ntmps39, List.length_cons, List.length_nil, List.replicate, List.cons_append, List.nil_append, Nat.reduceAdd, Nat.reduceSub]
  refine runX_seq ?_
  refine runX_regionC fun C hC => ?_
  try simp -implicitDefEqProofs (maxSteps := 4000000) (disch := first | omega | decide | (simp only [go_sem]; omega)) only [go_sem, ↓reduceIte]
  repeat (with_reducible refine And.intro (by first | assumption | omega | (simp; done) | (simp; omega)) ?_)
  refine toEnd hC ?_
  refine endX_seq ?_
  refine runX_seq ?_
  refine runX_regionC fun C hC => ?_
  obtain ⟨v1, h1, h⟩ := bnd_some h
  try simp -implicitDefEqProofs (maxSteps := 4000000) (disch := first | omega | decide | (simp only [go_sem]; omega)) only [go_sem, ↓reduceIte]
  repeat (with_reducible refine And.intro (by first | assumption | omega | (simp; done) | (simp; omega)) ?_)
  refine callG_X (by first | rfl | (simp only [go_sem]; done) | (simp only [closedL, closedT, Bool.and_true]; exact closedL_map _ (fun _ => by first | rfl | (simp only [go_sem]; done)) _)) (F54_ok n a0 _ h1) (by repeat (first | exact leL_refl _ | refine leL_cons (by first | exact leT_refl _ | exact leT_virt | exact leT_junk _ | exact leT_sl | exact leT_sln | exact leT_nil | (refine leT_agg (by repeat (first | exact leL_refl _ | refine leL_cons (by first | exact leT_refl _ | exact leT_sl | exact leT_sln | exact leT_nil) ?_)))) ?_)) ?_
  try simp -implicitDefEqProofs (maxSteps := 4000000) (disch := first | omega | decide | (simp only [go_sem]; omega)) only [go_sem, ↓reduceIte]
  repeat (with_reducible refine And.intro (by first | assumption | omega | (simp; done) | (simp; omega)) ?_)
  refine toEnd hC ?_
  refine endX_seq ?_
  refine runX_ret ?_
  refine endX_q ?_
  obtain rfl := Option.some.inj h
  show RetW _ _ _ _ _
  simp only [RetW]
  (try simp -implicitDefEqProofs (maxSteps := 4000000) (disch := first | omega | decide | (simp only [go_sem]; omega)) only [go_sem, ↓reduceIte])
  (try simp (disch := omega) only [if_pos, Nat.sub_zero])
  exact leT_refl _
end Go.Proofs.YtaiapalhdejngaaX

set_option linter.unusedVariables false
set_option linter.unusedSimpArgs false
namespace Go.Proofs.YtaiapalhdejngaaX
open Go Go.RowKit Go.Proofs
set_option maxRecDepth 100000
/-! ### internal/stringslite.IndexByte: by hand (a function without a body stands below it) -/
def F113 (n : Nat) (a0 : List UInt8) (a1 : Int) : Option Int := some (Lib.indexByte a0 a1.toNat.toUInt8)
set_option maxHeartbeats 1000000 in
theorem indexByte_calls (a0 : List UInt8) (a1 : Int) (w : World) :
  Calls Try.prog 113 #[.string (bs a0), .int .u8 a1] w fun e w' => e = .returned (.int .i64 (Lib.indexByte a0 a1.toNat.toUInt8)) ∧ Below w.heap.size w w' := by
 go_enter Try.func113, Try.ntmps113
 go_wp2
 rw [run_callFunc_extern Try.func119 (by kernel_rfl) (by kernel_rfl) (by kernel_rfl) (e := Extern.BytealgIndexByte.indexByte) (by kernel_rfl), Lib.run_indexByteString]
 simp only [Result.andThen]
 rw [Oper.upon_value]
 go_wp2
 go_ret
 exact ⟨rfl, Below.refl _ _⟩
theorem F113_ok (n : Nat) (a0 : List UInt8) (a1 : Int) (r : Int) (h : F113 n a0 a1 = some r) : FnC Try.prog 113 [.imm (.string (bs a0)), .imm (.int .u8 a1)] (.imm (.int .i64 r)) := by
 obtain rfl := Option.some.inj h
 refine ⟨⟨Try.f113, Try.func113, by kernel_rfl, rfl⟩, fun w ban vs hban hv => ?_⟩
 have e : vs = #[.string (bs a0), .int .u8 a1] := by
  obtain ⟨l⟩ := vs
  simp only [RepL, Rep] at hv
  obtain ⟨u, us, h1, h2, v, vs', h3, h4, h5⟩ := hv
  simp_all
 rw [e]
 refine (indexByte_calls a0 a1 w).mono ?_
 rintro e w' ⟨rfl, hb⟩
 exact ⟨_, rfl, hb, by simp only [Rep]; exact ⟨trivial, rfl⟩⟩
end Go.Proofs.YtaiapalhdejngaaX
