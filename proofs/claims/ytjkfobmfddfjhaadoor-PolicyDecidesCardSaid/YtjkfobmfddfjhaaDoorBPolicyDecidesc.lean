/- Part of the proof of PolicyDecides: walks and plain words, merged. -/
import Derived.Test.YtjkfobmfddfjhaaDoorBPolicyDecidesb
set_option linter.unusedVariables false
set_option linter.unusedSimpArgs false

/- The laws that a run goes by. -/
namespace Go.Proofs.YtjkfobmfddfjhaaDoorX
open Go Go.RowKit Go.Proofs
attribute [go_sem ↓] stepsK_call drawK_call opW binXW eqW eqFs eqEs binV intW strW fieldW indexW extractW unW loadW loadP fieldAddrW indexAddrW endsW sliceW buildSliceW makeW convertW storeW newsW appendW elemsW nilW lenW min2W max2W builtinW ifaceW partW boolW_true boolW_false getD_j16 set_j16 rootsP
attribute [go_sem] endK_q endK_seq endK_seq_exit endK_seq_ret endK_blk endK_blk_ret endK_blk_exit roundsK_succ endK_lp endK_lp_exit endK_lp_ret runK_skip runK_exit runK_ret runK_seq runK_block runK_region runK_draw stepsK_nil callK callE stepsK_cons drawK_nil drawK_cons rootsK_nil rootsK_cons loopQ_normal loopQ_exit loopQ_ret loopC_normal loopC_exit loopC_ret loopK_normal loopK_exit loopK_ret St.keep keepL St.gc gcW deadK reachL refsT refsL refsO dropL Int.toNat_natCast St.cut List.range'_zero List.range'_succ lookS_at liteL dstsL gL St.is evalT ofVal ofVals St.after St.put St.upd
attribute [go_sem] St.eff quietE eOp effB trims trim setCells fillT fillE patchT isJunk leafT T.cells oneT RetQ resW retT St.lockAll Own.lockAll dsnap dsnapL snap closedT closedL rootsOf rootsO rootsA rootOf St.frzT St.frzL St.frz kill killL Own.kill aggD List.getD_cons_zero List.getD_cons_succ List.getD_nil List.set_cons_zero List.set_cons_succ List.set_nil List.flatMap_cons List.flatMap_nil List.append_nil List.nil_append List.cons_append List.map_cons List.map_nil List.filterMap_cons List.filterMap_nil List.find?_cons List.find?_nil List.getElem?_cons_zero List.getElem?_cons_succ List.getElem?_nil List.length_cons List.length_nil List.replicate List.contains_cons List.contains_nil
attribute [go_sem] List.take_zero List.drop_zero List.take_succ_cons List.drop_succ_cons List.all_cons List.all_nil List.size_toArray List.getElem?_toArray Array.toList_map List.map_toArray Option.some_beq_some Option.none_beq_some Option.some_beq_none Option.map_some Option.map_none Option.bind_some Option.bind_none Option.some.injEq ne_eq not_false_eq_true not_true_eq_false true_and and_true and_false false_and Bool.false_eq_true Bool.true_eq_false forall_const false_imp_iff true_imp_iff imp_self beq_self_eq_true or_true true_or or_false false_or if_true if_false ite_true ite_false Bool.or_true Bool.true_or Bool.and_true Bool.true_and Bool.false_or Bool.or_false Bool.false_and Bool.and_false Bool.not_true Bool.not_false decide_true decide_false Nat.lt_irrefl Nat.le_refl Nat.zero_add Nat.add_zero Nat.zero_mul Nat.mul_one Nat.mul_zero Nat.zero_le
attribute [go_sem] gt_iff_lt ge_iff_le Int.cast_ofNat_Int Option.isNone_some Option.isNone_none Option.isSome_some Option.isSome_none Nat.zero_max Nat.max_zero Nat.max_self List.take_length List.length_append List.length_map
attribute [go_sem] rs0 rs1 rs2 rs3 rs4 rs5 rs6 rs7 rs8 rs9 rs10 rs11 rs12 rs13 rs14 rs15 rs16 rs17 rs18 rs19 rs20 rs21 rs22 rs23 rs24 rs25 rs26 rs27 rs28 rs29 rs30 rs31 rs32 rs33 rs34 rs35 rs36 rs37 rs38 rs39 rs40 rs41 rs42 rs43 rs44 rs45 rs46 rs47 rs48 rs49 rs50 rs51 rs52 rs53 rs54 rs55 rs56 rs57 rs58 rs59
attribute [go_sem] rs60 rs61 rs62 rs63 rs64 rs65 rs66 rs67 rs68 rs69 rs70 rs71 rs72 rs73 rs74 rs75 rs76 rs77 rs78 rs79 rs80 rs81 rs82 rs83 rs84 rs85 rs86 rs87 rs88 rs89 rs90 rs91 rs92 rs93 rs94 rs95 rs96 rs97 rs98 rs99 rs100 rs101 rs102 rs103 rs104 rs105 rs106 rs107 rs108 rs109 rs110 rs111 rs112 rs113 rs114 rs115 rs116 rs117 rs118 rs119
attribute [go_sem] rs120 rs121 rs122 rs123 rs124 rs125 rs126 rs127 rs128 rs129 rs130 rs131 rs132 rs133 rs134 rs135 rs136 rs137 rs138 rs139 rs140 rs141 rs142 rs143 rs144 rs145 rs146 rs147 rs148 rs149 rs150 rs151 rs152 rs153 rs154 rs155 rs156 rs157 rs158 rs159 rs160 rs161 rs162 rs163 rs164 rs165 rs166 rs167 rs168 rs169 rs170 rs171 rs172 rs173 rs174 rs175 rs176 rs177 rs178 rs179
attribute [go_sem] rs180 rs181 rs182 Tryd.underlying0 Tryd.underlying1 Tryd.underlying2 sz2 cz2 ok2 ze2 by2 Tryd.underlying3 sz3 cz3 ok3 ze3 by3 Tryd.underlying4 sz4 cz4 ok4 ze4 by4 ni4 Tryd.underlying5 sz5 cz5 ok5 ze5 by5 Tryd.underlying6 sz6 cz6 ok6 ze6 by6 Tryd.underlying7 sz7 cz7 ok7 ze7 by7 ni7 Tryd.underlying8 sz8 cz8 ok8 ze8 by8 ni8 Tryd.underlying9 sz9 cz9 ok9 ze9 by9 ni9 Tryd.underlying10 sz10 cz10
attribute [go_sem] ok10 ze10 by10 ni10 Tryd.underlying11 sz11 cz11 ok11 ze11 by11 ni11 Tryd.underlying12 sz12 cz12 ok12 ze12 by12 Tryd.underlying13 sz13 cz13 ok13 ze13 by13 ni13 Tryd.underlying14 sz14 cz14 ok14 ze14 by14 ni14 Tryd.underlying15 sz15 cz15 ok15 ze15 by15 ni15 Tryd.underlying16 sz16 cz16 ok16 ze16 by16 ni16 Tryd.underlying17 sz17 cz17 ok17 ze17 by17 ni17 Tryd.underlying18 sz18 cz18 ok18 ze18 by18 ni18 Tryd.underlying19
attribute [go_sem] sz19 cz19 ok19 ze19 by19 ni19 Tryd.underlying20 sz20 cz20 ok20 ze20 by20 ni20 Tryd.underlying21 sz21 cz21 ok21 ze21 by21 Tryd.underlying22 Tryd.underlying23 Tryd.underlying24 sz24 cz24 ok24 ze24 by24 ni24 Tryd.underlying25 sz25 cz25 ok25 ze25 by25 ni25 eg25 sh25 Tryd.underlying26 Tryd.underlying27 Tryd.underlying28 Tryd.underlying29 sz29 cz29 ok29 ze29 by29 ni29 Tryd.underlying30 Tryd.underlying31 Tryd.underlying32 sz32 cz32 ok32 ze32 by32 ni32 Tryd.underlying33 sz33 cz33 ok33
attribute [go_sem] ze33 by33 ni33 Tryd.underlying34 sz34 cz34 ok34 ze34 by34 ni34 Tryd.underlying35 Tryd.underlying36 Tryd.underlying37 Tryd.underlying38 Tryd.underlying39 Tryd.underlying40 sz40 cz40 ok40 ze40 by40 ni40 Tryd.underlying41 sz41 cz41 ok41 ze41 by41 ni41 Tryd.underlying42 sz42 cz42 ok42 ze42 by42 ni42 Tryd.underlying43 sz43 cz43 ok43 ze43 by43 ni43 Tryd.underlying44 sz44 cz44 ok44 ze44 by44 ni44 Tryd.underlying45 sz45 cz45 ok45 ze45 by45 ni45 Tryd.underlying46 Tryd.underlying47 Tryd.underlying48
attribute [go_sem] sz48 cz48 ok48 ze48 by48 ni48 Tryd.underlying49 Tryd.underlying50 Tryd.underlying51 sz51 cz51 ok51 ze51 by51 ni51 Tryd.underlying52 Tryd.underlying53 sz53 cz53 ok53 ze53 by53 ni53 eg53 sh53 Tryd.underlying54 sz54 cz54 ok54 ze54 by54 ni54 eg54 sh54 Tryd.underlying55 sz55 cz55 ok55 ze55 by55 ni55 eg55 sh55 Tryd.underlying56 sz56 cz56 ok56 ze56 by56 ni56 eg56 sh56 Tryd.underlying57 sz57 cz57 ok57 ze57 by57 ni57 eg57
attribute [go_sem] sh57 Tryd.underlying58 sz58 cz58 ok58 ze58 by58 ni58 eg58 sh58 Tryd.underlying59 Tryd.underlying60 sz60 cz60 ok60 ze60 by60 ni60 Tryd.underlying61 Tryd.underlying62 sz62 cz62 ok62 ze62 by62 Tryd.underlying63 Tryd.underlying64 Tryd.underlying65 Tryd.underlying66 Tryd.underlying67 Tryd.underlying68 Tryd.underlying69 Tryd.underlying70 sz70 cz70 ok70 ze70 by70 ni70 Tryd.underlying71 sz71 cz71 ok71 ze71 by71 ni71 Tryd.underlying72 sz72 cz72 ok72 ze72 by72 ni72 Tryd.underlying73 Tryd.underlying74 Tryd.underlying75 sz75 cz75 ok75 ze75
attribute [go_sem] by75 ni75 Tryd.underlying76 Tryd.underlying77 sz77 cz77 ok77 ze77 by77 ni77 Tryd.underlying78 sz78 cz78 ok78 ze78 by78 ni78 Tryd.underlying79 sz79 cz79 ok79 ze79 by79 ni79 Tryd.underlying80 sz80 cz80 ok80 ze80 by80 ni80 eg80 sh80 Tryd.underlying81 sz81 cz81 ok81 ze81 by81 ni81 eg81 sh81 Tryd.underlying82 Tryd.underlying83 Tryd.underlying84 Tryd.underlying85 sz85 cz85 ok85 ze85 by85 ni85 Tryd.underlying86 sz86 cz86 ok86 ze86 by86 ni86 Tryd.underlying87
attribute [go_sem] sz87 cz87 ok87 ze87 by87 ni87 Tryd.underlying88 sz88 cz88 ok88 ze88 by88 ni88 Tryd.underlying89 sz89 cz89 ok89 ze89 by89 ni89 Tryd.underlying90 Tryd.underlying91 Tryd.underlying92 Tryd.underlying93 Tryd.underlying94 Tryd.underlying95 sz95 cz95 ok95 ze95 by95 ni95 eg95 sh95 Tryd.underlying96 sz96 cz96 ok96 ze96 by96 ni96 eg96 sh96 Tryd.underlying97 Tryd.underlying98 Tryd.underlying99 Tryd.underlying100 Tryd.underlying101 Tryd.underlying102 Tryd.underlying103 Tryd.underlying104 Tryd.underlying105 sz105 cz105 ok105 ze105 by105 ni105 Tryd.underlying106 Tryd.underlying107
attribute [go_sem] Tryd.underlying108 Tryd.underlying109 Tryd.underlying110 Tryd.underlying111 Tryd.underlying112 Tryd.underlying113 Tryd.underlying114 Tryd.underlying115 Tryd.underlying116 Tryd.underlying117 Tryd.underlying118 Tryd.underlying119 Tryd.underlying120 sz120 cz120 ok120 by120 ni120 eg120 sh120 Tryd.underlying121 sz121 cz121 ok121 by121 ni121 eg121 sh121 Tryd.underlying122 Tryd.underlying123 Tryd.underlying124 Tryd.underlying125 sz125 cz125 ok125 ze125 by125 ni125 Tryd.underlying126 Tryd.underlying127 Tryd.underlying128 Tryd.underlying129 Tryd.underlying130 Tryd.underlying131 Tryd.underlying132 Tryd.underlying133 sz133 cz133 ok133 ze133 by133 Tryd.underlying134 sz134 cz134 ok134 ze134 by134 ni134 Tryd.underlying135 Tryd.underlying136
attribute [go_sem] Tryd.underlying137 Tryd.underlying138 Tryd.underlying139 Tryd.underlying140 Tryd.underlying141 Tryd.underlying142 Tryd.underlying143 Tryd.underlying144 Tryd.underlying145 Tryd.underlying146 Tryd.underlying147 Tryd.underlying148 Tryd.underlying149 Tryd.underlying150 Tryd.underlying151 Tryd.underlying152 Tryd.underlying153 Tryd.underlying154 Tryd.underlying155 Tryd.underlying156 Tryd.underlying157 Tryd.underlying158 Tryd.underlying159 Tryd.underlying160 Tryd.underlying161 Tryd.underlying162 Tryd.underlying163 Tryd.underlying164 sz164 cz164 ok164 ze164 by164 ni164 Tryd.underlying165 Tryd.underlying166 Tryd.underlying167 Tryd.underlying168 Tryd.underlying169 sz169 cz169 ok169 ze169 by169 Tryd.underlying170 Tryd.underlying171 sz171 cz171 ok171 ze171 by171 ni171 eg171 sh171 Tryd.underlying172 Tryd.underlying173 Tryd.underlying174 Tryd.underlying175 Tryd.underlying176 Tryd.underlying177
attribute [go_sem] Tryd.underlying178 sz178 cz178 ok178 by178 ni178 eg178 sh178 Tryd.underlying179 sz179 cz179 ok179 ze179 by179 ni179 eg179 sh179 Tryd.underlying180 sz180 cz180 ok180 ze180 by180 ni180 eg180 sh180 Tryd.underlying181 sz181 cz181 ok181 ze181 by181 ni181 eg181 sh181 Tryd.underlying182 Tryd.underlying183 Tryd.underlying184 sz184 cz184 ok184 ze184 by184 Tryd.underlying185 Tryd.underlying186 Tryd.underlying187 sz187 cz187 ok187 ze187 by187 ni187 Tryd.underlying188 sz188 cz188 ok188 ze188 by188 ni188 Tryd.underlying189
attribute [go_sem] sz189 cz189 ok189 ze189 by189 ni189 Tryd.underlying190 sz190 cz190 ok190 ze190 by190 ni190 Tryd.underlying191 sz191 cz191 ok191 ze191 by191 ni191 Tryd.underlying192 Tryd.underlying193 sz193 cz193 ok193 ze193 by193 Tryd.underlying194 sz194 cz194 ok194 ze194 by194 Tryd.underlying195 Tryd.underlying196 sz196 cz196 ok196 ze196 by196 Tryd.underlying197 sz197 cz197 ok197 ze197 by197 Tryd.underlying198 sz198 cz198 ok198 ze198 by198 ni198 Tryd.underlying199 sz199 cz199 ok199 ze199 by199 ni199
end Go.Proofs.YtjkfobmfddfjhaaDoorX

/- Words for what functions answer. -/
set_option linter.unusedVariables false
namespace Go.Proofs.YtjkfobmfddfjhaaDoorX
open Go Go.RowKit Go.Proofs
abbrev i32 (n : Int) : T := .imm (.int .i32 n)
abbrev i64 (n : Int) : T := .imm (.int .i64 n)
abbrev u8 (n : Int) : T := .imm (.int .u8 n)
abbrev u32 (n : Int) : T := .imm (.int .u32 n)
abbrev u64 (n : Int) : T := .imm (.int .u64 n)
abbrev tb (b : Bool) : T := .imm (.bool b)
abbrev ts (s : ByteArray) : T := .imm (.string s)
theorem tb_eq {a b : Bool} (h : a = b) : T.imm (.bool a) = .imm (.bool b) := by rw [h]
theorem tb_iff {p : Prop} [Decidable p] {b : Bool} (h : b = true ↔ p) : T.imm (.bool b) = .imm (.bool (decide p)) := by
  refine tb_eq ?_
  cases b with
  | true => exact (decide_eq_true (h.1 rfl)).symm
  | false => exact (decide_eq_false fun hp => Bool.noConfusion (h.2 hp)).symm
theorem imm_eq {k : IntKind} {a b : Int} (h : a = b) : T.imm (.int k a) = .imm (.int k b) := by rw [h]
theorem str_eq {a b : ByteArray} (h : a = b) : T.imm (.string a) = .imm (.string b) := by rw [h]
theorem sl_eq {sz : Nat} {f : Bool} {a b : List T} (h : a = b) : T.sl sz f a = .sl sz f b := by rw [h]
theorem boolW_mk {b : Bool} {A B : Prop} (h1 : b = true → A) (h2 : b = false → B) : boolW b A B := ⟨h1, h2⟩
theorem boolD_mk {p : Prop} [Decidable p] {A B : Prop} (h1 : p → A) (h2 : ¬ p → B) : boolW (decide p) A B := ⟨fun h => h1 (of_decide_eq_true h), fun h => h2 (of_decide_eq_false h)⟩
theorem wf_of {k : IntKind} {n : Int} (h : (Lit.int k n).wf = true) : k.min ≤ n ∧ n ≤ k.max := by
  simpa [Lit.wf] using h
theorem wf_i32 {n : Int} (h : (Lit.int .i32 n).wf = true) : -2147483648 ≤ n ∧ n ≤ 2147483647 := wf_of h
theorem wf_i64 {n : Int} (h : (Lit.int .i64 n).wf = true) : -9223372036854775808 ≤ n ∧ n ≤ 9223372036854775807 := wf_of h
theorem wf_u8 {n : Int} (h : (Lit.int .u8 n).wf = true) : 0 ≤ n ∧ n ≤ 255 := wf_of h
theorem wf_u32 {n : Int} (h : (Lit.int .u32 n).wf = true) : 0 ≤ n ∧ n ≤ 4294967295 := wf_of h
theorem wf_u64 {n : Int} (h : (Lit.int .u64 n).wf = true) : 0 ≤ n ∧ n ≤ 18446744073709551615 := wf_of h
end Go.Proofs.YtjkfobmfddfjhaaDoorX

/- Bits of numbers that are not below zero. -/
set_option linter.unusedVariables false
namespace Go.Proofs.YtjkfobmfddfjhaaDoorX
open Go Go.RowKit Go.Proofs
theorem ofInt_nat (w : Nat) (n : Nat) (h : n < 2 ^ w) : (BitVec.ofInt w (n : Int)).toNat = n := by
  rw [BitVec.ofInt_natCast, BitVec.toNat_ofNat, Nat.mod_eq_of_lt h]
theorem or_low (i a b : Nat) (ha : a % 2 ^ i = 0) (hb : b < 2 ^ i) : a ||| b = a + b := by
  obtain ⟨q, rfl⟩ : ∃ q, a = 2 ^ i * q := ⟨a / 2 ^ i, by have := Nat.div_add_mod a (2 ^ i); omega⟩
  exact (Nat.two_pow_add_eq_or_of_lt hb q).symm
/-- Bits beside others are a sum. -/
theorem or_add (w i : Nat) (x y : Int) (hx : 0 ≤ x) (hxw : x < 2 ^ w) (hd : x % 2 ^ i = 0) (hy : 0 ≤ y) (hyi : y < 2 ^ i) (hiw : i ≤ w) : ((BitVec.ofInt w x ||| BitVec.ofInt w y).toNat : Int) = x + y := by
  obtain ⟨a, rfl⟩ := Int.eq_ofNat_of_zero_le hx
  obtain ⟨b, rfl⟩ := Int.eq_ofNat_of_zero_le hy
  have e : ((2 : Int) ^ i) = ((2 ^ i : Nat) : Int) := by simp
  have e' : ((2 : Int) ^ w) = ((2 ^ w : Nat) : Int) := by simp
  rw [e] at hd hyi
  rw [e'] at hxw
  have hle : 2 ^ i ≤ 2 ^ w := Nat.pow_le_pow_right (by omega) hiw
  rw [BitVec.toNat_or, ofInt_nat w a (by omega), ofInt_nat w b (by omega), or_low i a b (by omega) (by omega)]
  omega
theorem and_low (w i : Nat) (x : Int) (hx : 0 ≤ x) (hxw : x < 2 ^ w) (hiw : i ≤ w) (m : Int) (hm : m = 2 ^ i - 1) : ((BitVec.ofInt w x &&& BitVec.ofInt w m).toNat : Int) = x % 2 ^ i := by
  obtain ⟨a, rfl⟩ := Int.eq_ofNat_of_zero_le hx
  have e : ((2 : Int) ^ i) = ((2 ^ i : Nat) : Int) := by simp
  have e' : ((2 : Int) ^ w) = ((2 ^ w : Nat) : Int) := by simp
  rw [e'] at hxw
  have hle : 2 ^ i ≤ 2 ^ w := Nat.pow_le_pow_right (by omega) hiw
  have hp : 0 < 2 ^ i := Nat.two_pow_pos i
  have hm' : m = ((2 ^ i - 1 : Nat) : Int) := by omega
  subst hm'
  rw [BitVec.toNat_and, ofInt_nat w a (by omega), ofInt_nat w _ (by omega), Nat.and_two_pow_sub_one_eq_mod, e]
  omega
theorem bOr_add (k : IntKind) (i : Nat) (x y : Int) (hx : 0 ≤ x) (hxw : x < 2 ^ k.bits) (hd : x % 2 ^ i = 0) (hy : 0 ≤ y) (hyi : y < 2 ^ i) (hiw : i ≤ k.bits) : bOr k x y = x + y := or_add k.bits i x y hx hxw hd hy hyi hiw
theorem bAnd_low (k : IntKind) (i : Nat) (x : Int) (hx : 0 ≤ x) (hxw : x < 2 ^ k.bits) (hiw : i ≤ k.bits) (m : Int) (hm : m = 2 ^ i - 1) : bAnd k x m = x % 2 ^ i := and_low k.bits i x hx hxw hiw m hm
theorem bShr_div (k : IntKind) (x : Int) (n : Nat) (m : Int) (h : (2 : Int) ^ min n k.bits = m) (hm : 0 ≤ m) : bShr k x n = x / m := by unfold bShr; rw [h, Int.fdiv_eq_ediv_of_nonneg _ hm]
end Go.Proofs.YtjkfobmfddfjhaaDoorX

set_option linter.unusedVariables false
set_option linter.unusedSimpArgs false
namespace Go.Proofs.YtjkfobmfddfjhaaDoorX
open Go Go.RowKit Go.Proofs
set_option maxRecDepth 100000
def eT33 (x : (Bool) × (List (List UInt8)) × (List (List UInt8)) × (List (List UInt8))) : T := .agg [.imm (.bool x.1), .sl 1 false (List.map eS x.2.1), .sl 1 false (List.map eS x.2.2.1), .sl 1 false (List.map eS x.2.2.2)]
theorem eT33_def (x : (Bool) × (List (List UInt8)) × (List (List UInt8)) × (List (List UInt8))) : eT33 x = .agg [.imm (.bool x.1), .sl 1 false (List.map eS x.2.1), .sl 1 false (List.map eS x.2.2.1), .sl 1 false (List.map eS x.2.2.2)] := rfl
attribute [go_sem] eT33_def
theorem app_T33 (l : List ((Bool) × (List (List UInt8)) × (List (List UInt8)) × (List (List UInt8)))) (y0 : Bool) (y1 : List (List UInt8)) (y2 : List (List UInt8)) (y3 : List (List UInt8)) (r : List T) : List.map eT33 l ++ (T.agg [.imm (.bool y0), .sl 1 false (List.map eS y1), .sl 1 false (List.map eS y2), .sl 1 false (List.map eS y3)] :: r) = List.map eT33 (l ++ [(y0, y1, y2, y3)]) ++ r := by simp [eT33]
theorem set_T33 (l : List ((Bool) × (List (List UInt8)) × (List (List UInt8)) × (List (List UInt8)))) (i : Nat) (y0 : Bool) (y1 : List (List UInt8)) (y2 : List (List UInt8)) (y3 : List (List UInt8)) : (List.map eT33 l).set i (T.agg [.imm (.bool y0), .sl 1 false (List.map eS y1), .sl 1 false (List.map eS y2), .sl 1 false (List.map eS y3)]) = List.map eT33 (l.set i (y0, y1, y2, y3)) := by rw [List.map_set]; rfl
attribute [go_sem] app_T33 set_T33
end Go.Proofs.YtjkfobmfddfjhaaDoorX

set_option linter.unusedVariables false
set_option linter.unusedSimpArgs false
namespace Go.Proofs.YtjkfobmfddfjhaaDoorX
open Go Go.RowKit Go.Proofs
set_option maxRecDepth 100000
attribute [local go_sem] String.reduceEq String.reduceNe reduceCtorEq Int.reduceEq Nat.reduceAdd Nat.reduceSub Nat.reduceMul Nat.reduceLT Nat.reduceLeDiff Nat.reduceEqDiff Nat.reduceBEq Int.reduceToNat Int.reduceLT Int.reduceLE Int.reduceGT Int.reduceGE Int.reduceAdd Int.reduceSub Int.reduceMul Int.reduceNeg Int.reduceBEq Int.reduceBNe Int.reducePow Int.reduceDiv Int.reduceMod Int.reduceTDiv Int.reduceTMod Int.reduceNatCast
/-! ### strings.trimLeftByte -/
def F64_S1 (a1 : Int) (x1 : List UInt8) : St := ⟨[.imm (.string (bs x1)), .imm (.int .u8 a1), .junk, .junk, .junk, .junk, .junk, .junk, .junk, .junk, .junk, .junk, .junk, .junk, .junk, .junk, .junk], []⟩
def F64_L1 : Nat → (Int) → (List UInt8) → Option (List UInt8)
  | 0, _, _ => none
  | m1 + 1, a1, x1 => iteB (decide ((0 : Int) < (x1.length : Int))) (grd ((0 : Int) < (x1.length : Int)) (iteB (((x1.getD (0 : Int).toNat 0).toNat : Int) == a1) (grd ((1 : Int) ≤ (x1.length : Int)) (F64_L1 m1 a1 (x1.drop 1))) (some x1))) (some x1)
def F64 (n : Nat) (a0 : List UInt8) (a1 : Int) : Option (List UInt8) := F64_L1 n a1 a0
set_option maxHeartbeats 4000000 in
theorem F64_ok : ∀ (n : Nat) (a0 : List UInt8) (a1 : Int) (r : List UInt8), F64 n a0 a1 = some r → FnC Tryd.prog 64 [.imm (.string (bs a0)), .imm (.int .u8 a1)] (.imm (.string (bs r)))
  | n, a0, a1, r, h => by
    unfold F64 at h
    refine FnC.goX mixed Tryd.func64 (by kernel_rfl) rfl ?_
    simp only [Tryd.ntmps64, List.length_cons, List.length_nil, List.replicate, List.cons_append, List.nil_append, Nat.reduceAdd, Nat.reduceSub]
    refine runX_seq ?_
    refine runX_regionC fun C hC => ?_
    try simp -implicitDefEqProofs (maxSteps := 4000000) (disch := first | omega | decide | (simp only [go_sem]; omega)) only [go_sem, ↓reduceIte]
    repeat (with_reducible refine And.intro (by first | assumption | omega | (simp; done) | (simp; omega)) ?_)
    refine toEnd hC ?_
    refine endX_seq ?_
    refine runX_seq ?_
    refine runX_block ?_
    refine runX_loop [0, 1] (fun m S => ∃ (x1 : List UInt8), S = F64_S1 a1 x1 ∧ m ≤ n ∧ F64_L1 m a1 x1 = some r) n ⟨F64_S1 a1 a0, ?_, a0, rfl, Nat.le_refl _, h⟩ ?_
    · simp only [F64_S1]
      (try simp -implicitDefEqProofs (maxSteps := 4000000) (disch := first | omega | decide | (simp only [go_sem]; omega)) only [go_sem, ↓reduceIte])
      first | exact leS_refl _ | (refine leS_le ?_ ?_ <;> first | exact leL_refl _ | exact leOs_refl _ | (repeat (first | exact leL_refl _ | refine leL_cons (by first | exact leT_refl _ | exact leT_virt | exact leT_junk _ | exact leT_sl | exact leT_sln | exact leT_nil) ?_)))
    · clear h
      rintro m1 S ⟨x1, rfl, hm1, h⟩
      cases m1 with
      | zero => first | cases (show (none : Option _) = some _ from h) | (rw [F64_L1] at h; cases h)
      | succ m1 =>
        rw [F64_L1] at h
        simp only [F64_S1]
        refine runX_seq ?_
        refine runX_seq ?_
        refine runX_regionC fun C hC => ?_
        try simp -implicitDefEqProofs (maxSteps := 4000000) (disch := first | omega | decide | (simp only [go_sem]; omega)) only [go_sem, ↓reduceIte]
        repeat (with_reducible refine And.intro (by first | assumption | omega | (simp; done) | (simp; omega)) ?_)
        rcases iteB_some h with ⟨c2, h⟩ | ⟨c2, h⟩
        · refine guardK_T c2 ?_
          obtain ⟨g3, h⟩ := grd_some h
          try simp -implicitDefEqProofs (maxSteps := 4000000) (disch := first | omega | decide | (simp only [go_sem]; omega)) only [go_sem, ↓reduceIte]
          repeat (with_reducible refine And.intro (by first | assumption | omega | (simp; done) | (simp; omega)) ?_)
          refine toEnd hC ?_
          refine endX_seq ?_
          rcases iteB_some h with ⟨c4, h⟩ | ⟨c4, h⟩
          · refine runX_condT rfl c4 ?_
            refine runX_skip ?_
            refine endX_seq ?_
            refine runX_block ?_
            refine runX_regionC fun C hC => ?_
            obtain ⟨g5, h⟩ := grd_some h
            try simp -implicitDefEqProofs (maxSteps := 4000000) (disch := first | omega | decide | (simp only [go_sem]; omega)) only [go_sem, ↓reduceIte]
            repeat (with_reducible refine And.intro (by first | assumption | omega | (simp; done) | (simp; omega)) ?_)
            refine toEnd hC ?_
            refine endX_blk ?_
            refine endX_q (roundQ_normal ⟨m1, by omega, F64_S1 a1 (x1.drop 1), ?_, (x1.drop 1), rfl, by omega, h⟩)
            simp only [F64_S1]
            (try simp -implicitDefEqProofs (maxSteps := 4000000) (disch := first | omega | decide | (simp only [go_sem]; omega)) only [go_sem, ↓reduceIte])
            first | exact leS_refl _ | (refine leS_le ?_ ?_ <;> first | exact leL_refl _ | exact leOs_refl _ | (repeat (first | exact leL_refl _ | refine leL_cons (by first | exact leT_refl _ | exact leT_virt | exact leT_junk _ | exact leT_sl | exact leT_sln | exact leT_nil) ?_)))
          · refine runX_condF rfl c4 ?_
            refine runX_exit ?_
            refine endX_seqE ?_
            refine endX_q (roundQ_exit ?_)
            refine endX_blkE ?_
            refine endX_seq ?_
            refine runX_seq ?_
            refine runX_regionC fun C hC => ?_
            try simp -implicitDefEqProofs (maxSteps := 4000000) (disch := first | omega | decide | (simp only [go_sem]; omega)) only [go_sem, ↓reduceIte]
            repeat (with_reducible refine And.intro (by first | assumption | omega | (simp; done) | (simp; omega)) ?_)
            refine toEnd hC ?_
            refine endX_seq ?_
            refine runX_ret ?_
            refine endX_q ?_
            obtain rfl := Option.some.inj h
            show RetW _ _ _ _ _
            simp only [RetW]
            (try simp -implicitDefEqProofs (maxSteps := 4000000) (disch := first | omega | decide | (simp only [go_sem]; omega)) only [go_sem, ↓reduceIte])
            (try simp (disch := omega) only [if_pos, Nat.sub_zero])
            exact leT_refl _
        · refine guardK_F c2 ?_
          try simp -implicitDefEqProofs (maxSteps := 4000000) (disch := first | omega | decide | (simp only [go_sem]; omega)) only [go_sem, ↓reduceIte]
          repeat (with_reducible refine And.intro (by first | assumption | omega | (simp; done) | (simp; omega)) ?_)
          refine toEnd hC ?_
          refine endX_seq ?_
          refine runX_condF rfl rfl ?_
          refine runX_exit ?_
          refine endX_seqE ?_
          refine endX_q (roundQ_exit ?_)
          refine endX_blkE ?_
          refine endX_seq ?_
          refine runX_seq ?_
          refine runX_regionC fun C hC => ?_
          try simp -implicitDefEqProofs (maxSteps := 4000000) (disch := first | omega | decide | (simp only [go_sem]; omega)) only [go_sem, ↓reduceIte]
          repeat (with_reducible refine And.intro (by first | assumption | omega | (simp; done) | (simp; omega)) ?_)
          refine toEnd hC ?_
          refine endX_seq ?_
          refine runX_ret ?_
          refine endX_q ?_
          obtain rfl := Option.some.inj h
          show RetW _ _ _ _ _
          simp only [RetW]
          (try simp -implicitDefEqProofs (maxSteps := 4000000) (disch := first | omega | decide | (simp only [go_sem]; omega)) only [go_sem, ↓reduceIte])
          (try simp (disch := omega) only [if_pos, Nat.sub_zero])
          exact leT_refl _
end Go.Proofs.YtjkfobmfddfjhaaDoorX

set_option linter.unusedVariables false
set_option linter.unusedSimpArgs false
namespace Go.Proofs.YtjkfobmfddfjhaaDoorX
open Go Go.RowKit Go.Proofs
set_option maxRecDepth 100000
attribute [local go_sem] String.reduceEq String.reduceNe reduceCtorEq Int.reduceEq Nat.reduceAdd Nat.reduceSub Nat.reduceMul Nat.reduceLT Nat.reduceLeDiff Nat.reduceEqDiff Nat.reduceBEq Int.reduceToNat Int.reduceLT Int.reduceLE Int.reduceGT Int.reduceGE Int.reduceAdd Int.reduceSub Int.reduceMul Int.reduceNeg Int.reduceBEq Int.reduceBNe Int.reducePow Int.reduceDiv Int.reduceMod Int.reduceTDiv Int.reduceTMod Int.reduceNatCast
/-! ### strings.trimRightByte -/
def F65_S1 (a1 : Int) (x1 : List UInt8) : St := ⟨[.imm (.string (bs x1)), .imm (.int .u8 a1), .junk, .junk, .junk, .junk, .junk, .junk, .junk, .junk, .junk, .junk, .junk, .junk, .junk, .junk, .junk, .junk, .junk, .junk, .junk, .junk, .junk], []⟩
def F65_L1 : Nat → (Int) → (List UInt8) → Option (List UInt8)
  | 0, _, _ => none
  | m1 + 1, a1, x1 => iteB (decide ((0 : Int) < (x1.length : Int))) (grd (0 ≤ (IntKind.wrap .i64 ((x1.length : Int) - (1 : Int))) ∧ (IntKind.wrap .i64 ((x1.length : Int) - (1 : Int))) < (x1.length : Int)) (iteB (((x1.getD (IntKind.wrap .i64 ((x1.length : Int) - (1 : Int))).toNat 0).toNat : Int) == a1) (grd (0 ≤ (IntKind.wrap .i64 ((x1.length : Int) - (1 : Int))) ∧ (IntKind.wrap .i64 ((x1.length : Int) - (1 : Int))) ≤ (x1.length : Int)) (F65_L1 m1 a1 (x1.take (IntKind.wrap .i64 ((x1.length : Int) - (1 : Int))).toNat))) (some x1))) (some x1)
def F65 (n : Nat) (a0 : List UInt8) (a1 : Int) : Option (List UInt8) := F65_L1 n a1 a0
set_option maxHeartbeats 4000000 in
theorem F65_ok : ∀ (n : Nat) (a0 : List UInt8) (a1 : Int) (r : List UInt8), F65 n a0 a1 = some r → FnC Tryd.prog 65 [.imm (.string (bs a0)), .imm (.int .u8 a1)] (.imm (.string (bs r)))
  | n, a0, a1, r, h => by
    unfold F65 at h
    refine FnC.goX mixed Tryd.func65 (by kernel_rfl) rfl ?_
    simp only [Tryd.ntmps65, List.length_cons, List.length_nil, List.replicate, List.cons_append, List.nil_append, Nat.reduceAdd, Nat.reduceSub]
    refine runX_seq ?_
    refine runX_regionC fun C hC => ?_
    try simp -implicitDefEqProofs (maxSteps := 4000000) (disch := first | omega | decide | (simp only [go_sem]; omega)) only [go_sem, ↓reduceIte]
    repeat (with_reducible refine And.intro (by first | assumption | omega | (simp; done) | (simp; omega)) ?_)
    refine toEnd hC ?_
    refine endX_seq ?_
    refine runX_seq ?_
    refine runX_block ?_
    refine runX_loop [0, 1] (fun m S => ∃ (x1 : List UInt8), S = F65_S1 a1 x1 ∧ m ≤ n ∧ F65_L1 m a1 x1 = some r) n ⟨F65_S1 a1 a0, ?_, a0, rfl, Nat.le_refl _, h⟩ ?_
    · simp only [F65_S1]
      (try simp -implicitDefEqProofs (maxSteps := 4000000) (disch := first | omega | decide | (simp only [go_sem]; omega)) only [go_sem, ↓reduceIte])
      first | exact leS_refl _ | (refine leS_le ?_ ?_ <;> first | exact leL_refl _ | exact leOs_refl _ | (repeat (first | exact leL_refl _ | refine leL_cons (by first | exact leT_refl _ | exact leT_virt | exact leT_junk _ | exact leT_sl | exact leT_sln | exact leT_nil) ?_)))
    · clear h
      rintro m1 S ⟨x1, rfl, hm1, h⟩
      cases m1 with
      | zero => first | cases (show (none : Option _) = some _ from h) | (rw [F65_L1] at h; cases h)
      | succ m1 =>
        rw [F65_L1] at h
        simp only [F65_S1]
        refine runX_seq ?_
        refine runX_seq ?_
        refine runX_regionC fun C hC => ?_
        try simp -implicitDefEqProofs (maxSteps := 4000000) (disch := first | omega | decide | (simp only [go_sem]; omega)) only [go_sem, ↓reduceIte]
        repeat (with_reducible refine And.intro (by first | assumption | omega | (simp; done) | (simp; omega)) ?_)
        rcases iteB_some h with ⟨c2, h⟩ | ⟨c2, h⟩
        · refine guardK_T c2 ?_
          obtain ⟨g3, h⟩ := grd_some h
          try simp -implicitDefEqProofs (maxSteps := 4000000) (disch := first | omega | decide | (simp only [go_sem]; omega)) only [go_sem, ↓reduceIte]
          repeat (with_reducible refine And.intro (by first | assumption | omega | (simp; done) | (simp; omega)) ?_)
          refine toEnd hC ?_
          refine endX_seq ?_
          rcases iteB_some h with ⟨c4, h⟩ | ⟨c4, h⟩
          · refine runX_condT rfl c4 ?_
            refine runX_skip ?_
            refine endX_seq ?_
            refine runX_block ?_
            refine runX_regionC fun C hC => ?_
            obtain ⟨g5, h⟩ := grd_some h
            try simp -implicitDefEqProofs (maxSteps := 4000000) (disch := first | omega | decide | (simp only [go_sem]; omega)) only [go_sem, ↓reduceIte]
            repeat (with_reducible refine And.intro (by first | assumption | omega | (simp; done) | (simp; omega)) ?_)
            refine toEnd hC ?_
            refine endX_blk ?_
            refine endX_q (roundQ_normal ⟨m1, by omega, F65_S1 a1 (x1.take (IntKind.wrap .i64 ((x1.length : Int) - (1 : Int))).toNat), ?_, (x1.take (IntKind.wrap .i64 ((x1.length : Int) - (1 : Int))).toNat), rfl, by omega, h⟩)
            simp only [F65_S1]
            (try simp -implicitDefEqProofs (maxSteps := 4000000) (disch := first | omega | decide | (simp only [go_sem]; omega)) only [go_sem, ↓reduceIte])
            first | exact leS_refl _ | (refine leS_le ?_ ?_ <;> first | exact leL_refl _ | exact leOs_refl _ | (repeat (first | exact leL_refl _ | refine leL_cons (by first | exact leT_refl _ | exact leT_virt | exact leT_junk _ | exact leT_sl | exact leT_sln | exact leT_nil) ?_)))
          · refine runX_condF rfl c4 ?_
            refine runX_exit ?_
            refine endX_seqE ?_
            refine endX_q (roundQ_exit ?_)
            refine endX_blkE ?_
            refine endX_seq ?_
            refine runX_seq ?_
            refine runX_regionC fun C hC => ?_
            try simp -implicitDefEqProofs (maxSteps := 4000000) (disch := first | omega | decide | (simp only [go_sem]; omega)) only [go_sem, ↓reduceIte]
            repeat (with_reducible refine And.intro (by first | assumption | omega | (simp; done) | (simp; omega)) ?_)
            refine toEnd hC ?_
            refine endX_seq ?_
            refine runX_ret ?_
            refine endX_q ?_
            obtain rfl := Option.some.inj h
            show RetW _ _ _ _ _
            simp only [RetW]
            (try simp -implicitDefEqProofs (maxSteps := 4000000) (disch := first | omega | decide | (simp only [go_sem]; omega)) only [go_sem, ↓reduceIte])
            (try simp (disch := omega) only [if_pos, Nat.sub_zero])
            exact leT_refl _
        · refine guardK_F c2 ?_
          try simp -implicitDefEqProofs (maxSteps := 4000000) (disch := first | omega | decide | (simp only [go_sem]; omega)) only [go_sem, ↓reduceIte]
          repeat (with_reducible refine And.intro (by first | assumption | omega | (simp; done) | (simp; omega)) ?_)
          refine toEnd hC ?_
          refine endX_seq ?_
          refine runX_condF rfl rfl ?_
          refine runX_exit ?_
          refine endX_seqE ?_
          refine endX_q (roundQ_exit ?_)
          refine endX_blkE ?_
          refine endX_seq ?_
          refine runX_seq ?_
          refine runX_regionC fun C hC => ?_
          try simp -implicitDefEqProofs (maxSteps := 4000000) (disch := first | omega | decide | (simp only [go_sem]; omega)) only [go_sem, ↓reduceIte]
          repeat (with_reducible refine And.intro (by first | assumption | omega | (simp; done) | (simp; omega)) ?_)
          refine toEnd hC ?_
          refine endX_seq ?_
          refine runX_ret ?_
          refine endX_q ?_
          obtain rfl := Option.some.inj h
          show RetW _ _ _ _ _
          simp only [RetW]
          (try simp -implicitDefEqProofs (maxSteps := 4000000) (disch := first | omega | decide | (simp only [go_sem]; omega)) only [go_sem, ↓reduceIte])
          (try simp (disch := omega) only [if_pos, Nat.sub_zero])
          exact leT_refl _
end Go.Proofs.YtjkfobmfddfjhaaDoorX

set_option linter.unusedVariables false
set_option linter.unusedSimpArgs false
namespace Go.Proofs.YtjkfobmfddfjhaaDoorX
open Go Go.RowKit Go.Proofs
set_option maxRecDepth 100000
attribute [local go_sem] String.reduceEq String.reduceNe reduceCtorEq Int.reduceEq Nat.reduceAdd Nat.reduceSub Nat.reduceMul Nat.reduceLT Nat.reduceLeDiff Nat.reduceEqDiff Nat.reduceBEq Int.reduceToNat Int.reduceLT Int.reduceLE Int.reduceGT Int.reduceGE Int.reduceAdd Int.reduceSub Int.reduceMul Int.reduceNeg Int.reduceBEq Int.reduceBNe Int.reducePow Int.reduceDiv Int.reduceMod Int.reduceTDiv Int.reduceTMod Int.reduceNatCast
/-! ### strings.Trim -/
def F30 (n : Nat) (a0 : List UInt8) (a1 : List UInt8) : Option (List UInt8) := iteB (a0 == []) (some a0) (iteB (a1 == []) (some a0) (iteB ((a1.length : Int) == (1 : Int)) (grd ((0 : Int) < (a1.length : Int)) (iteB (decide (((a1.getD (0 : Int).toNat 0).toNat : Int) < (128 : Int))) (grd ((0 : Int) < (a1.length : Int)) ((F65 n a0 ((a1.getD (0 : Int).toNat 0).toNat : Int)).bind fun v7 => grd ((0 : Int) < (a1.length : Int)) ((F64 n v7 ((a1.getD (0 : Int).toNat 0).toNat : Int)).bind fun v9 => some v9))) (none))) (none)))
set_option maxHeartbeats 4000000 in
theorem F30_ok : ∀ (n : Nat) (a0 : List UInt8) (a1 : List UInt8) (r : List UInt8), F30 n a0 a1 = some r → FnC Tryd.prog 30 [.imm (.string (bs a0)), .imm (.string (bs a1))] (.imm (.string (bs r)))
  | n, a0, a1, r, h => by
    unfold F30 at h
    refine FnC.goX mixed Tryd.func30 (by kernel_rfl) rfl ?_
    simp only [Tryd.ntmps30, List.length_cons, List.length_nil, List.replicate, List.cons_append, List.nil_append, Nat.reduceAdd, Nat.reduceSub]
    refine runX_seq ?_
    refine runX_regionC fun C hC => ?_
    try simp -implicitDefEqProofs (maxSteps := 4000000) (disch := first | omega | decide | (simp only [go_sem]; omega)) only [go_sem, ↓reduceIte]
    repeat (with_reducible refine And.intro (by first | assumption | omega | (simp; done) | (simp; omega)) ?_)
    refine toEnd hC ?_
    refine endX_seq ?_
    refine runX_seq ?_
    refine runX_seq ?_
    refine runX_regionC fun C hC => ?_
    try simp -implicitDefEqProofs (maxSteps := 4000000) (disch := first | omega | decide | (simp only [go_sem]; omega)) only [go_sem, ↓reduceIte]
    repeat (with_reducible refine And.intro (by first | assumption | omega | (simp; done) | (simp; omega)) ?_)
    rcases iteB_some h with ⟨c1, h⟩ | ⟨c1, h⟩
    · refine guardK_F c1 ?_
      try simp -implicitDefEqProofs (maxSteps := 4000000) (disch := first | omega | decide | (simp only [go_sem]; omega)) only [go_sem, ↓reduceIte]
      repeat (with_reducible refine And.intro (by first | assumption | omega | (simp; done) | (simp; omega)) ?_)
      refine toEnd hC ?_
      refine endX_seq ?_
      refine runX_condT rfl rfl ?_
      refine runX_seq ?_
      refine runX_regionC fun C hC => ?_
      try simp -implicitDefEqProofs (maxSteps := 4000000) (disch := first | omega | decide | (simp only [go_sem]; omega)) only [go_sem, ↓reduceIte]
      repeat (with_reducible refine And.intro (by first | assumption | omega | (simp; done) | (simp; omega)) ?_)
      refine toEnd hC ?_
      refine endX_seq ?_
      refine runX_ret ?_
      refine endX_seqR ?_
      refine endX_q ?_
      obtain rfl := Option.some.inj h
      show RetW _ _ _ _ _
      simp only [RetW]
      (try simp -implicitDefEqProofs (maxSteps := 4000000) (disch := first | omega | decide | (simp only [go_sem]; omega)) only [go_sem, ↓reduceIte])
      (try simp (disch := omega) only [if_pos, Nat.sub_zero])
      exact leT_refl _
    · refine guardK_T c1 ?_
      try simp -implicitDefEqProofs (maxSteps := 4000000) (disch := first | omega | decide | (simp only [go_sem]; omega)) only [go_sem, ↓reduceIte]
      repeat (with_reducible refine And.intro (by first | assumption | omega | (simp; done) | (simp; omega)) ?_)
      refine toEnd hC ?_
      refine endX_seq ?_
      rcases iteB_some h with ⟨c2, h⟩ | ⟨c2, h⟩
      · refine runX_condT rfl c2 ?_
        refine runX_seq ?_
        refine runX_regionC fun C hC => ?_
        try simp -implicitDefEqProofs (maxSteps := 4000000) (disch := first | omega | decide | (simp only [go_sem]; omega)) only [go_sem, ↓reduceIte]
        repeat (with_reducible refine And.intro (by first | assumption | omega | (simp; done) | (simp; omega)) ?_)
        refine toEnd hC ?_
        refine endX_seq ?_
        refine runX_ret ?_
        refine endX_seqR ?_
        refine endX_q ?_
        obtain rfl := Option.some.inj h
        show RetW _ _ _ _ _
        simp only [RetW]
        (try simp -implicitDefEqProofs (maxSteps := 4000000) (disch := first | omega | decide | (simp only [go_sem]; omega)) only [go_sem, ↓reduceIte])
        (try simp (disch := omega) only [if_pos, Nat.sub_zero])
        exact leT_refl _
      · refine runX_condF rfl c2 ?_
        refine runX_skip ?_
        refine endX_seq ?_
        refine runX_seq ?_
        refine runX_seq ?_
        refine runX_regionC fun C hC => ?_
        try simp -implicitDefEqProofs (maxSteps := 4000000) (disch := first | omega | decide | (simp only [go_sem]; omega)) only [go_sem, ↓reduceIte]
        repeat (with_reducible refine And.intro (by first | assumption | omega | (simp; done) | (simp; omega)) ?_)
        rcases iteB_some h with ⟨c3, h⟩ | ⟨c3, h⟩
        · refine guardK_T c3 ?_
          obtain ⟨g4, h⟩ := grd_some h
          try simp -implicitDefEqProofs (maxSteps := 4000000) (disch := first | omega | decide | (simp only [go_sem]; omega)) only [go_sem, ↓reduceIte]
          repeat (with_reducible refine And.intro (by first | assumption | omega | (simp; done) | (simp; omega)) ?_)
          refine toEnd hC ?_
          refine endX_seq ?_
          rcases iteB_some h with ⟨c5, h⟩ | ⟨c5, h⟩
          · refine runX_condT rfl c5 ?_
            refine runX_seq ?_
            refine runX_drawC mixed (by kernel_rfl) fun C hC => ?_
            obtain ⟨g6, h⟩ := grd_some h
            obtain ⟨v7, h7, h⟩ := bnd_some h
            try simp -implicitDefEqProofs (maxSteps := 4000000) (disch := first | omega | decide | (simp only [go_sem]; omega)) only [go_sem, ↓reduceIte]
            repeat (with_reducible refine And.intro (by first | assumption | omega | (simp; done) | (simp; omega)) ?_)
            refine callD_X (F65_ok n a0 ((a1.getD (0 : Int).toNat 0).toNat : Int) _ h7) (by repeat (first | exact leL_refl _ | refine leL_cons (by first | exact leT_refl _ | exact leT_virt | exact leT_junk _ | exact leT_sl | exact leT_sln | exact leT_nil) ?_)) ?_
            obtain ⟨g8, h⟩ := grd_some h
            obtain ⟨v9, h9, h⟩ := bnd_some h
            try simp -implicitDefEqProofs (maxSteps := 4000000) (disch := first | omega | decide | (simp only [go_sem]; omega)) only [go_sem, ↓reduceIte]
            repeat (with_reducible refine And.intro (by first | assumption | omega | (simp; done) | (simp; omega)) ?_)
            refine callD_X (F64_ok n v7 ((a1.getD (0 : Int).toNat 0).toNat : Int) _ h9) (by repeat (first | exact leL_refl _ | refine leL_cons (by first | exact leT_refl _ | exact leT_virt | exact leT_junk _ | exact leT_sl | exact leT_sln | exact leT_nil) ?_)) ?_
            try simp -implicitDefEqProofs (maxSteps := 4000000) (disch := first | omega | decide | (simp only [go_sem]; omega)) only [go_sem, ↓reduceIte]
            repeat (with_reducible refine And.intro (by first | assumption | omega | (simp; done) | (simp; omega)) ?_)
            refine toEnd hC ?_
            refine endX_seq ?_
            refine runX_ret ?_
            refine endX_seqR ?_
            refine endX_q ?_
            obtain rfl := Option.some.inj h
            show RetW _ _ _ _ _
            simp only [RetW]
            (try simp -implicitDefEqProofs (maxSteps := 4000000) (disch := first | omega | decide | (simp only [go_sem]; omega)) only [go_sem, ↓reduceIte])
            (try simp (disch := omega) only [if_pos, Nat.sub_zero])
            exact leT_refl _
          · refine runX_condF rfl c5 ?_
            cases h
        · cases h
end Go.Proofs.YtjkfobmfddfjhaaDoorX

set_option linter.unusedVariables false
set_option linter.unusedSimpArgs false
namespace Go.Proofs.YtjkfobmfddfjhaaDoorX
open Go Go.RowKit Go.Proofs
set_option maxRecDepth 100000
attribute [local go_sem] String.reduceEq String.reduceNe reduceCtorEq Int.reduceEq Nat.reduceAdd Nat.reduceSub Nat.reduceMul Nat.reduceLT Nat.reduceLeDiff Nat.reduceEqDiff Nat.reduceBEq Int.reduceToNat Int.reduceLT Int.reduceLE Int.reduceGT Int.reduceGE Int.reduceAdd Int.reduceSub Int.reduceMul Int.reduceNeg Int.reduceBEq Int.reduceBNe Int.reducePow Int.reduceDiv Int.reduceMod Int.reduceTDiv Int.reduceTMod Int.reduceNatCast
/-! ### policy.Match -/
def F10_S1 (a0 : List UInt8) (a1 : List UInt8) (x1 : Int) (x2 : Int) (x3 : Int) (x4 : Int) : St := ⟨[.imm (.string (bs a0)), .imm (.string (bs a1)), .junk, .junk, .junk, .imm (.int .i64 x1), .imm (.int .i64 x2), .imm (.int .i64 x3), .imm (.int .i64 x4), .junk, .junk, .junk, .junk, .junk, .junk, .junk, .junk, .junk, .junk, .junk, .junk, .junk, .junk, .junk, .junk, .junk, .junk, .junk, .junk, .junk, .junk, .junk, .junk, .junk, .junk, .junk, .junk, .junk, .junk, .junk, .junk, .junk, .junk, .junk, .junk, .junk, .junk, .junk, .junk, .junk, .junk, .junk, .junk, .junk, .junk, .junk, .junk, .junk, .junk, .junk, .junk, .junk, .junk, .junk, .junk], []⟩
def F10_L1 : Nat → (List UInt8) → (List UInt8) → (Int) → (Int) → (Int) → (Int) → Option (Bool)
  | 0, _, _, _, _, _, _ => none
  | m1 + 1, a0, a1, x1, x2, x3, x4 => iteB (decide (x4 < (a1.length : Int))) (iteB (decide (x3 < (a0.length : Int))) (grd (0 ≤ x3 ∧ x3 < (a0.length : Int)) (iteB (((a0.getD x3.toNat 0).toNat : Int) == (42 : Int)) (F10_L1 m1 a0 a1 x3 x4 (IntKind.wrap .i64 (x3 + (1 : Int))) x4) (iteB (decide (x3 < (a0.length : Int))) (grd (0 ≤ x3 ∧ x3 < (a0.length : Int)) (iteB (((a0.getD x3.toNat 0).toNat : Int) == (63 : Int)) (F10_L1 m1 a0 a1 x1 x2 (IntKind.wrap .i64 (x3 + (1 : Int))) (IntKind.wrap .i64 (x4 + (1 : Int)))) (grd (0 ≤ x3 ∧ x3 < (a0.length : Int)) (grd (0 ≤ x4 ∧ x4 < (a1.length : Int)) (iteB (((a0.getD x3.toNat 0).toNat : Int) == ((a1.getD x4.toNat 0).toNat : Int)) (F10_L1 m1 a0 a1 x1 x2 (IntKind.wrap .i64 (x3 + (1 : Int))) (IntKind.wrap .i64 (x4 + (1 : Int)))) (iteB (decide ((0 : Int) ≤ x1)) (F10_L1 m1 a0 a1 x1 (IntKind.wrap .i64 (x2 + (1 : Int))) (IntKind.wrap .i64 (x1 + (1 : Int))) (IntKind.wrap .i64 (x2 + (1 : Int)))) (some false))))))) (iteB (decide ((0 : Int) ≤ x1)) (F10_L1 m1 a0 a1 x1 (IntKind.wrap .i64 (x2 + (1 : Int))) (IntKind.wrap .i64 (x1 + (1 : Int))) (IntKind.wrap .i64 (x2 + (1 : Int)))) (some false))))) (iteB (decide (x3 < (a0.length : Int))) (grd (0 ≤ x3 ∧ x3 < (a0.length : Int)) (iteB (((a0.getD x3.toNat 0).toNat : Int) == (63 : Int)) (F10_L1 m1 a0 a1 x1 x2 (IntKind.wrap .i64 (x3 + (1 : Int))) (IntKind.wrap .i64 (x4 + (1 : Int)))) (grd (0 ≤ x3 ∧ x3 < (a0.length : Int)) (grd (0 ≤ x4 ∧ x4 < (a1.length : Int)) (iteB (((a0.getD x3.toNat 0).toNat : Int) == ((a1.getD x4.toNat 0).toNat : Int)) (F10_L1 m1 a0 a1 x1 x2 (IntKind.wrap .i64 (x3 + (1 : Int))) (IntKind.wrap .i64 (x4 + (1 : Int)))) (iteB (decide ((0 : Int) ≤ x1)) (F10_L1 m1 a0 a1 x1 (IntKind.wrap .i64 (x2 + (1 : Int))) (IntKind.wrap .i64 (x1 + (1 : Int))) (IntKind.wrap .i64 (x2 + (1 : Int)))) (some false))))))) (iteB (decide ((0 : Int) ≤ x1)) (F10_L1 m1 a0 a1 x1 (IntKind.wrap .i64 (x2 + (1 : Int))) (IntKind.wrap .i64 (x1 + (1 : Int))) (IntKind.wrap .i64 (x2 + (1 : Int)))) (some false)))) (grd (0 ≤ x3 ∧ x3 ≤ (a0.length : Int)) ((F30 m1 (a0.drop x3.toNat) ([42] : List UInt8)).bind fun v26 => some (v26 == [])))
def F10 (n : Nat) (a0 : List UInt8) (a1 : List UInt8) : Option (Bool) := F10_L1 n a0 a1 (-1 : Int) (0 : Int) (0 : Int) (0 : Int)
set_option maxHeartbeats 4000000 in
theorem F10_ok : ∀ (n : Nat) (a0 : List UInt8) (a1 : List UInt8) (r : Bool), F10 n a0 a1 = some r → FnC Tryd.prog 10 [.imm (.string (bs a0)), .imm (.string (bs a1))] (.imm (.bool r))
  | n, a0, a1, r, h => by
    unfold F10 at h
    refine FnC.goX mixed Tryd.func10 (by kernel_rfl) rfl ?_
    simp only [Tryd.ntmps10, List.length_cons, List.length_nil, List.replicate, List.cons_append, List.nil_append, Nat.reduceAdd, Nat.reduceSub]
    refine runX_seq ?_
    refine runX_regionC fun C hC => ?_
    try simp -implicitDefEqProofs (maxSteps := 4000000) (disch := first | omega | decide | (simp only [go_sem]; omega)) only [go_sem, ↓reduceIte]
    repeat (with_reducible refine And.intro (by first | assumption | omega | (simp; done) | (simp; omega)) ?_)
    refine toEnd hC ?_
    refine endX_seq ?_
    refine runX_seq ?_
    refine runX_regionC fun C hC => ?_
    try simp -implicitDefEqProofs (maxSteps := 4000000) (disch := first | omega | decide | (simp only [go_sem]; omega)) only [go_sem, ↓reduceIte]
    repeat (with_reducible refine And.intro (by first | assumption | omega | (simp; done) | (simp; omega)) ?_)
    refine toEnd hC ?_
    refine endX_seq ?_
    refine runX_seq ?_
    refine runX_regionC fun C hC => ?_
    try simp -implicitDefEqProofs (maxSteps := 4000000) (disch := first | omega | decide | (simp only [go_sem]; omega)) only [go_sem, ↓reduceIte]
    repeat (with_reducible refine And.intro (by first | assumption | omega | (simp; done) | (simp; omega)) ?_)
    refine toEnd hC ?_
    refine endX_seq ?_
    refine runX_seq ?_
    refine runX_block ?_
    refine runX_loop [0, 1, 5, 6, 7, 8] (fun m S => ∃ (x1 : Int) (x2 : Int) (x3 : Int) (x4 : Int), S = F10_S1 a0 a1 x1 x2 x3 x4 ∧ m ≤ n ∧ F10_L1 m a0 a1 x1 x2 x3 x4 = some r) n ⟨F10_S1 a0 a1 (-1 : Int) (0 : Int) (0 : Int) (0 : Int), ?_, (-1 : Int), (0 : Int), (0 : Int), (0 : Int), rfl, Nat.le_refl _, h⟩ ?_
    · simp only [F10_S1]
      (try simp -implicitDefEqProofs (maxSteps := 4000000) (disch := first | omega | decide | (simp only [go_sem]; omega)) only [go_sem, ↓reduceIte])
      first | exact leS_refl _ | (refine leS_le ?_ ?_ <;> first | exact leL_refl _ | exact leOs_refl _ | (repeat (first | exact leL_refl _ | refine leL_cons (by first | exact leT_refl _ | exact leT_virt | exact leT_junk _ | exact leT_sl | exact leT_sln | exact leT_nil) ?_)))
    · clear h
      rintro m1 S ⟨x1, x2, x3, x4, rfl, hm1, h⟩
      cases m1 with
      | zero => first | cases (show (none : Option _) = some _ from h) | (rw [F10_L1] at h; cases h)
      | succ m1 =>
        rw [F10_L1] at h
        simp only [F10_S1]
        refine runX_seq ?_
        refine runX_seq ?_
        refine runX_regionC fun C hC => ?_
        try simp -implicitDefEqProofs (maxSteps := 4000000) (disch := first | omega | decide | (simp only [go_sem]; omega)) only [go_sem, ↓reduceIte]
        repeat (with_reducible refine And.intro (by first | assumption | omega | (simp; done) | (simp; omega)) ?_)
        refine toEnd hC ?_
        refine endX_seq ?_
        rcases iteB_some h with ⟨c5, h⟩ | ⟨c5, h⟩
        · refine runX_condT rfl c5 ?_
          refine runX_skip ?_
          refine endX_seq ?_
          refine runX_block ?_
          refine runX_block ?_
          refine runX_seq ?_
          refine runX_regionC fun C hC => ?_
          try simp -implicitDefEqProofs (maxSteps := 4000000) (disch := first | omega | decide | (simp only [go_sem]; omega)) only [go_sem, ↓reduceIte]
          repeat (with_reducible refine And.intro (by first | assumption | omega | (simp; done) | (simp; omega)) ?_)
          rcases iteB_some h with ⟨c6, h⟩ | ⟨c6, h⟩
          · refine guardK_T c6 ?_
            obtain ⟨g7, h⟩ := grd_some h
            try simp -implicitDefEqProofs (maxSteps := 4000000) (disch := first | omega | decide | (simp only [go_sem]; omega)) only [go_sem, ↓reduceIte]
            repeat (with_reducible refine And.intro (by first | assumption | omega | (simp; done) | (simp; omega)) ?_)
            refine toEnd hC ?_
            refine endX_seq ?_
            rcases iteB_some h with ⟨c8, h⟩ | ⟨c8, h⟩
            · refine runX_condT rfl c8 ?_
              refine runX_seq ?_
              refine runX_regionC fun C hC => ?_
              try simp -implicitDefEqProofs (maxSteps := 4000000) (disch := first | omega | decide | (simp only [go_sem]; omega)) only [go_sem, ↓reduceIte]
              repeat (with_reducible refine And.intro (by first | assumption | omega | (simp; done) | (simp; omega)) ?_)
              refine toEnd hC ?_
              refine endX_seq ?_
              refine runX_regionC fun C hC => ?_
              try simp -implicitDefEqProofs (maxSteps := 4000000) (disch := first | omega | decide | (simp only [go_sem]; omega)) only [go_sem, ↓reduceIte]
              repeat (with_reducible refine And.intro (by first | assumption | omega | (simp; done) | (simp; omega)) ?_)
              refine toEnd hC ?_
              refine endX_blk ?_
              refine endX_blk ?_
              refine endX_q (roundQ_normal ⟨m1, by omega, F10_S1 a0 a1 x3 x4 (IntKind.wrap .i64 (x3 + (1 : Int))) x4, ?_, x3, x4, (IntKind.wrap .i64 (x3 + (1 : Int))), x4, rfl, by omega, h⟩)
              simp only [F10_S1]
              (try simp -implicitDefEqProofs (maxSteps := 4000000) (disch := first | omega | decide | (simp only [go_sem]; omega)) only [go_sem, ↓reduceIte])
              first | exact leS_refl _ | (refine leS_le ?_ ?_ <;> first | exact leL_refl _ | exact leOs_refl _ | (repeat (first | exact leL_refl _ | refine leL_cons (by first | exact leT_refl _ | exact leT_virt | exact leT_junk _ | exact leT_sl | exact leT_sln | exact leT_nil) ?_)))
            · refine runX_condF rfl c8 ?_
              refine runX_seq ?_
              refine runX_drawC mixed (by kernel_rfl) fun C hC => ?_
              try simp -implicitDefEqProofs (maxSteps := 4000000) (disch := first | omega | decide | (simp only [go_sem]; omega)) only [go_sem, ↓reduceIte]
              repeat (with_reducible refine And.intro (by first | assumption | omega | (simp; done) | (simp; omega)) ?_)
              rcases iteB_some h with ⟨c9, h⟩ | ⟨c9, h⟩
              · refine guardD_T c9 ?_
                obtain ⟨g10, h⟩ := grd_some h
                try simp -implicitDefEqProofs (maxSteps := 4000000) (disch := first | omega | decide | (simp only [go_sem]; omega)) only [go_sem, ↓reduceIte]
                repeat (with_reducible refine And.intro (by first | assumption | omega | (simp; done) | (simp; omega)) ?_)
                rcases iteB_some h with ⟨c11, h⟩ | ⟨c11, h⟩
                · refine guardD_F c11 ?_
                  try simp -implicitDefEqProofs (maxSteps := 4000000) (disch := first | omega | decide | (simp only [go_sem]; omega)) only [go_sem, ↓reduceIte]
                  repeat (with_reducible refine And.intro (by first | assumption | omega | (simp; done) | (simp; omega)) ?_)
                  refine toEnd hC ?_
                  refine endX_seq ?_
                  refine runX_condT rfl rfl ?_
                  refine runX_seq ?_
                  refine runX_regionC fun C hC => ?_
                  try simp -implicitDefEqProofs (maxSteps := 4000000) (disch := first | omega | decide | (simp only [go_sem]; omega)) only [go_sem, ↓reduceIte]
                  repeat (with_reducible refine And.intro (by first | assumption | omega | (simp; done) | (simp; omega)) ?_)
                  refine toEnd hC ?_
                  refine endX_seq ?_
                  refine runX_regionC fun C hC => ?_
                  try simp -implicitDefEqProofs (maxSteps := 4000000) (disch := first | omega | decide | (simp only [go_sem]; omega)) only [go_sem, ↓reduceIte]
                  repeat (with_reducible refine And.intro (by first | assumption | omega | (simp; done) | (simp; omega)) ?_)
                  refine toEnd hC ?_
                  refine endX_blk ?_
                  refine endX_blk ?_
                  refine endX_q (roundQ_normal ⟨m1, by omega, F10_S1 a0 a1 x1 x2 (IntKind.wrap .i64 (x3 + (1 : Int))) (IntKind.wrap .i64 (x4 + (1 : Int))), ?_, x1, x2, (IntKind.wrap .i64 (x3 + (1 : Int))), (IntKind.wrap .i64 (x4 + (1 : Int))), rfl, by omega, h⟩)
                  simp only [F10_S1]
                  (try simp -implicitDefEqProofs (maxSteps := 4000000) (disch := first | omega | decide | (simp only [go_sem]; omega)) only [go_sem, ↓reduceIte])
                  first | exact leS_refl _ | (refine leS_le ?_ ?_ <;> first | exact leL_refl _ | exact leOs_refl _ | (repeat (first | exact leL_refl _ | refine leL_cons (by first | exact leT_refl _ | exact leT_virt | exact leT_junk _ | exact leT_sl | exact leT_sln | exact leT_nil) ?_)))
                · refine guardD_T c11 ?_
                  obtain ⟨g12, h⟩ := grd_some h
                  obtain ⟨g13, h⟩ := grd_some h
                  try simp -implicitDefEqProofs (maxSteps := 4000000) (disch := first | omega | decide | (simp only [go_sem]; omega)) only [go_sem, ↓reduceIte]
                  repeat (with_reducible refine And.intro (by first | assumption | omega | (simp; done) | (simp; omega)) ?_)
                  refine toEnd hC ?_
                  refine endX_seq ?_
                  rcases iteB_some h with ⟨c14, h⟩ | ⟨c14, h⟩
                  · refine runX_condT rfl c14 ?_
                    refine runX_seq ?_
                    refine runX_regionC fun C hC => ?_
                    try simp -implicitDefEqProofs (maxSteps := 4000000) (disch := first | omega | decide | (simp only [go_sem]; omega)) only [go_sem, ↓reduceIte]
                    repeat (with_reducible refine And.intro (by first | assumption | omega | (simp; done) | (simp; omega)) ?_)
                    refine toEnd hC ?_
                    refine endX_seq ?_
                    refine runX_regionC fun C hC => ?_
                    try simp -implicitDefEqProofs (maxSteps := 4000000) (disch := first | omega | decide | (simp only [go_sem]; omega)) only [go_sem, ↓reduceIte]
                    repeat (with_reducible refine And.intro (by first | assumption | omega | (simp; done) | (simp; omega)) ?_)
                    refine toEnd hC ?_
                    refine endX_blk ?_
                    refine endX_blk ?_
                    refine endX_q (roundQ_normal ⟨m1, by omega, F10_S1 a0 a1 x1 x2 (IntKind.wrap .i64 (x3 + (1 : Int))) (IntKind.wrap .i64 (x4 + (1 : Int))), ?_, x1, x2, (IntKind.wrap .i64 (x3 + (1 : Int))), (IntKind.wrap .i64 (x4 + (1 : Int))), rfl, by omega, h⟩)
                    simp only [F10_S1]
                    (try simp -implicitDefEqProofs (maxSteps := 4000000) (disch := first | omega | decide | (simp only [go_sem]; omega)) only [go_sem, ↓reduceIte])
                    first | exact leS_refl _ | (refine leS_le ?_ ?_ <;> first | exact leL_refl _ | exact leOs_refl _ | (repeat (first | exact leL_refl _ | refine leL_cons (by first | exact leT_refl _ | exact leT_virt | exact leT_junk _ | exact leT_sl | exact leT_sln | exact leT_nil) ?_)))
                  · refine runX_condF rfl c14 ?_
                    refine runX_seq ?_
                    refine runX_regionC fun C hC => ?_
                    try simp -implicitDefEqProofs (maxSteps := 4000000) (disch := first | omega | decide | (simp only [go_sem]; omega)) only [go_sem, ↓reduceIte]
                    repeat (with_reducible refine And.intro (by first | assumption | omega | (simp; done) | (simp; omega)) ?_)
                    refine toEnd hC ?_
                    refine endX_seq ?_
                    rcases iteB_some h with ⟨c15, h⟩ | ⟨c15, h⟩
                    · refine runX_condT rfl c15 ?_
                      refine runX_seq ?_
                      refine runX_regionC fun C hC => ?_
                      try simp -implicitDefEqProofs (maxSteps := 4000000) (disch := first | omega | decide | (simp only [go_sem]; omega)) only [go_sem, ↓reduceIte]
                      repeat (with_reducible refine And.intro (by first | assumption | omega | (simp; done) | (simp; omega)) ?_)
                      refine toEnd hC ?_
                      refine endX_seq ?_
                      refine runX_regionC fun C hC => ?_
                      try simp -implicitDefEqProofs (maxSteps := 4000000) (disch := first | omega | decide | (simp only [go_sem]; omega)) only [go_sem, ↓reduceIte]
                      repeat (with_reducible refine And.intro (by first | assumption | omega | (simp; done) | (simp; omega)) ?_)
                      refine toEnd hC ?_
                      refine endX_blk ?_
                      refine endX_blk ?_
                      refine endX_q (roundQ_normal ⟨m1, by omega, F10_S1 a0 a1 x1 (IntKind.wrap .i64 (x2 + (1 : Int))) (IntKind.wrap .i64 (x1 + (1 : Int))) (IntKind.wrap .i64 (x2 + (1 : Int))), ?_, x1, (IntKind.wrap .i64 (x2 + (1 : Int))), (IntKind.wrap .i64 (x1 + (1 : Int))), (IntKind.wrap .i64 (x2 + (1 : Int))), rfl, by omega, h⟩)
                      simp only [F10_S1]
                      (try simp -implicitDefEqProofs (maxSteps := 4000000) (disch := first | omega | decide | (simp only [go_sem]; omega)) only [go_sem, ↓reduceIte])
                      first | exact leS_refl _ | (refine leS_le ?_ ?_ <;> first | exact leL_refl _ | exact leOs_refl _ | (repeat (first | exact leL_refl _ | refine leL_cons (by first | exact leT_refl _ | exact leT_virt | exact leT_junk _ | exact leT_sl | exact leT_sln | exact leT_nil) ?_)))
                    · refine runX_condF rfl c15 ?_
                      refine runX_seq ?_
                      refine runX_regionC fun C hC => ?_
                      try simp -implicitDefEqProofs (maxSteps := 4000000) (disch := first | omega | decide | (simp only [go_sem]; omega)) only [go_sem, ↓reduceIte]
                      repeat (with_reducible refine And.intro (by first | assumption | omega | (simp; done) | (simp; omega)) ?_)
                      refine toEnd hC ?_
                      refine endX_seq ?_
                      refine runX_ret ?_
                      refine endX_blkR ?_
                      refine endX_blkR ?_
                      refine endX_q (roundQ_ret ?_)
                      refine endX_blkR ?_
                      refine endX_seqR ?_
                      refine endX_q ?_
                      obtain rfl := Option.some.inj h
                      show RetW _ _ _ _ _
                      simp only [RetW]
                      (try simp -implicitDefEqProofs (maxSteps := 4000000) (disch := first | omega | decide | (simp only [go_sem]; omega)) only [go_sem, ↓reduceIte])
                      (try simp (disch := omega) only [if_pos, Nat.sub_zero])
                      exact leT_refl _
              · refine guardD_F c9 ?_
                try simp -implicitDefEqProofs (maxSteps := 4000000) (disch := first | omega | decide | (simp only [go_sem]; omega)) only [go_sem, ↓reduceIte]
                repeat (with_reducible refine And.intro (by first | assumption | omega | (simp; done) | (simp; omega)) ?_)
                refine toEnd hC ?_
                refine endX_seq ?_
                refine runX_condF rfl rfl ?_
                refine runX_seq ?_
                refine runX_regionC fun C hC => ?_
                try simp -implicitDefEqProofs (maxSteps := 4000000) (disch := first | omega | decide | (simp only [go_sem]; omega)) only [go_sem, ↓reduceIte]
                repeat (with_reducible refine And.intro (by first | assumption | omega | (simp; done) | (simp; omega)) ?_)
                refine toEnd hC ?_
                refine endX_seq ?_
                rcases iteB_some h with ⟨c16, h⟩ | ⟨c16, h⟩
                · refine runX_condT rfl c16 ?_
                  refine runX_seq ?_
                  refine runX_regionC fun C hC => ?_
                  try simp -implicitDefEqProofs (maxSteps := 4000000) (disch := first | omega | decide | (simp only [go_sem]; omega)) only [go_sem, ↓reduceIte]
                  repeat (with_reducible refine And.intro (by first | assumption | omega | (simp; done) | (simp; omega)) ?_)
                  refine toEnd hC ?_
                  refine endX_seq ?_
                  refine runX_regionC fun C hC => ?_
                  try simp -implicitDefEqProofs (maxSteps := 4000000) (disch := first | omega | decide | (simp only [go_sem]; omega)) only [go_sem, ↓reduceIte]
                  repeat (with_reducible refine And.intro (by first | assumption | omega | (simp; done) | (simp; omega)) ?_)
                  refine toEnd hC ?_
                  refine endX_blk ?_
                  refine endX_blk ?_
                  refine endX_q (roundQ_normal ⟨m1, by omega, F10_S1 a0 a1 x1 (IntKind.wrap .i64 (x2 + (1 : Int))) (IntKind.wrap .i64 (x1 + (1 : Int))) (IntKind.wrap .i64 (x2 + (1 : Int))), ?_, x1, (IntKind.wrap .i64 (x2 + (1 : Int))), (IntKind.wrap .i64 (x1 + (1 : Int))), (IntKind.wrap .i64 (x2 + (1 : Int))), rfl, by omega, h⟩)
                  simp only [F10_S1]
                  (try simp -implicitDefEqProofs (maxSteps := 4000000) (disch := first | omega | decide | (simp only [go_sem]; omega)) only [go_sem, ↓reduceIte])
                  first | exact leS_refl _ | (refine leS_le ?_ ?_ <;> first | exact leL_refl _ | exact leOs_refl _ | (repeat (first | exact leL_refl _ | refine leL_cons (by first | exact leT_refl _ | exact leT_virt | exact leT_junk _ | exact leT_sl | exact leT_sln | exact leT_nil) ?_)))
                · refine runX_condF rfl c16 ?_
                  refine runX_seq ?_
                  refine runX_regionC fun C hC => ?_
                  try simp -implicitDefEqProofs (maxSteps := 4000000) (disch := first | omega | decide | (simp only [go_sem]; omega)) only [go_sem, ↓reduceIte]
                  repeat (with_reducible refine And.intro (by first | assumption | omega | (simp; done) | (simp; omega)) ?_)
                  refine toEnd hC ?_
                  refine endX_seq ?_
                  refine runX_ret ?_
                  refine endX_blkR ?_
                  refine endX_blkR ?_
                  refine endX_q (roundQ_ret ?_)
                  refine endX_blkR ?_
                  refine endX_seqR ?_
                  refine endX_q ?_
                  obtain rfl := Option.some.inj h
                  show RetW _ _ _ _ _
                  simp only [RetW]
                  (try simp -implicitDefEqProofs (maxSteps := 4000000) (disch := first | omega | decide | (simp only [go_sem]; omega)) only [go_sem, ↓reduceIte])
                  (try simp (disch := omega) only [if_pos, Nat.sub_zero])
                  exact leT_refl _
          · refine guardK_F c6 ?_
            try simp -implicitDefEqProofs (maxSteps := 4000000) (disch := first | omega | decide | (simp only [go_sem]; omega)) only [go_sem, ↓reduceIte]
            repeat (with_reducible refine And.intro (by first | assumption | omega | (simp; done) | (simp; omega)) ?_)
            refine toEnd hC ?_
            refine endX_seq ?_
            refine runX_condF rfl rfl ?_
            refine runX_seq ?_
            refine runX_drawC mixed (by kernel_rfl) fun C hC => ?_
            try simp -implicitDefEqProofs (maxSteps := 4000000) (disch := first | omega | decide | (simp only [go_sem]; omega)) only [go_sem, ↓reduceIte]
            repeat (with_reducible refine And.intro (by first | assumption | omega | (simp; done) | (simp; omega)) ?_)
            rcases iteB_some h with ⟨c17, h⟩ | ⟨c17, h⟩
            · refine guardD_T c17 ?_
              obtain ⟨g18, h⟩ := grd_some h
              try simp -implicitDefEqProofs (maxSteps := 4000000) (disch := first | omega | decide | (simp only [go_sem]; omega)) only [go_sem, ↓reduceIte]
              repeat (with_reducible refine And.intro (by first | assumption | omega | (simp; done) | (simp; omega)) ?_)
              rcases iteB_some h with ⟨c19, h⟩ | ⟨c19, h⟩
              · refine guardD_F c19 ?_
                try simp -implicitDefEqProofs (maxSteps := 4000000) (disch := first | omega | decide | (simp only [go_sem]; omega)) only [go_sem, ↓reduceIte]
                repeat (with_reducible refine And.intro (by first | assumption | omega | (simp; done) | (simp; omega)) ?_)
                refine toEnd hC ?_
                refine endX_seq ?_
                refine runX_condT rfl rfl ?_
                refine runX_seq ?_
                refine runX_regionC fun C hC => ?_
                try simp -implicitDefEqProofs (maxSteps := 4000000) (disch := first | omega | decide | (simp only [go_sem]; omega)) only [go_sem, ↓reduceIte]
                repeat (with_reducible refine And.intro (by first | assumption | omega | (simp; done) | (simp; omega)) ?_)
                refine toEnd hC ?_
                refine endX_seq ?_
                refine runX_regionC fun C hC => ?_
                try simp -implicitDefEqProofs (maxSteps := 4000000) (disch := first | omega | decide | (simp only [go_sem]; omega)) only [go_sem, ↓reduceIte]
                repeat (with_reducible refine And.intro (by first | assumption | omega | (simp; done) | (simp; omega)) ?_)
                refine toEnd hC ?_
                refine endX_blk ?_
                refine endX_blk ?_
                refine endX_q (roundQ_normal ⟨m1, by omega, F10_S1 a0 a1 x1 x2 (IntKind.wrap .i64 (x3 + (1 : Int))) (IntKind.wrap .i64 (x4 + (1 : Int))), ?_, x1, x2, (IntKind.wrap .i64 (x3 + (1 : Int))), (IntKind.wrap .i64 (x4 + (1 : Int))), rfl, by omega, h⟩)
                simp only [F10_S1]
                (try simp -implicitDefEqProofs (maxSteps := 4000000) (disch := first | omega | decide | (simp only [go_sem]; omega)) only [go_sem, ↓reduceIte])
                first | exact leS_refl _ | (refine leS_le ?_ ?_ <;> first | exact leL_refl _ | exact leOs_refl _ | (repeat (first | exact leL_refl _ | refine leL_cons (by first | exact leT_refl _ | exact leT_virt | exact leT_junk _ | exact leT_sl | exact leT_sln | exact leT_nil) ?_)))
              · refine guardD_T c19 ?_
                obtain ⟨g20, h⟩ := grd_some h
                obtain ⟨g21, h⟩ := grd_some h
                try simp -implicitDefEqProofs (maxSteps := 4000000) (disch := first | omega | decide | (simp only [go_sem]; omega)) only [go_sem, ↓reduceIte]
                repeat (with_reducible refine And.intro (by first | assumption | omega | (simp; done) | (simp; omega)) ?_)
                refine toEnd hC ?_
                refine endX_seq ?_
                rcases iteB_some h with ⟨c22, h⟩ | ⟨c22, h⟩
                · refine runX_condT rfl c22 ?_
                  refine runX_seq ?_
                  refine runX_regionC fun C hC => ?_
                  try simp -implicitDefEqProofs (maxSteps := 4000000) (disch := first | omega | decide | (simp only [go_sem]; omega)) only [go_sem, ↓reduceIte]
                  repeat (with_reducible refine And.intro (by first | assumption | omega | (simp; done) | (simp; omega)) ?_)
                  refine toEnd hC ?_
                  refine endX_seq ?_
                  refine runX_regionC fun C hC => ?_
                  try simp -implicitDefEqProofs (maxSteps := 4000000) (disch := first | omega | decide | (simp only [go_sem]; omega)) only [go_sem, ↓reduceIte]
                  repeat (with_reducible refine And.intro (by first | assumption | omega | (simp; done) | (simp; omega)) ?_)
                  refine toEnd hC ?_
                  refine endX_blk ?_
                  refine endX_blk ?_
                  refine endX_q (roundQ_normal ⟨m1, by omega, F10_S1 a0 a1 x1 x2 (IntKind.wrap .i64 (x3 + (1 : Int))) (IntKind.wrap .i64 (x4 + (1 : Int))), ?_, x1, x2, (IntKind.wrap .i64 (x3 + (1 : Int))), (IntKind.wrap .i64 (x4 + (1 : Int))), rfl, by omega, h⟩)
                  simp only [F10_S1]
                  (try simp -implicitDefEqProofs (maxSteps := 4000000) (disch := first | omega | decide | (simp only [go_sem]; omega)) only [go_sem, ↓reduceIte])
                  first | exact leS_refl _ | (refine leS_le ?_ ?_ <;> first | exact leL_refl _ | exact leOs_refl _ | (repeat (first | exact leL_refl _ | refine leL_cons (by first | exact leT_refl _ | exact leT_virt | exact leT_junk _ | exact leT_sl | exact leT_sln | exact leT_nil) ?_)))
                · refine runX_condF rfl c22 ?_
                  refine runX_seq ?_
                  refine runX_regionC fun C hC => ?_
                  try simp -implicitDefEqProofs (maxSteps := 4000000) (disch := first | omega | decide | (simp only [go_sem]; omega)) only [go_sem, ↓reduceIte]
                  repeat (with_reducible refine And.intro (by first | assumption | omega | (simp; done) | (simp; omega)) ?_)
                  refine toEnd hC ?_
                  refine endX_seq ?_
                  rcases iteB_some h with ⟨c23, h⟩ | ⟨c23, h⟩
                  · refine runX_condT rfl c23 ?_
                    refine runX_seq ?_
                    refine runX_regionC fun C hC => ?_
                    try simp -implicitDefEqProofs (maxSteps := 4000000) (disch := first | omega | decide | (simp only [go_sem]; omega)) only [go_sem, ↓reduceIte]
                    repeat (with_reducible refine And.intro (by first | assumption | omega | (simp; done) | (simp; omega)) ?_)
                    refine toEnd hC ?_
                    refine endX_seq ?_
                    refine runX_regionC fun C hC => ?_
                    try simp -implicitDefEqProofs (maxSteps := 4000000) (disch := first | omega | decide | (simp only [go_sem]; omega)) only [go_sem, ↓reduceIte]
                    repeat (with_reducible refine And.intro (by first | assumption | omega | (simp; done) | (simp; omega)) ?_)
                    refine toEnd hC ?_
                    refine endX_blk ?_
                    refine endX_blk ?_
                    refine endX_q (roundQ_normal ⟨m1, by omega, F10_S1 a0 a1 x1 (IntKind.wrap .i64 (x2 + (1 : Int))) (IntKind.wrap .i64 (x1 + (1 : Int))) (IntKind.wrap .i64 (x2 + (1 : Int))), ?_, x1, (IntKind.wrap .i64 (x2 + (1 : Int))), (IntKind.wrap .i64 (x1 + (1 : Int))), (IntKind.wrap .i64 (x2 + (1 : Int))), rfl, by omega, h⟩)
                    simp only [F10_S1]
                    (try simp -implicitDefEqProofs (maxSteps := 4000000) (disch := first | omega | decide | (simp only [go_sem]; omega)) only [go_sem, ↓reduceIte])
                    first | exact leS_refl _ | (refine leS_le ?_ ?_ <;> first | exact leL_refl _ | exact leOs_refl _ | (repeat (first | exact leL_refl _ | refine leL_cons (by first | exact leT_refl _ | exact leT_virt | exact leT_junk _ | exact leT_sl | exact leT_sln | exact leT_nil) ?_)))
                  · refine runX_condF rfl c23 ?_
                    refine runX_seq ?_
                    refine runX_regionC fun C hC => ?_
                    try simp -implicitDefEqProofs (maxSteps := 4000000) (disch := first | omega | decide | (simp only [go_sem]; omega)) only [go_sem, ↓reduceIte]
                    repeat (with_reducible refine And.intro (by first | assumption | omega | (simp; done) | (simp; omega)) ?_)
                    refine toEnd hC ?_
                    refine endX_seq ?_
                    refine runX_ret ?_
                    refine endX_blkR ?_
                    refine endX_blkR ?_
                    refine endX_q (roundQ_ret ?_)
                    refine endX_blkR ?_
                    refine endX_seqR ?_
                    refine endX_q ?_
                    obtain rfl := Option.some.inj h
                    show RetW _ _ _ _ _
                    simp only [RetW]
                    (try simp -implicitDefEqProofs (maxSteps := 4000000) (disch := first | omega | decide | (simp only [go_sem]; omega)) only [go_sem, ↓reduceIte])
                    (try simp (disch := omega) only [if_pos, Nat.sub_zero])
                    exact leT_refl _
            · refine guardD_F c17 ?_
              try simp -implicitDefEqProofs (maxSteps := 4000000) (disch := first | omega | decide | (simp only [go_sem]; omega)) only [go_sem, ↓reduceIte]
              repeat (with_reducible refine And.intro (by first | assumption | omega | (simp; done) | (simp; omega)) ?_)
              refine toEnd hC ?_
              refine endX_seq ?_
              refine runX_condF rfl rfl ?_
              refine runX_seq ?_
              refine runX_regionC fun C hC => ?_
              try simp -implicitDefEqProofs (maxSteps := 4000000) (disch := first | omega | decide | (simp only [go_sem]; omega)) only [go_sem, ↓reduceIte]
              repeat (with_reducible refine And.intro (by first | assumption | omega | (simp; done) | (simp; omega)) ?_)
              refine toEnd hC ?_
              refine endX_seq ?_
              rcases iteB_some h with ⟨c24, h⟩ | ⟨c24, h⟩
              · refine runX_condT rfl c24 ?_
                refine runX_seq ?_
                refine runX_regionC fun C hC => ?_
                try simp -implicitDefEqProofs (maxSteps := 4000000) (disch := first | omega | decide | (simp only [go_sem]; omega)) only [go_sem, ↓reduceIte]
                repeat (with_reducible refine And.intro (by first | assumption | omega | (simp; done) | (simp; omega)) ?_)
                refine toEnd hC ?_
                refine endX_seq ?_
                refine runX_regionC fun C hC => ?_
                try simp -implicitDefEqProofs (maxSteps := 4000000) (disch := first | omega | decide | (simp only [go_sem]; omega)) only [go_sem, ↓reduceIte]
                repeat (with_reducible refine And.intro (by first | assumption | omega | (simp; done) | (simp; omega)) ?_)
                refine toEnd hC ?_
                refine endX_blk ?_
                refine endX_blk ?_
                refine endX_q (roundQ_normal ⟨m1, by omega, F10_S1 a0 a1 x1 (IntKind.wrap .i64 (x2 + (1 : Int))) (IntKind.wrap .i64 (x1 + (1 : Int))) (IntKind.wrap .i64 (x2 + (1 : Int))), ?_, x1, (IntKind.wrap .i64 (x2 + (1 : Int))), (IntKind.wrap .i64 (x1 + (1 : Int))), (IntKind.wrap .i64 (x2 + (1 : Int))), rfl, by omega, h⟩)
                simp only [F10_S1]
                (try simp -implicitDefEqProofs (maxSteps := 4000000) (disch := first | omega | decide | (simp only [go_sem]; omega)) only [go_sem, ↓reduceIte])
                first | exact leS_refl _ | (refine leS_le ?_ ?_ <;> first | exact leL_refl _ | exact leOs_refl _ | (repeat (first | exact leL_refl _ | refine leL_cons (by first | exact leT_refl _ | exact leT_virt | exact leT_junk _ | exact leT_sl | exact leT_sln | exact leT_nil) ?_)))
              · refine runX_condF rfl c24 ?_
                refine runX_seq ?_
                refine runX_regionC fun C hC => ?_
                try simp -implicitDefEqProofs (maxSteps := 4000000) (disch := first | omega | decide | (simp only [go_sem]; omega)) only [go_sem, ↓reduceIte]
                repeat (with_reducible refine And.intro (by first | assumption | omega | (simp; done) | (simp; omega)) ?_)
                refine toEnd hC ?_
                refine endX_seq ?_
                refine runX_ret ?_
                refine endX_blkR ?_
                refine endX_blkR ?_
                refine endX_q (roundQ_ret ?_)
                refine endX_blkR ?_
                refine endX_seqR ?_
                refine endX_q ?_
                obtain rfl := Option.some.inj h
                show RetW _ _ _ _ _
                simp only [RetW]
                (try simp -implicitDefEqProofs (maxSteps := 4000000) (disch := first | omega | decide | (simp only [go_sem]; omega)) only [go_sem, ↓reduceIte])
                (try simp (disch := omega) only [if_pos, Nat.sub_zero])
                exact leT_refl _
        · refine runX_condF rfl c5 ?_
          refine runX_exit ?_
          refine endX_seqE ?_
          refine endX_q (roundQ_exit ?_)
          refine endX_blkE ?_
          refine endX_seq ?_
          refine runX_seq ?_
          refine runX_regionC fun C hC => ?_
          obtain ⟨g25, h⟩ := grd_some h
          obtain ⟨v26, h26, h⟩ := bnd_some h
          try simp -implicitDefEqProofs (maxSteps := 4000000) (disch := first | omega | decide | (simp only [go_sem]; omega)) only [go_sem, ↓reduceIte]
          repeat (with_reducible refine And.intro (by first | assumption | omega | (simp; done) | (simp; omega)) ?_)
          refine callG_X (F30_ok m1 (a0.drop x3.toNat) ([42] : List UInt8) _ h26) (by repeat (first | exact leL_refl _ | refine leL_cons (by first | exact leT_refl _ | exact leT_virt | exact leT_junk _ | exact leT_sl | exact leT_sln | exact leT_nil) ?_)) ?_
          try simp -implicitDefEqProofs (maxSteps := 4000000) (disch := first | omega | decide | (simp only [go_sem]; omega)) only [go_sem, ↓reduceIte]
          repeat (with_reducible refine And.intro (by first | assumption | omega | (simp; done) | (simp; omega)) ?_)
          refine toEnd hC ?_
          refine endX_seq ?_
          refine runX_ret ?_
          refine endX_q ?_
          obtain rfl := Option.some.inj h
          show RetW _ _ _ _ _
          simp only [RetW]
          (try simp -implicitDefEqProofs (maxSteps := 4000000) (disch := first | omega | decide | (simp only [go_sem]; omega)) only [go_sem, ↓reduceIte])
          (try simp (disch := omega) only [if_pos, Nat.sub_zero])
          exact leT_refl _
end Go.Proofs.YtjkfobmfddfjhaaDoorX

set_option linter.unusedVariables false
set_option linter.unusedSimpArgs false
namespace Go.Proofs.YtjkfobmfddfjhaaDoorX
open Go Go.RowKit Go.Proofs
set_option maxRecDepth 100000
attribute [local go_sem] String.reduceEq String.reduceNe reduceCtorEq Int.reduceEq Nat.reduceAdd Nat.reduceSub Nat.reduceMul Nat.reduceLT Nat.reduceLeDiff Nat.reduceEqDiff Nat.reduceBEq Int.reduceToNat Int.reduceLT Int.reduceLE Int.reduceGT Int.reduceGE Int.reduceAdd Int.reduceSub Int.reduceMul Int.reduceNeg Int.reduceBEq Int.reduceBNe Int.reducePow Int.reduceDiv Int.reduceMod Int.reduceTDiv Int.reduceTMod Int.reduceNatCast
/-! ### shadowboxlaw42.size -/
def F11_S4 (a0 : List ((Bool) × (List (List UInt8)) × (List (List UInt8)) × (List (List UInt8)))) (x2 : Int) (x24 : Int) (x25 : Int) : St := ⟨[.sl 4 false (List.map eT33 a0), .junk, .junk, .imm (.int .i64 x24), .imm (.int .i64 x2), .imm (.int .i64 (2 : Int)), .sl 1 false (List.map eS ((a0.getD x2.toNat default).2.2.2)), .imm (.int .i64 x25), .junk, .junk, .junk, .junk, .junk, .junk, .junk, .junk, .junk, .junk, .junk, .junk, .junk, .junk, .junk, .junk, .junk, .junk, .junk, .junk, .junk, .junk, .junk, .junk, .junk, .junk, .junk, .junk, .junk, .junk, .junk, .junk, .junk, .junk, .junk, .junk, .junk, .junk, .junk, .junk, .junk, .junk, .junk, .junk, .junk, .junk, .junk, .junk, .junk, .junk, .junk, .junk, .junk, .junk], []⟩
def F11_S5 (a0 : List ((Bool) × (List (List UInt8)) × (List (List UInt8)) × (List (List UInt8)))) (x2 : Int) (x32 : Int) (x33 : Int) : St := ⟨[.sl 4 false (List.map eT33 a0), .junk, .junk, .imm (.int .i64 x32), .imm (.int .i64 x2), .imm (.int .i64 (2 : Int)), .sl 1 false (List.map eS ((a0.getD x2.toNat default).2.2.2)), .imm (.int .i64 x33), .junk, .junk, .junk, .junk, .junk, .junk, .junk, .junk, .junk, .junk, .junk, .junk, .junk, .junk, .junk, .junk, .junk, .junk, .junk, .junk, .junk, .junk, .junk, .junk, .junk, .junk, .junk, .junk, .junk, .junk, .junk, .junk, .junk, .junk, .junk, .junk, .junk, .junk, .junk, .junk, .junk, .junk, .junk, .junk, .junk, .junk, .junk, .junk, .junk, .junk, .junk, .junk, .junk, .junk], []⟩
def F11_S3 (a0 : List ((Bool) × (List (List UInt8)) × (List (List UInt8)) × (List (List UInt8)))) (x2 : Int) (x16 : Int) (x17 : Int) : St := ⟨[.sl 4 false (List.map eT33 a0), .junk, .junk, .imm (.int .i64 x16), .imm (.int .i64 x2), .imm (.int .i64 (1 : Int)), .sl 1 false (List.map eS ((a0.getD x2.toNat default).2.2.1)), .imm (.int .i64 x17), .junk, .junk, .junk, .junk, .junk, .junk, .junk, .junk, .junk, .junk, .junk, .junk, .junk, .junk, .junk, .junk, .junk, .junk, .junk, .junk, .junk, .junk, .junk, .junk, .junk, .junk, .junk, .junk, .junk, .junk, .junk, .junk, .junk, .junk, .junk, .junk, .junk, .junk, .junk, .junk, .junk, .junk, .junk, .junk, .junk, .junk, .junk, .junk, .junk, .junk, .junk, .junk, .junk, .junk], []⟩
def F11_S7 (a0 : List ((Bool) × (List (List UInt8)) × (List (List UInt8)) × (List (List UInt8)))) (x2 : Int) (x48 : Int) (x49 : Int) : St := ⟨[.sl 4 false (List.map eT33 a0), .junk, .junk, .imm (.int .i64 x48), .imm (.int .i64 x2), .imm (.int .i64 (2 : Int)), .sl 1 false (List.map eS ((a0.getD x2.toNat default).2.2.2)), .imm (.int .i64 x49), .junk, .junk, .junk, .junk, .junk, .junk, .junk, .junk, .junk, .junk, .junk, .junk, .junk, .junk, .junk, .junk, .junk, .junk, .junk, .junk, .junk, .junk, .junk, .junk, .junk, .junk, .junk, .junk, .junk, .junk, .junk, .junk, .junk, .junk, .junk, .junk, .junk, .junk, .junk, .junk, .junk, .junk, .junk, .junk, .junk, .junk, .junk, .junk, .junk, .junk, .junk, .junk, .junk, .junk], []⟩
def F11_S8 (a0 : List ((Bool) × (List (List UInt8)) × (List (List UInt8)) × (List (List UInt8)))) (x2 : Int) (x56 : Int) (x57 : Int) : St := ⟨[.sl 4 false (List.map eT33 a0), .junk, .junk, .imm (.int .i64 x56), .imm (.int .i64 x2), .imm (.int .i64 (2 : Int)), .sl 1 false (List.map eS ((a0.getD x2.toNat default).2.2.2)), .imm (.int .i64 x57), .junk, .junk, .junk, .junk, .junk, .junk, .junk, .junk, .junk, .junk, .junk, .junk, .junk, .junk, .junk, .junk, .junk, .junk, .junk, .junk, .junk, .junk, .junk, .junk, .junk, .junk, .junk, .junk, .junk, .junk, .junk, .junk, .junk, .junk, .junk, .junk, .junk, .junk, .junk, .junk, .junk, .junk, .junk, .junk, .junk, .junk, .junk, .junk, .junk, .junk, .junk, .junk, .junk, .junk], []⟩
def F11_S6 (a0 : List ((Bool) × (List (List UInt8)) × (List (List UInt8)) × (List (List UInt8)))) (x2 : Int) (x40 : Int) (x41 : Int) : St := ⟨[.sl 4 false (List.map eT33 a0), .junk, .junk, .imm (.int .i64 x40), .imm (.int .i64 x2), .imm (.int .i64 (1 : Int)), .sl 1 false (List.map eS ((a0.getD x2.toNat default).2.2.1)), .imm (.int .i64 x41), .junk, .junk, .junk, .junk, .junk, .junk, .junk, .junk, .junk, .junk, .junk, .junk, .junk, .junk, .junk, .junk, .junk, .junk, .junk, .junk, .junk, .junk, .junk, .junk, .junk, .junk, .junk, .junk, .junk, .junk, .junk, .junk, .junk, .junk, .junk, .junk, .junk, .junk, .junk, .junk, .junk, .junk, .junk, .junk, .junk, .junk, .junk, .junk, .junk, .junk, .junk, .junk, .junk, .junk], []⟩
def F11_S2 (a0 : List ((Bool) × (List (List UInt8)) × (List (List UInt8)) × (List (List UInt8)))) (x2 : Int) (x8 : Int) (x9 : Int) : St := ⟨[.sl 4 false (List.map eT33 a0), .junk, .junk, .imm (.int .i64 x8), .imm (.int .i64 x2), .imm (.int .i64 (0 : Int)), .sl 1 false (List.map eS ((a0.getD x2.toNat default).2.1)), .imm (.int .i64 x9), .junk, .junk, .junk, .junk, .junk, .junk, .junk, .junk, .junk, .junk, .junk, .junk, .junk, .junk, .junk, .junk, .junk, .junk, .junk, .junk, .junk, .junk, .junk, .junk, .junk, .junk, .junk, .junk, .junk, .junk, .junk, .junk, .junk, .junk, .junk, .junk, .junk, .junk, .junk, .junk, .junk, .junk, .junk, .junk, .junk, .junk, .junk, .junk, .junk, .junk, .junk, .junk, .junk, .junk], []⟩
def F11_S1 (a0 : List ((Bool) × (List (List UInt8)) × (List (List UInt8)) × (List (List UInt8)))) (x1 : Int) (x2 : Int) : St := ⟨[.sl 4 false (List.map eT33 a0), .junk, .junk, .imm (.int .i64 x1), .imm (.int .i64 x2), .junk, .junk, .junk, .junk, .junk, .junk, .junk, .junk, .junk, .junk, .junk, .junk, .junk, .junk, .junk, .junk, .junk, .junk, .junk, .junk, .junk, .junk, .junk, .junk, .junk, .junk, .junk, .junk, .junk, .junk, .junk, .junk, .junk, .junk, .junk, .junk, .junk, .junk, .junk, .junk, .junk, .junk, .junk, .junk, .junk, .junk, .junk, .junk, .junk, .junk, .junk, .junk, .junk, .junk, .junk, .junk, .junk], []⟩
mutual
def F11_L4 : Nat → (List ((Bool) × (List (List UInt8)) × (List (List UInt8)) × (List (List UInt8)))) → (Int) → (Int) → (Int) → Option (Int)
  | 0, _, _, _, _ => none
  | m4 + 1, a0, x2, x24, x25 => iteB (decide (x25 < (((a0.getD x2.toNat default).2.2.2).length : Int))) (iteB (decide (x24 < (3000 : Int))) (grd (0 ≤ x25 ∧ x25 < (((a0.getD x2.toNat default).2.2.2).length : Int)) (F11_L4 m4 a0 x2 (IntKind.wrap .i64 ((IntKind.wrap .i64 (x24 + (5 : Int))) + (if (3000 : Int) < ((((a0.getD x2.toNat default).2.2.2).getD x25.toNat default).length : Int) then (3000 : Int) else ((((a0.getD x2.toNat default).2.2.2).getD x25.toNat default).length : Int)))) (IntKind.wrap .i64 (x25 + (1 : Int))))) (F11_L1 m4 a0 (IntKind.wrap .i64 (x24 + (20 : Int))) (IntKind.wrap .i64 (x2 + (1 : Int))))) (F11_L1 m4 a0 (IntKind.wrap .i64 (x24 + (20 : Int))) (IntKind.wrap .i64 (x2 + (1 : Int))))
def F11_L5 : Nat → (List ((Bool) × (List (List UInt8)) × (List (List UInt8)) × (List (List UInt8)))) → (Int) → (Int) → (Int) → Option (Int)
  | 0, _, _, _, _ => none
  | m5 + 1, a0, x2, x32, x33 => iteB (decide (x33 < (((a0.getD x2.toNat default).2.2.2).length : Int))) (iteB (decide (x32 < (3000 : Int))) (grd (0 ≤ x33 ∧ x33 < (((a0.getD x2.toNat default).2.2.2).length : Int)) (F11_L5 m5 a0 x2 (IntKind.wrap .i64 ((IntKind.wrap .i64 (x32 + (5 : Int))) + (if (3000 : Int) < ((((a0.getD x2.toNat default).2.2.2).getD x33.toNat default).length : Int) then (3000 : Int) else ((((a0.getD x2.toNat default).2.2.2).getD x33.toNat default).length : Int)))) (IntKind.wrap .i64 (x33 + (1 : Int))))) (F11_L1 m5 a0 (IntKind.wrap .i64 (x32 + (20 : Int))) (IntKind.wrap .i64 (x2 + (1 : Int))))) (F11_L1 m5 a0 (IntKind.wrap .i64 (x32 + (20 : Int))) (IntKind.wrap .i64 (x2 + (1 : Int))))
def F11_L3 : Nat → (List ((Bool) × (List (List UInt8)) × (List (List UInt8)) × (List (List UInt8)))) → (Int) → (Int) → (Int) → Option (Int)
  | 0, _, _, _, _ => none
  | m3 + 1, a0, x2, x16, x17 => iteB (decide (x17 < (((a0.getD x2.toNat default).2.2.1).length : Int))) (iteB (decide (x16 < (3000 : Int))) (grd (0 ≤ x17 ∧ x17 < (((a0.getD x2.toNat default).2.2.1).length : Int)) (F11_L3 m3 a0 x2 (IntKind.wrap .i64 ((IntKind.wrap .i64 (x16 + (5 : Int))) + (if (3000 : Int) < ((((a0.getD x2.toNat default).2.2.1).getD x17.toNat default).length : Int) then (3000 : Int) else ((((a0.getD x2.toNat default).2.2.1).getD x17.toNat default).length : Int)))) (IntKind.wrap .i64 (x17 + (1 : Int))))) (grd (0 ≤ x2 ∧ x2 < (a0.length : Int)) (grd (0 ≤ x2 ∧ x2 < (a0.length : Int)) (grd (0 ≤ x2 ∧ x2 < (a0.length : Int)) (F11_L4 m3 a0 x2 x16 (0 : Int)))))) (grd (0 ≤ x2 ∧ x2 < (a0.length : Int)) (grd (0 ≤ x2 ∧ x2 < (a0.length : Int)) (grd (0 ≤ x2 ∧ x2 < (a0.length : Int)) (F11_L5 m3 a0 x2 x16 (0 : Int)))))
def F11_L7 : Nat → (List ((Bool) × (List (List UInt8)) × (List (List UInt8)) × (List (List UInt8)))) → (Int) → (Int) → (Int) → Option (Int)
  | 0, _, _, _, _ => none
  | m7 + 1, a0, x2, x48, x49 => iteB (decide (x49 < (((a0.getD x2.toNat default).2.2.2).length : Int))) (iteB (decide (x48 < (3000 : Int))) (grd (0 ≤ x49 ∧ x49 < (((a0.getD x2.toNat default).2.2.2).length : Int)) (F11_L7 m7 a0 x2 (IntKind.wrap .i64 ((IntKind.wrap .i64 (x48 + (5 : Int))) + (if (3000 : Int) < ((((a0.getD x2.toNat default).2.2.2).getD x49.toNat default).length : Int) then (3000 : Int) else ((((a0.getD x2.toNat default).2.2.2).getD x49.toNat default).length : Int)))) (IntKind.wrap .i64 (x49 + (1 : Int))))) (F11_L1 m7 a0 (IntKind.wrap .i64 (x48 + (20 : Int))) (IntKind.wrap .i64 (x2 + (1 : Int))))) (F11_L1 m7 a0 (IntKind.wrap .i64 (x48 + (20 : Int))) (IntKind.wrap .i64 (x2 + (1 : Int))))
def F11_L8 : Nat → (List ((Bool) × (List (List UInt8)) × (List (List UInt8)) × (List (List UInt8)))) → (Int) → (Int) → (Int) → Option (Int)
  | 0, _, _, _, _ => none
  | m8 + 1, a0, x2, x56, x57 => iteB (decide (x57 < (((a0.getD x2.toNat default).2.2.2).length : Int))) (iteB (decide (x56 < (3000 : Int))) (grd (0 ≤ x57 ∧ x57 < (((a0.getD x2.toNat default).2.2.2).length : Int)) (F11_L8 m8 a0 x2 (IntKind.wrap .i64 ((IntKind.wrap .i64 (x56 + (5 : Int))) + (if (3000 : Int) < ((((a0.getD x2.toNat default).2.2.2).getD x57.toNat default).length : Int) then (3000 : Int) else ((((a0.getD x2.toNat default).2.2.2).getD x57.toNat default).length : Int)))) (IntKind.wrap .i64 (x57 + (1 : Int))))) (F11_L1 m8 a0 (IntKind.wrap .i64 (x56 + (20 : Int))) (IntKind.wrap .i64 (x2 + (1 : Int))))) (F11_L1 m8 a0 (IntKind.wrap .i64 (x56 + (20 : Int))) (IntKind.wrap .i64 (x2 + (1 : Int))))
def F11_L6 : Nat → (List ((Bool) × (List (List UInt8)) × (List (List UInt8)) × (List (List UInt8)))) → (Int) → (Int) → (Int) → Option (Int)
  | 0, _, _, _, _ => none
  | m6 + 1, a0, x2, x40, x41 => iteB (decide (x41 < (((a0.getD x2.toNat default).2.2.1).length : Int))) (iteB (decide (x40 < (3000 : Int))) (grd (0 ≤ x41 ∧ x41 < (((a0.getD x2.toNat default).2.2.1).length : Int)) (F11_L6 m6 a0 x2 (IntKind.wrap .i64 ((IntKind.wrap .i64 (x40 + (5 : Int))) + (if (3000 : Int) < ((((a0.getD x2.toNat default).2.2.1).getD x41.toNat default).length : Int) then (3000 : Int) else ((((a0.getD x2.toNat default).2.2.1).getD x41.toNat default).length : Int)))) (IntKind.wrap .i64 (x41 + (1 : Int))))) (grd (0 ≤ x2 ∧ x2 < (a0.length : Int)) (grd (0 ≤ x2 ∧ x2 < (a0.length : Int)) (grd (0 ≤ x2 ∧ x2 < (a0.length : Int)) (F11_L7 m6 a0 x2 x40 (0 : Int)))))) (grd (0 ≤ x2 ∧ x2 < (a0.length : Int)) (grd (0 ≤ x2 ∧ x2 < (a0.length : Int)) (grd (0 ≤ x2 ∧ x2 < (a0.length : Int)) (F11_L8 m6 a0 x2 x40 (0 : Int)))))
def F11_L2 : Nat → (List ((Bool) × (List (List UInt8)) × (List (List UInt8)) × (List (List UInt8)))) → (Int) → (Int) → (Int) → Option (Int)
  | 0, _, _, _, _ => none
  | m2 + 1, a0, x2, x8, x9 => iteB (decide (x9 < (((a0.getD x2.toNat default).2.1).length : Int))) (iteB (decide (x8 < (3000 : Int))) (grd (0 ≤ x9 ∧ x9 < (((a0.getD x2.toNat default).2.1).length : Int)) (F11_L2 m2 a0 x2 (IntKind.wrap .i64 ((IntKind.wrap .i64 (x8 + (5 : Int))) + (if (3000 : Int) < ((((a0.getD x2.toNat default).2.1).getD x9.toNat default).length : Int) then (3000 : Int) else ((((a0.getD x2.toNat default).2.1).getD x9.toNat default).length : Int)))) (IntKind.wrap .i64 (x9 + (1 : Int))))) (grd (0 ≤ x2 ∧ x2 < (a0.length : Int)) (grd (0 ≤ x2 ∧ x2 < (a0.length : Int)) (grd (0 ≤ x2 ∧ x2 < (a0.length : Int)) (F11_L3 m2 a0 x2 x8 (0 : Int)))))) (grd (0 ≤ x2 ∧ x2 < (a0.length : Int)) (grd (0 ≤ x2 ∧ x2 < (a0.length : Int)) (grd (0 ≤ x2 ∧ x2 < (a0.length : Int)) (F11_L6 m2 a0 x2 x8 (0 : Int)))))
def F11_L1 : Nat → (List ((Bool) × (List (List UInt8)) × (List (List UInt8)) × (List (List UInt8)))) → (Int) → (Int) → Option (Int)
  | 0, _, _, _ => none
  | m1 + 1, a0, x1, x2 => iteB (decide (x2 < (a0.length : Int))) (iteB (decide (x1 < (3000 : Int))) (grd (0 ≤ x2 ∧ x2 < (a0.length : Int)) (grd (0 ≤ x2 ∧ x2 < (a0.length : Int)) (grd (0 ≤ x2 ∧ x2 < (a0.length : Int)) (F11_L2 m1 a0 x2 x1 (0 : Int))))) (some x1)) (some x1)
end
def F11 (n : Nat) (a0 : List ((Bool) × (List (List UInt8)) × (List (List UInt8)) × (List (List UInt8)))) : Option (Int) := F11_L1 n a0 (0 : Int) (0 : Int)
set_option maxHeartbeats 4000000 in
theorem F11_ok : ∀ (n : Nat) (a0 : List ((Bool) × (List (List UInt8)) × (List (List UInt8)) × (List (List UInt8)))) (r : Int), F11 n a0 = some r → FnC Tryd.prog 11 [.sl 4 false (List.map eT33 a0)] (.imm (.int .i64 r))
  | n, a0, r, h => by
    unfold F11 at h
    refine FnC.goX mixed Tryd.func11 (by kernel_rfl) rfl ?_
    simp only [Tryd.ntmps11, List.length_cons, List.length_nil, List.replicate, List.cons_append, List.nil_append, Nat.reduceAdd, Nat.reduceSub]
    refine runX_seq ?_
    refine runX_regionC fun C hC => ?_
    try simp -implicitDefEqProofs (maxSteps := 4000000) (disch := first | omega | decide | (simp only [go_sem]; omega)) only [go_sem, ↓reduceIte]
    repeat (with_reducible refine And.intro (by first | assumption | omega | (simp; done) | (simp; omega)) ?_)
    refine toEnd hC ?_
    refine endX_seq ?_
    refine runX_seq ?_
    refine runX_regionC fun C hC => ?_
    try simp -implicitDefEqProofs (maxSteps := 4000000) (disch := first | omega | decide | (simp only [go_sem]; omega)) only [go_sem, ↓reduceIte]
    repeat (with_reducible refine And.intro (by first | assumption | omega | (simp; done) | (simp; omega)) ?_)
    refine toEnd hC ?_
    refine endX_seq ?_
    refine runX_seq ?_
    refine runX_seq ?_
    refine runX_regionC fun C hC => ?_
    try simp -implicitDefEqProofs (maxSteps := 4000000) (disch := first | omega | decide | (simp only [go_sem]; omega)) only [go_sem, ↓reduceIte]
    repeat (with_reducible refine And.intro (by first | assumption | omega | (simp; done) | (simp; omega)) ?_)
    refine toEnd hC ?_
    refine endX_seq ?_
    refine runX_block ?_
    refine runX_loop [0, 3, 4] (fun m S => ∃ (x1 : Int) (x2 : Int), S = F11_S1 a0 x1 x2 ∧ m ≤ n ∧ F11_L1 m a0 x1 x2 = some r) n ⟨F11_S1 a0 (0 : Int) (0 : Int), ?_, (0 : Int), (0 : Int), rfl, Nat.le_refl _, h⟩ ?_
    · simp only [F11_S1]
      (try simp -implicitDefEqProofs (maxSteps := 4000000) (disch := first | omega | decide | (simp only [go_sem]; omega)) only [go_sem, ↓reduceIte])
      first | exact leS_refl _ | (refine leS_le ?_ ?_ <;> first | exact leL_refl _ | exact leOs_refl _ | (repeat (first | exact leL_refl _ | refine leL_cons (by first | exact leT_refl _ | exact leT_virt | exact leT_junk _ | exact leT_sl | exact leT_sln | exact leT_nil) ?_)))
    · clear h
      rintro m1 S ⟨x1, x2, rfl, hm1, h⟩
      cases m1 with
      | zero => first | cases (show (none : Option _) = some _ from h) | (rw [F11_L1] at h; cases h)
      | succ m1 =>
        rw [F11_L1] at h
        simp only [F11_S1]
        refine runX_seq ?_
        refine runX_seq ?_
        refine runX_regionC fun C hC => ?_
        try simp -implicitDefEqProofs (maxSteps := 4000000) (disch := first | omega | decide | (simp only [go_sem]; omega)) only [go_sem, ↓reduceIte]
        repeat (with_reducible refine And.intro (by first | assumption | omega | (simp; done) | (simp; omega)) ?_)
        rcases iteB_some h with ⟨c3, h⟩ | ⟨c3, h⟩
        · refine guardK_T c3 ?_
          try simp -implicitDefEqProofs (maxSteps := 4000000) (disch := first | omega | decide | (simp only [go_sem]; omega)) only [go_sem, ↓reduceIte]
          repeat (with_reducible refine And.intro (by first | assumption | omega | (simp; done) | (simp; omega)) ?_)
          refine toEnd hC ?_
          refine endX_seq ?_
          rcases iteB_some h with ⟨c4, h⟩ | ⟨c4, h⟩
          · refine runX_condT rfl c4 ?_
            refine runX_skip ?_
            refine endX_seq ?_
            refine runX_seq ?_
            refine runX_block ?_
            refine runX_seq ?_
            refine runX_seq ?_
            refine runX_regionC fun C hC => ?_
            try simp -implicitDefEqProofs (maxSteps := 4000000) (disch := first | omega | decide | (simp only [go_sem]; omega)) only [go_sem, ↓reduceIte]
            repeat (with_reducible refine And.intro (by first | assumption | omega | (simp; done) | (simp; omega)) ?_)
            refine toEnd hC ?_
            refine endX_seq ?_
            refine runX_block ?_
            refine runX_unroll 3 ?_
            refine runX_seq ?_
            refine runX_seq ?_
            refine runX_regionC fun C hC => ?_
            try simp -implicitDefEqProofs (maxSteps := 4000000) (disch := first | omega | decide | (simp only [go_sem]; omega)) only [go_sem, ↓reduceIte]
            repeat (with_reducible refine And.intro (by first | assumption | omega | (simp; done) | (simp; omega)) ?_)
            refine toEnd hC ?_
            refine endX_seq ?_
            refine runX_condT rfl rfl ?_
            refine runX_skip ?_
            refine endX_seq ?_
            refine runX_seq ?_
            refine runX_block ?_
            refine runX_seq ?_
            refine runX_drawC mixed (by kernel_rfl) fun C hC => ?_
            obtain ⟨g5, h⟩ := grd_some h
            obtain ⟨g6, h⟩ := grd_some h
            obtain ⟨g7, h⟩ := grd_some h
            try simp -implicitDefEqProofs (maxSteps := 4000000) (disch := first | omega | decide | (simp only [go_sem]; omega)) only [go_sem, ↓reduceIte]
            repeat (with_reducible refine And.intro (by first | assumption | omega | (simp; done) | (simp; omega)) ?_)
            refine buildW_of [.sl 1 false (List.map eS ((a0.getD x2.toNat default).2.1)), .sl 1 false (List.map eS ((a0.getD x2.toNat default).2.2.1)), .sl 1 false (List.map eS ((a0.getD x2.toNat default).2.2.2))] (by kernel_rfl) ?_
            try simp -implicitDefEqProofs (maxSteps := 4000000) (disch := first | omega | decide | (simp only [go_sem]; omega)) only [go_sem, ↓reduceIte]
            repeat (with_reducible refine And.intro (by first | assumption | omega | (simp; done) | (simp; omega)) ?_)
            refine toEnd hC ?_
            refine endX_seq ?_
            refine runX_seq ?_
            refine runX_regionC fun C hC => ?_
            try simp -implicitDefEqProofs (maxSteps := 4000000) (disch := first | omega | decide | (simp only [go_sem]; omega)) only [go_sem, ↓reduceIte]
            repeat (with_reducible refine And.intro (by first | assumption | omega | (simp; done) | (simp; omega)) ?_)
            refine toEnd hC ?_
            refine endX_seq ?_
            refine runX_block ?_
            refine runX_loop [0, 3, 4, 5, 6, 7] (fun m S => ∃ (x8 : Int) (x9 : Int), S = F11_S2 a0 x2 x8 x9 ∧ m ≤ m1 ∧ F11_L2 m a0 x2 x8 x9 = some r) m1 ⟨F11_S2 a0 x2 x1 (0 : Int), ?_, x1, (0 : Int), rfl, Nat.le_refl _, h⟩ ?_
            · simp only [F11_S2]
              (try simp -implicitDefEqProofs (maxSteps := 4000000) (disch := first | omega | decide | (simp only [go_sem]; omega)) only [go_sem, ↓reduceIte])
              first | exact leS_refl _ | (refine leS_le ?_ ?_ <;> first | exact leL_refl _ | exact leOs_refl _ | (repeat (first | exact leL_refl _ | refine leL_cons (by first | exact leT_refl _ | exact leT_virt | exact leT_junk _ | exact leT_sl | exact leT_sln | exact leT_nil) ?_)))
            · clear h
              rintro m2 S ⟨x8, x9, rfl, hm2, h⟩
              cases m2 with
              | zero => first | cases (show (none : Option _) = some _ from h) | (rw [F11_L2] at h; cases h)
              | succ m2 =>
                rw [F11_L2] at h
                simp only [F11_S2]
                refine runX_seq ?_
                refine runX_seq ?_
                refine runX_regionC fun C hC => ?_
                try simp -implicitDefEqProofs (maxSteps := 4000000) (disch := first | omega | decide | (simp only [go_sem]; omega)) only [go_sem, ↓reduceIte]
                repeat (with_reducible refine And.intro (by first | assumption | omega | (simp; done) | (simp; omega)) ?_)
                rcases iteB_some h with ⟨c10, h⟩ | ⟨c10, h⟩
                · refine guardK_T c10 ?_
                  try simp -implicitDefEqProofs (maxSteps := 4000000) (disch := first | omega | decide | (simp only [go_sem]; omega)) only [go_sem, ↓reduceIte]
                  repeat (with_reducible refine And.intro (by first | assumption | omega | (simp; done) | (simp; omega)) ?_)
                  refine toEnd hC ?_
                  refine endX_seq ?_
                  rcases iteB_some h with ⟨c11, h⟩ | ⟨c11, h⟩
                  · refine runX_condT rfl c11 ?_
                    refine runX_skip ?_
                    refine endX_seq ?_
                    refine runX_seq ?_
                    refine runX_block ?_
                    refine runX_regionC fun C hC => ?_
                    obtain ⟨g12, h⟩ := grd_some h
                    try simp -implicitDefEqProofs (maxSteps := 4000000) (disch := first | omega | decide | (simp only [go_sem]; omega)) only [go_sem, ↓reduceIte]
                    repeat (with_reducible refine And.intro (by first | assumption | omega | (simp; done) | (simp; omega)) ?_)
                    refine toEnd hC ?_
                    refine endX_blk ?_
                    refine endX_seq ?_
                    refine runX_regionC fun C hC => ?_
                    try simp -implicitDefEqProofs (maxSteps := 4000000) (disch := first | omega | decide | (simp only [go_sem]; omega)) only [go_sem, ↓reduceIte]
                    repeat (with_reducible refine And.intro (by first | assumption | omega | (simp; done) | (simp; omega)) ?_)
                    refine toEnd hC ?_
                    refine endX_q (roundQ_normal ⟨m2, by omega, F11_S2 a0 x2 (IntKind.wrap .i64 ((IntKind.wrap .i64 (x8 + (5 : Int))) + (if (3000 : Int) < ((((a0.getD x2.toNat default).2.1).getD x9.toNat default).length : Int) then (3000 : Int) else ((((a0.getD x2.toNat default).2.1).getD x9.toNat default).length : Int)))) (IntKind.wrap .i64 (x9 + (1 : Int))), ?_, (IntKind.wrap .i64 ((IntKind.wrap .i64 (x8 + (5 : Int))) + (if (3000 : Int) < ((((a0.getD x2.toNat default).2.1).getD x9.toNat default).length : Int) then (3000 : Int) else ((((a0.getD x2.toNat default).2.1).getD x9.toNat default).length : Int)))), (IntKind.wrap .i64 (x9 + (1 : Int))), rfl, by omega, h⟩)
                    simp only [F11_S2]
                    (try simp -implicitDefEqProofs (maxSteps := 4000000) (disch := first | omega | decide | (simp only [go_sem]; omega)) only [go_sem, ↓reduceIte])
                    first | exact leS_refl _ | (refine leS_le ?_ ?_ <;> first | exact leL_refl _ | exact leOs_refl _ | (repeat (first | exact leL_refl _ | refine leL_cons (by first | exact leT_refl _ | exact leT_virt | exact leT_junk _ | exact leT_sl | exact leT_sln | exact leT_nil) ?_)))
                  · refine runX_condF rfl c11 ?_
                    refine runX_exit ?_
                    refine endX_seqE ?_
                    refine endX_q (roundQ_exit ?_)
                    refine endX_blkE ?_
                    refine endX_blk ?_
                    refine endX_seq ?_
                    refine runX_regionC fun C hC => ?_
                    try simp -implicitDefEqProofs (maxSteps := 4000000) (disch := first | omega | decide | (simp only [go_sem]; omega)) only [go_sem, ↓reduceIte]
                    repeat (with_reducible refine And.intro (by first | assumption | omega | (simp; done) | (simp; omega)) ?_)
                    refine toEnd hC ?_
                    refine endX_lp ?_
                    refine runX_seq ?_
                    refine runX_seq ?_
                    refine runX_regionC fun C hC => ?_
                    try simp -implicitDefEqProofs (maxSteps := 4000000) (disch := first | omega | decide | (simp only [go_sem]; omega)) only [go_sem, ↓reduceIte]
                    repeat (with_reducible refine And.intro (by first | assumption | omega | (simp; done) | (simp; omega)) ?_)
                    refine toEnd hC ?_
                    refine endX_seq ?_
                    refine runX_condT rfl rfl ?_
                    refine runX_skip ?_
                    refine endX_seq ?_
                    refine runX_seq ?_
                    refine runX_block ?_
                    refine runX_seq ?_
                    refine runX_drawC mixed (by kernel_rfl) fun C hC => ?_
                    obtain ⟨g13, h⟩ := grd_some h
                    obtain ⟨g14, h⟩ := grd_some h
                    obtain ⟨g15, h⟩ := grd_some h
                    try simp -implicitDefEqProofs (maxSteps := 4000000) (disch := first | omega | decide | (simp only [go_sem]; omega)) only [go_sem, ↓reduceIte]
                    repeat (with_reducible refine And.intro (by first | assumption | omega | (simp; done) | (simp; omega)) ?_)
                    refine buildW_of [.sl 1 false (List.map eS ((a0.getD x2.toNat default).2.1)), .sl 1 false (List.map eS ((a0.getD x2.toNat default).2.2.1)), .sl 1 false (List.map eS ((a0.getD x2.toNat default).2.2.2))] (by kernel_rfl) ?_
                    try simp -implicitDefEqProofs (maxSteps := 4000000) (disch := first | omega | decide | (simp only [go_sem]; omega)) only [go_sem, ↓reduceIte]
                    repeat (with_reducible refine And.intro (by first | assumption | omega | (simp; done) | (simp; omega)) ?_)
                    refine toEnd hC ?_
                    refine endX_seq ?_
                    refine runX_seq ?_
                    refine runX_regionC fun C hC => ?_
                    try simp -implicitDefEqProofs (maxSteps := 4000000) (disch := first | omega | decide | (simp only [go_sem]; omega)) only [go_sem, ↓reduceIte]
                    repeat (with_reducible refine And.intro (by first | assumption | omega | (simp; done) | (simp; omega)) ?_)
                    refine toEnd hC ?_
                    refine endX_seq ?_
                    refine runX_block ?_
                    refine runX_loop [0, 3, 4, 5, 6, 7] (fun m S => ∃ (x16 : Int) (x17 : Int), S = F11_S3 a0 x2 x16 x17 ∧ m ≤ m2 ∧ F11_L3 m a0 x2 x16 x17 = some r) m2 ⟨F11_S3 a0 x2 x8 (0 : Int), ?_, x8, (0 : Int), rfl, Nat.le_refl _, h⟩ ?_
                    · simp only [F11_S3]
                      (try simp -implicitDefEqProofs (maxSteps := 4000000) (disch := first | omega | decide | (simp only [go_sem]; omega)) only [go_sem, ↓reduceIte])
                      first | exact leS_refl _ | (refine leS_le ?_ ?_ <;> first | exact leL_refl _ | exact leOs_refl _ | (repeat (first | exact leL_refl _ | refine leL_cons (by first | exact leT_refl _ | exact leT_virt | exact leT_junk _ | exact leT_sl | exact leT_sln | exact leT_nil) ?_)))
                    · clear h
                      rintro m3 S ⟨x16, x17, rfl, hm3, h⟩
                      cases m3 with
                      | zero => first | cases (show (none : Option _) = some _ from h) | (rw [F11_L3] at h; cases h)
                      | succ m3 =>
                        rw [F11_L3] at h
                        simp only [F11_S3]
                        refine runX_seq ?_
                        refine runX_seq ?_
                        refine runX_regionC fun C hC => ?_
                        try simp -implicitDefEqProofs (maxSteps := 4000000) (disch := first | omega | decide | (simp only [go_sem]; omega)) only [go_sem, ↓reduceIte]
                        repeat (with_reducible refine And.intro (by first | assumption | omega | (simp; done) | (simp; omega)) ?_)
                        rcases iteB_some h with ⟨c18, h⟩ | ⟨c18, h⟩
                        · refine guardK_T c18 ?_
                          try simp -implicitDefEqProofs (maxSteps := 4000000) (disch := first | omega | decide | (simp only [go_sem]; omega)) only [go_sem, ↓reduceIte]
                          repeat (with_reducible refine And.intro (by first | assumption | omega | (simp; done) | (simp; omega)) ?_)
                          refine toEnd hC ?_
                          refine endX_seq ?_
                          rcases iteB_some h with ⟨c19, h⟩ | ⟨c19, h⟩
                          · refine runX_condT rfl c19 ?_
                            refine runX_skip ?_
                            refine endX_seq ?_
                            refine runX_seq ?_
                            refine runX_block ?_
                            refine runX_regionC fun C hC => ?_
                            obtain ⟨g20, h⟩ := grd_some h
                            try simp -implicitDefEqProofs (maxSteps := 4000000) (disch := first | omega | decide | (simp only [go_sem]; omega)) only [go_sem, ↓reduceIte]
                            repeat (with_reducible refine And.intro (by first | assumption | omega | (simp; done) | (simp; omega)) ?_)
                            refine toEnd hC ?_
                            refine endX_blk ?_
                            refine endX_seq ?_
                            refine runX_regionC fun C hC => ?_
                            try simp -implicitDefEqProofs (maxSteps := 4000000) (disch := first | omega | decide | (simp only [go_sem]; omega)) only [go_sem, ↓reduceIte]
                            repeat (with_reducible refine And.intro (by first | assumption | omega | (simp; done) | (simp; omega)) ?_)
                            refine toEnd hC ?_
                            refine endX_q (roundQ_normal ⟨m3, by omega, F11_S3 a0 x2 (IntKind.wrap .i64 ((IntKind.wrap .i64 (x16 + (5 : Int))) + (if (3000 : Int) < ((((a0.getD x2.toNat default).2.2.1).getD x17.toNat default).length : Int) then (3000 : Int) else ((((a0.getD x2.toNat default).2.2.1).getD x17.toNat default).length : Int)))) (IntKind.wrap .i64 (x17 + (1 : Int))), ?_, (IntKind.wrap .i64 ((IntKind.wrap .i64 (x16 + (5 : Int))) + (if (3000 : Int) < ((((a0.getD x2.toNat default).2.2.1).getD x17.toNat default).length : Int) then (3000 : Int) else ((((a0.getD x2.toNat default).2.2.1).getD x17.toNat default).length : Int)))), (IntKind.wrap .i64 (x17 + (1 : Int))), rfl, by omega, h⟩)
                            simp only [F11_S3]
                            (try simp -implicitDefEqProofs (maxSteps := 4000000) (disch := first | omega | decide | (simp only [go_sem]; omega)) only [go_sem, ↓reduceIte])
                            first | exact leS_refl _ | (refine leS_le ?_ ?_ <;> first | exact leL_refl _ | exact leOs_refl _ | (repeat (first | exact leL_refl _ | refine leL_cons (by first | exact leT_refl _ | exact leT_virt | exact leT_junk _ | exact leT_sl | exact leT_sln | exact leT_nil) ?_)))
                          · refine runX_condF rfl c19 ?_
                            refine runX_exit ?_
                            refine endX_seqE ?_
                            refine endX_q (roundQ_exit ?_)
                            refine endX_blkE ?_
                            refine endX_blk ?_
                            refine endX_seq ?_
                            refine runX_regionC fun C hC => ?_
                            try simp -implicitDefEqProofs (maxSteps := 4000000) (disch := first | omega | decide | (simp only [go_sem]; omega)) only [go_sem, ↓reduceIte]
                            repeat (with_reducible refine And.intro (by first | assumption | omega | (simp; done) | (simp; omega)) ?_)
                            refine toEnd hC ?_
                            refine endX_lp ?_
                            refine runX_seq ?_
                            refine runX_seq ?_
                            refine runX_regionC fun C hC => ?_
                            try simp -implicitDefEqProofs (maxSteps := 4000000) (disch := first | omega | decide | (simp only [go_sem]; omega)) only [go_sem, ↓reduceIte]
                            repeat (with_reducible refine And.intro (by first | assumption | omega | (simp; done) | (simp; omega)) ?_)
                            refine toEnd hC ?_
                            refine endX_seq ?_
                            refine runX_condT rfl rfl ?_
                            refine runX_skip ?_
                            refine endX_seq ?_
                            refine runX_seq ?_
                            refine runX_block ?_
                            refine runX_seq ?_
                            refine runX_drawC mixed (by kernel_rfl) fun C hC => ?_
                            obtain ⟨g21, h⟩ := grd_some h
                            obtain ⟨g22, h⟩ := grd_some h
                            obtain ⟨g23, h⟩ := grd_some h
                            try simp -implicitDefEqProofs (maxSteps := 4000000) (disch := first | omega | decide | (simp only [go_sem]; omega)) only [go_sem, ↓reduceIte]
                            repeat (with_reducible refine And.intro (by first | assumption | omega | (simp; done) | (simp; omega)) ?_)
                            refine buildW_of [.sl 1 false (List.map eS ((a0.getD x2.toNat default).2.1)), .sl 1 false (List.map eS ((a0.getD x2.toNat default).2.2.1)), .sl 1 false (List.map eS ((a0.getD x2.toNat default).2.2.2))] (by kernel_rfl) ?_
                            try simp -implicitDefEqProofs (maxSteps := 4000000) (disch := first | omega | decide | (simp only [go_sem]; omega)) only [go_sem, ↓reduceIte]
                            repeat (with_reducible refine And.intro (by first | assumption | omega | (simp; done) | (simp; omega)) ?_)
                            refine toEnd hC ?_
                            refine endX_seq ?_
                            refine runX_seq ?_
                            refine runX_regionC fun C hC => ?_
                            try simp -implicitDefEqProofs (maxSteps := 4000000) (disch := first | omega | decide | (simp only [go_sem]; omega)) only [go_sem, ↓reduceIte]
                            repeat (with_reducible refine And.intro (by first | assumption | omega | (simp; done) | (simp; omega)) ?_)
                            refine toEnd hC ?_
                            refine endX_seq ?_
                            refine runX_block ?_
                            refine runX_loop [0, 3, 4, 5, 6, 7] (fun m S => ∃ (x24 : Int) (x25 : Int), S = F11_S4 a0 x2 x24 x25 ∧ m ≤ m3 ∧ F11_L4 m a0 x2 x24 x25 = some r) m3 ⟨F11_S4 a0 x2 x16 (0 : Int), ?_, x16, (0 : Int), rfl, Nat.le_refl _, h⟩ ?_
                            · simp only [F11_S4]
                              (try simp -implicitDefEqProofs (maxSteps := 4000000) (disch := first | omega | decide | (simp only [go_sem]; omega)) only [go_sem, ↓reduceIte])
                              first | exact leS_refl _ | (refine leS_le ?_ ?_ <;> first | exact leL_refl _ | exact leOs_refl _ | (repeat (first | exact leL_refl _ | refine leL_cons (by first | exact leT_refl _ | exact leT_virt | exact leT_junk _ | exact leT_sl | exact leT_sln | exact leT_nil) ?_)))
                            · clear h
                              rintro m4 S ⟨x24, x25, rfl, hm4, h⟩
                              cases m4 with
                              | zero => first | cases (show (none : Option _) = some _ from h) | (rw [F11_L4] at h; cases h)
                              | succ m4 =>
                                rw [F11_L4] at h
                                simp only [F11_S4]
                                refine runX_seq ?_
                                refine runX_seq ?_
                                refine runX_regionC fun C hC => ?_
                                try simp -implicitDefEqProofs (maxSteps := 4000000) (disch := first | omega | decide | (simp only [go_sem]; omega)) only [go_sem, ↓reduceIte]
                                repeat (with_reducible refine And.intro (by first | assumption | omega | (simp; done) | (simp; omega)) ?_)
                                rcases iteB_some h with ⟨c26, h⟩ | ⟨c26, h⟩
                                · refine guardK_T c26 ?_
                                  try simp -implicitDefEqProofs (maxSteps := 4000000) (disch := first | omega | decide | (simp only [go_sem]; omega)) only [go_sem, ↓reduceIte]
                                  repeat (with_reducible refine And.intro (by first | assumption | omega | (simp; done) | (simp; omega)) ?_)
                                  refine toEnd hC ?_
                                  refine endX_seq ?_
                                  rcases iteB_some h with ⟨c27, h⟩ | ⟨c27, h⟩
                                  · refine runX_condT rfl c27 ?_
                                    refine runX_skip ?_
                                    refine endX_seq ?_
                                    refine runX_seq ?_
                                    refine runX_block ?_
                                    refine runX_regionC fun C hC => ?_
                                    obtain ⟨g28, h⟩ := grd_some h
                                    try simp -implicitDefEqProofs (maxSteps := 4000000) (disch := first | omega | decide | (simp only [go_sem]; omega)) only [go_sem, ↓reduceIte]
                                    repeat (with_reducible refine And.intro (by first | assumption | omega | (simp; done) | (simp; omega)) ?_)
                                    refine toEnd hC ?_
                                    refine endX_blk ?_
                                    refine endX_seq ?_
                                    refine runX_regionC fun C hC => ?_
                                    try simp -implicitDefEqProofs (maxSteps := 4000000) (disch := first | omega | decide | (simp only [go_sem]; omega)) only [go_sem, ↓reduceIte]
                                    repeat (with_reducible refine And.intro (by first | assumption | omega | (simp; done) | (simp; omega)) ?_)
                                    refine toEnd hC ?_
                                    refine endX_q (roundQ_normal ⟨m4, by omega, F11_S4 a0 x2 (IntKind.wrap .i64 ((IntKind.wrap .i64 (x24 + (5 : Int))) + (if (3000 : Int) < ((((a0.getD x2.toNat default).2.2.2).getD x25.toNat default).length : Int) then (3000 : Int) else ((((a0.getD x2.toNat default).2.2.2).getD x25.toNat default).length : Int)))) (IntKind.wrap .i64 (x25 + (1 : Int))), ?_, (IntKind.wrap .i64 ((IntKind.wrap .i64 (x24 + (5 : Int))) + (if (3000 : Int) < ((((a0.getD x2.toNat default).2.2.2).getD x25.toNat default).length : Int) then (3000 : Int) else ((((a0.getD x2.toNat default).2.2.2).getD x25.toNat default).length : Int)))), (IntKind.wrap .i64 (x25 + (1 : Int))), rfl, by omega, h⟩)
                                    simp only [F11_S4]
                                    (try simp -implicitDefEqProofs (maxSteps := 4000000) (disch := first | omega | decide | (simp only [go_sem]; omega)) only [go_sem, ↓reduceIte])
                                    first | exact leS_refl _ | (refine leS_le ?_ ?_ <;> first | exact leL_refl _ | exact leOs_refl _ | (repeat (first | exact leL_refl _ | refine leL_cons (by first | exact leT_refl _ | exact leT_virt | exact leT_junk _ | exact leT_sl | exact leT_sln | exact leT_nil) ?_)))
                                  · refine runX_condF rfl c27 ?_
                                    refine runX_exit ?_
                                    refine endX_seqE ?_
                                    refine endX_q (roundQ_exit ?_)
                                    refine endX_blkE ?_
                                    refine endX_blk ?_
                                    refine endX_seq ?_
                                    refine runX_regionC fun C hC => ?_
                                    try simp -implicitDefEqProofs (maxSteps := 4000000) (disch := first | omega | decide | (simp only [go_sem]; omega)) only [go_sem, ↓reduceIte]
                                    repeat (with_reducible refine And.intro (by first | assumption | omega | (simp; done) | (simp; omega)) ?_)
                                    refine toEnd hC ?_
                                    refine endX_lp ?_
                                    refine runX_seq ?_
                                    refine runX_seq ?_
                                    refine runX_regionC fun C hC => ?_
                                    try simp -implicitDefEqProofs (maxSteps := 4000000) (disch := first | omega | decide | (simp only [go_sem]; omega)) only [go_sem, ↓reduceIte]
                                    repeat (with_reducible refine And.intro (by first | assumption | omega | (simp; done) | (simp; omega)) ?_)
                                    refine toEnd hC ?_
                                    refine endX_seq ?_
                                    refine runX_condF rfl rfl ?_
                                    refine runX_exit ?_
                                    refine endX_seqE ?_
                                    refine endX_lpE ?_
                                    refine endX_blkE ?_
                                    refine endX_seq ?_
                                    refine runX_regionC fun C hC => ?_
                                    try simp -implicitDefEqProofs (maxSteps := 4000000) (disch := first | omega | decide | (simp only [go_sem]; omega)) only [go_sem, ↓reduceIte]
                                    repeat (with_reducible refine And.intro (by first | assumption | omega | (simp; done) | (simp; omega)) ?_)
                                    refine toEnd hC ?_
                                    refine endX_blk ?_
                                    refine endX_seq ?_
                                    refine runX_regionC fun C hC => ?_
                                    try simp -implicitDefEqProofs (maxSteps := 4000000) (disch := first | omega | decide | (simp only [go_sem]; omega)) only [go_sem, ↓reduceIte]
                                    repeat (with_reducible refine And.intro (by first | assumption | omega | (simp; done) | (simp; omega)) ?_)
                                    refine toEnd hC ?_
                                    refine endX_q (roundQ_normal ⟨m4, by omega, F11_S1 a0 (IntKind.wrap .i64 (x24 + (20 : Int))) (IntKind.wrap .i64 (x2 + (1 : Int))), ?_, (IntKind.wrap .i64 (x24 + (20 : Int))), (IntKind.wrap .i64 (x2 + (1 : Int))), rfl, by omega, h⟩)
                                    simp only [F11_S1]
                                    (try simp -implicitDefEqProofs (maxSteps := 4000000) (disch := first | omega | decide | (simp only [go_sem]; omega)) only [go_sem, ↓reduceIte])
                                    first | exact leS_refl _ | (refine leS_le ?_ ?_ <;> first | exact leL_refl _ | exact leOs_refl _ | (repeat (first | exact leL_refl _ | refine leL_cons (by first | exact leT_refl _ | exact leT_virt | exact leT_junk _ | exact leT_sl | exact leT_sln | exact leT_nil) ?_)))
                                · refine guardK_F c26 ?_
                                  try simp -implicitDefEqProofs (maxSteps := 4000000) (disch := first | omega | decide | (simp only [go_sem]; omega)) only [go_sem, ↓reduceIte]
                                  repeat (with_reducible refine And.intro (by first | assumption | omega | (simp; done) | (simp; omega)) ?_)
                                  refine toEnd hC ?_
                                  refine endX_seq ?_
                                  refine runX_condF rfl rfl ?_
                                  refine runX_exit ?_
                                  refine endX_seqE ?_
                                  refine endX_q (roundQ_exit ?_)
                                  refine endX_blkE ?_
                                  refine endX_blk ?_
                                  refine endX_seq ?_
                                  refine runX_regionC fun C hC => ?_
                                  try simp -implicitDefEqProofs (maxSteps := 4000000) (disch := first | omega | decide | (simp only [go_sem]; omega)) only [go_sem, ↓reduceIte]
                                  repeat (with_reducible refine And.intro (by first | assumption | omega | (simp; done) | (simp; omega)) ?_)
                                  refine toEnd hC ?_
                                  refine endX_lp ?_
                                  refine runX_seq ?_
                                  refine runX_seq ?_
                                  refine runX_regionC fun C hC => ?_
                                  try simp -implicitDefEqProofs (maxSteps := 4000000) (disch := first | omega | decide | (simp only [go_sem]; omega)) only [go_sem, ↓reduceIte]
                                  repeat (with_reducible refine And.intro (by first | assumption | omega | (simp; done) | (simp; omega)) ?_)
                                  refine toEnd hC ?_
                                  refine endX_seq ?_
                                  refine runX_condF rfl rfl ?_
                                  refine runX_exit ?_
                                  refine endX_seqE ?_
                                  refine endX_lpE ?_
                                  refine endX_blkE ?_
                                  refine endX_seq ?_
                                  refine runX_regionC fun C hC => ?_
                                  try simp -implicitDefEqProofs (maxSteps := 4000000) (disch := first | omega | decide | (simp only [go_sem]; omega)) only [go_sem, ↓reduceIte]
                                  repeat (with_reducible refine And.intro (by first | assumption | omega | (simp; done) | (simp; omega)) ?_)
                                  refine toEnd hC ?_
                                  refine endX_blk ?_
                                  refine endX_seq ?_
                                  refine runX_regionC fun C hC => ?_
                                  try simp -implicitDefEqProofs (maxSteps := 4000000) (disch := first | omega | decide | (simp only [go_sem]; omega)) only [go_sem, ↓reduceIte]
                                  repeat (with_reducible refine And.intro (by first | assumption | omega | (simp; done) | (simp; omega)) ?_)
                                  refine toEnd hC ?_
                                  refine endX_q (roundQ_normal ⟨m4, by omega, F11_S1 a0 (IntKind.wrap .i64 (x24 + (20 : Int))) (IntKind.wrap .i64 (x2 + (1 : Int))), ?_, (IntKind.wrap .i64 (x24 + (20 : Int))), (IntKind.wrap .i64 (x2 + (1 : Int))), rfl, by omega, h⟩)
                                  simp only [F11_S1]
                                  (try simp -implicitDefEqProofs (maxSteps := 4000000) (disch := first | omega | decide | (simp only [go_sem]; omega)) only [go_sem, ↓reduceIte])
                                  first | exact leS_refl _ | (refine leS_le ?_ ?_ <;> first | exact leL_refl _ | exact leOs_refl _ | (repeat (first | exact leL_refl _ | refine leL_cons (by first | exact leT_refl _ | exact leT_virt | exact leT_junk _ | exact leT_sl | exact leT_sln | exact leT_nil) ?_)))
                        · refine guardK_F c18 ?_
                          try simp -implicitDefEqProofs (maxSteps := 4000000) (disch := first | omega | decide | (simp only [go_sem]; omega)) only [go_sem, ↓reduceIte]
                          repeat (with_reducible refine And.intro (by first | assumption | omega | (simp; done) | (simp; omega)) ?_)
                          refine toEnd hC ?_
                          refine endX_seq ?_
                          refine runX_condF rfl rfl ?_
                          refine runX_exit ?_
                          refine endX_seqE ?_
                          refine endX_q (roundQ_exit ?_)
                          refine endX_blkE ?_
                          refine endX_blk ?_
                          refine endX_seq ?_
                          refine runX_regionC fun C hC => ?_
                          try simp -implicitDefEqProofs (maxSteps := 4000000) (disch := first | omega | decide | (simp only [go_sem]; omega)) only [go_sem, ↓reduceIte]
                          repeat (with_reducible refine And.intro (by first | assumption | omega | (simp; done) | (simp; omega)) ?_)
                          refine toEnd hC ?_
                          refine endX_lp ?_
                          refine runX_seq ?_
                          refine runX_seq ?_
                          refine runX_regionC fun C hC => ?_
                          try simp -implicitDefEqProofs (maxSteps := 4000000) (disch := first | omega | decide | (simp only [go_sem]; omega)) only [go_sem, ↓reduceIte]
                          repeat (with_reducible refine And.intro (by first | assumption | omega | (simp; done) | (simp; omega)) ?_)
                          refine toEnd hC ?_
                          refine endX_seq ?_
                          refine runX_condT rfl rfl ?_
                          refine runX_skip ?_
                          refine endX_seq ?_
                          refine runX_seq ?_
                          refine runX_block ?_
                          refine runX_seq ?_
                          refine runX_drawC mixed (by kernel_rfl) fun C hC => ?_
                          obtain ⟨g29, h⟩ := grd_some h
                          obtain ⟨g30, h⟩ := grd_some h
                          obtain ⟨g31, h⟩ := grd_some h
                          try simp -implicitDefEqProofs (maxSteps := 4000000) (disch := first | omega | decide | (simp only [go_sem]; omega)) only [go_sem, ↓reduceIte]
                          repeat (with_reducible refine And.intro (by first | assumption | omega | (simp; done) | (simp; omega)) ?_)
                          refine buildW_of [.sl 1 false (List.map eS ((a0.getD x2.toNat default).2.1)), .sl 1 false (List.map eS ((a0.getD x2.toNat default).2.2.1)), .sl 1 false (List.map eS ((a0.getD x2.toNat default).2.2.2))] (by kernel_rfl) ?_
                          try simp -implicitDefEqProofs (maxSteps := 4000000) (disch := first | omega | decide | (simp only [go_sem]; omega)) only [go_sem, ↓reduceIte]
                          repeat (with_reducible refine And.intro (by first | assumption | omega | (simp; done) | (simp; omega)) ?_)
                          refine toEnd hC ?_
                          refine endX_seq ?_
                          refine runX_seq ?_
                          refine runX_regionC fun C hC => ?_
                          try simp -implicitDefEqProofs (maxSteps := 4000000) (disch := first | omega | decide | (simp only [go_sem]; omega)) only [go_sem, ↓reduceIte]
                          repeat (with_reducible refine And.intro (by first | assumption | omega | (simp; done) | (simp; omega)) ?_)
                          refine toEnd hC ?_
                          refine endX_seq ?_
                          refine runX_block ?_
                          refine runX_loop [0, 3, 4, 5, 6, 7] (fun m S => ∃ (x32 : Int) (x33 : Int), S = F11_S5 a0 x2 x32 x33 ∧ m ≤ m3 ∧ F11_L5 m a0 x2 x32 x33 = some r) m3 ⟨F11_S5 a0 x2 x16 (0 : Int), ?_, x16, (0 : Int), rfl, Nat.le_refl _, h⟩ ?_
                          · simp only [F11_S5]
                            (try simp -implicitDefEqProofs (maxSteps := 4000000) (disch := first | omega | decide | (simp only [go_sem]; omega)) only [go_sem, ↓reduceIte])
                            first | exact leS_refl _ | (refine leS_le ?_ ?_ <;> first | exact leL_refl _ | exact leOs_refl _ | (repeat (first | exact leL_refl _ | refine leL_cons (by first | exact leT_refl _ | exact leT_virt | exact leT_junk _ | exact leT_sl | exact leT_sln | exact leT_nil) ?_)))
                          · clear h
                            rintro m5 S ⟨x32, x33, rfl, hm5, h⟩
                            cases m5 with
                            | zero => first | cases (show (none : Option _) = some _ from h) | (rw [F11_L5] at h; cases h)
                            | succ m5 =>
                              rw [F11_L5] at h
                              simp only [F11_S5]
                              refine runX_seq ?_
                              refine runX_seq ?_
                              refine runX_regionC fun C hC => ?_
                              try simp -implicitDefEqProofs (maxSteps := 4000000) (disch := first | omega | decide | (simp only [go_sem]; omega)) only [go_sem, ↓reduceIte]
                              repeat (with_reducible refine And.intro (by first | assumption | omega | (simp; done) | (simp; omega)) ?_)
                              rcases iteB_some h with ⟨c34, h⟩ | ⟨c34, h⟩
                              · refine guardK_T c34 ?_
                                try simp -implicitDefEqProofs (maxSteps := 4000000) (disch := first | omega | decide | (simp only [go_sem]; omega)) only [go_sem, ↓reduceIte]
                                repeat (with_reducible refine And.intro (by first | assumption | omega | (simp; done) | (simp; omega)) ?_)
                                refine toEnd hC ?_
                                refine endX_seq ?_
                                rcases iteB_some h with ⟨c35, h⟩ | ⟨c35, h⟩
                                · refine runX_condT rfl c35 ?_
                                  refine runX_skip ?_
                                  refine endX_seq ?_
                                  refine runX_seq ?_
                                  refine runX_block ?_
                                  refine runX_regionC fun C hC => ?_
                                  obtain ⟨g36, h⟩ := grd_some h
                                  try simp -implicitDefEqProofs (maxSteps := 4000000) (disch := first | omega | decide | (simp only [go_sem]; omega)) only [go_sem, ↓reduceIte]
                                  repeat (with_reducible refine And.intro (by first | assumption | omega | (simp; done) | (simp; omega)) ?_)
                                  refine toEnd hC ?_
                                  refine endX_blk ?_
                                  refine endX_seq ?_
                                  refine runX_regionC fun C hC => ?_
                                  try simp -implicitDefEqProofs (maxSteps := 4000000) (disch := first | omega | decide | (simp only [go_sem]; omega)) only [go_sem, ↓reduceIte]
                                  repeat (with_reducible refine And.intro (by first | assumption | omega | (simp; done) | (simp; omega)) ?_)
                                  refine toEnd hC ?_
                                  refine endX_q (roundQ_normal ⟨m5, by omega, F11_S5 a0 x2 (IntKind.wrap .i64 ((IntKind.wrap .i64 (x32 + (5 : Int))) + (if (3000 : Int) < ((((a0.getD x2.toNat default).2.2.2).getD x33.toNat default).length : Int) then (3000 : Int) else ((((a0.getD x2.toNat default).2.2.2).getD x33.toNat default).length : Int)))) (IntKind.wrap .i64 (x33 + (1 : Int))), ?_, (IntKind.wrap .i64 ((IntKind.wrap .i64 (x32 + (5 : Int))) + (if (3000 : Int) < ((((a0.getD x2.toNat default).2.2.2).getD x33.toNat default).length : Int) then (3000 : Int) else ((((a0.getD x2.toNat default).2.2.2).getD x33.toNat default).length : Int)))), (IntKind.wrap .i64 (x33 + (1 : Int))), rfl, by omega, h⟩)
                                  simp only [F11_S5]
                                  (try simp -implicitDefEqProofs (maxSteps := 4000000) (disch := first | omega | decide | (simp only [go_sem]; omega)) only [go_sem, ↓reduceIte])
                                  first | exact leS_refl _ | (refine leS_le ?_ ?_ <;> first | exact leL_refl _ | exact leOs_refl _ | (repeat (first | exact leL_refl _ | refine leL_cons (by first | exact leT_refl _ | exact leT_virt | exact leT_junk _ | exact leT_sl | exact leT_sln | exact leT_nil) ?_)))
                                · refine runX_condF rfl c35 ?_
                                  refine runX_exit ?_
                                  refine endX_seqE ?_
                                  refine endX_q (roundQ_exit ?_)
                                  refine endX_blkE ?_
                                  refine endX_blk ?_
                                  refine endX_seq ?_
                                  refine runX_regionC fun C hC => ?_
                                  try simp -implicitDefEqProofs (maxSteps := 4000000) (disch := first | omega | decide | (simp only [go_sem]; omega)) only [go_sem, ↓reduceIte]
                                  repeat (with_reducible refine And.intro (by first | assumption | omega | (simp; done) | (simp; omega)) ?_)
                                  refine toEnd hC ?_
                                  refine endX_lp ?_
                                  refine runX_seq ?_
                                  refine runX_seq ?_
                                  refine runX_regionC fun C hC => ?_
                                  try simp -implicitDefEqProofs (maxSteps := 4000000) (disch := first | omega | decide | (simp only [go_sem]; omega)) only [go_sem, ↓reduceIte]
                                  repeat (with_reducible refine And.intro (by first | assumption | omega | (simp; done) | (simp; omega)) ?_)
                                  refine toEnd hC ?_
                                  refine endX_seq ?_
                                  refine runX_condF rfl rfl ?_
                                  refine runX_exit ?_
                                  refine endX_seqE ?_
                                  refine endX_lpE ?_
                                  refine endX_blkE ?_
                                  refine endX_seq ?_
                                  refine runX_regionC fun C hC => ?_
                                  try simp -implicitDefEqProofs (maxSteps := 4000000) (disch := first | omega | decide | (simp only [go_sem]; omega)) only [go_sem, ↓reduceIte]
                                  repeat (with_reducible refine And.intro (by first | assumption | omega | (simp; done) | (simp; omega)) ?_)
                                  refine toEnd hC ?_
                                  refine endX_blk ?_
                                  refine endX_seq ?_
                                  refine runX_regionC fun C hC => ?_
                                  try simp -implicitDefEqProofs (maxSteps := 4000000) (disch := first | omega | decide | (simp only [go_sem]; omega)) only [go_sem, ↓reduceIte]
                                  repeat (with_reducible refine And.intro (by first | assumption | omega | (simp; done) | (simp; omega)) ?_)
                                  refine toEnd hC ?_
                                  refine endX_q (roundQ_normal ⟨m5, by omega, F11_S1 a0 (IntKind.wrap .i64 (x32 + (20 : Int))) (IntKind.wrap .i64 (x2 + (1 : Int))), ?_, (IntKind.wrap .i64 (x32 + (20 : Int))), (IntKind.wrap .i64 (x2 + (1 : Int))), rfl, by omega, h⟩)
                                  simp only [F11_S1]
                                  (try simp -implicitDefEqProofs (maxSteps := 4000000) (disch := first | omega | decide | (simp only [go_sem]; omega)) only [go_sem, ↓reduceIte])
                                  first | exact leS_refl _ | (refine leS_le ?_ ?_ <;> first | exact leL_refl _ | exact leOs_refl _ | (repeat (first | exact leL_refl _ | refine leL_cons (by first | exact leT_refl _ | exact leT_virt | exact leT_junk _ | exact leT_sl | exact leT_sln | exact leT_nil) ?_)))
                              · refine guardK_F c34 ?_
                                try simp -implicitDefEqProofs (maxSteps := 4000000) (disch := first | omega | decide | (simp only [go_sem]; omega)) only [go_sem, ↓reduceIte]
                                repeat (with_reducible refine And.intro (by first | assumption | omega | (simp; done) | (simp; omega)) ?_)
                                refine toEnd hC ?_
                                refine endX_seq ?_
                                refine runX_condF rfl rfl ?_
                                refine runX_exit ?_
                                refine endX_seqE ?_
                                refine endX_q (roundQ_exit ?_)
                                refine endX_blkE ?_
                                refine endX_blk ?_
                                refine endX_seq ?_
                                refine runX_regionC fun C hC => ?_
                                try simp -implicitDefEqProofs (maxSteps := 4000000) (disch := first | omega | decide | (simp only [go_sem]; omega)) only [go_sem, ↓reduceIte]
                                repeat (with_reducible refine And.intro (by first | assumption | omega | (simp; done) | (simp; omega)) ?_)
                                refine toEnd hC ?_
                                refine endX_lp ?_
                                refine runX_seq ?_
                                refine runX_seq ?_
                                refine runX_regionC fun C hC => ?_
                                try simp -implicitDefEqProofs (maxSteps := 4000000) (disch := first | omega | decide | (simp only [go_sem]; omega)) only [go_sem, ↓reduceIte]
                                repeat (with_reducible refine And.intro (by first | assumption | omega | (simp; done) | (simp; omega)) ?_)
                                refine toEnd hC ?_
                                refine endX_seq ?_
                                refine runX_condF rfl rfl ?_
                                refine runX_exit ?_
                                refine endX_seqE ?_
                                refine endX_lpE ?_
                                refine endX_blkE ?_
                                refine endX_seq ?_
                                refine runX_regionC fun C hC => ?_
                                try simp -implicitDefEqProofs (maxSteps := 4000000) (disch := first | omega | decide | (simp only [go_sem]; omega)) only [go_sem, ↓reduceIte]
                                repeat (with_reducible refine And.intro (by first | assumption | omega | (simp; done) | (simp; omega)) ?_)
                                refine toEnd hC ?_
                                refine endX_blk ?_
                                refine endX_seq ?_
                                refine runX_regionC fun C hC => ?_
                                try simp -implicitDefEqProofs (maxSteps := 4000000) (disch := first | omega | decide | (simp only [go_sem]; omega)) only [go_sem, ↓reduceIte]
                                repeat (with_reducible refine And.intro (by first | assumption | omega | (simp; done) | (simp; omega)) ?_)
                                refine toEnd hC ?_
                                refine endX_q (roundQ_normal ⟨m5, by omega, F11_S1 a0 (IntKind.wrap .i64 (x32 + (20 : Int))) (IntKind.wrap .i64 (x2 + (1 : Int))), ?_, (IntKind.wrap .i64 (x32 + (20 : Int))), (IntKind.wrap .i64 (x2 + (1 : Int))), rfl, by omega, h⟩)
                                simp only [F11_S1]
                                (try simp -implicitDefEqProofs (maxSteps := 4000000) (disch := first | omega | decide | (simp only [go_sem]; omega)) only [go_sem, ↓reduceIte])
                                first | exact leS_refl _ | (refine leS_le ?_ ?_ <;> first | exact leL_refl _ | exact leOs_refl _ | (repeat (first | exact leL_refl _ | refine leL_cons (by first | exact leT_refl _ | exact leT_virt | exact leT_junk _ | exact leT_sl | exact leT_sln | exact leT_nil) ?_)))
                · refine guardK_F c10 ?_
                  try simp -implicitDefEqProofs (maxSteps := 4000000) (disch := first | omega | decide | (simp only [go_sem]; omega)) only [go_sem, ↓reduceIte]
                  repeat (with_reducible refine And.intro (by first | assumption | omega | (simp; done) | (simp; omega)) ?_)
                  refine toEnd hC ?_
                  refine endX_seq ?_
                  refine runX_condF rfl rfl ?_
                  refine runX_exit ?_
                  refine endX_seqE ?_
                  refine endX_q (roundQ_exit ?_)
                  refine endX_blkE ?_
                  refine endX_blk ?_
                  refine endX_seq ?_
                  refine runX_regionC fun C hC => ?_
                  try simp -implicitDefEqProofs (maxSteps := 4000000) (disch := first | omega | decide | (simp only [go_sem]; omega)) only [go_sem, ↓reduceIte]
                  repeat (with_reducible refine And.intro (by first | assumption | omega | (simp; done) | (simp; omega)) ?_)
                  refine toEnd hC ?_
                  refine endX_lp ?_
                  refine runX_seq ?_
                  refine runX_seq ?_
                  refine runX_regionC fun C hC => ?_
                  try simp -implicitDefEqProofs (maxSteps := 4000000) (disch := first | omega | decide | (simp only [go_sem]; omega)) only [go_sem, ↓reduceIte]
                  repeat (with_reducible refine And.intro (by first | assumption | omega | (simp; done) | (simp; omega)) ?_)
                  refine toEnd hC ?_
                  refine endX_seq ?_
                  refine runX_condT rfl rfl ?_
                  refine runX_skip ?_
                  refine endX_seq ?_
                  refine runX_seq ?_
                  refine runX_block ?_
                  refine runX_seq ?_
                  refine runX_drawC mixed (by kernel_rfl) fun C hC => ?_
                  obtain ⟨g37, h⟩ := grd_some h
                  obtain ⟨g38, h⟩ := grd_some h
                  obtain ⟨g39, h⟩ := grd_some h
                  try simp -implicitDefEqProofs (maxSteps := 4000000) (disch := first | omega | decide | (simp only [go_sem]; omega)) only [go_sem, ↓reduceIte]
                  repeat (with_reducible refine And.intro (by first | assumption | omega | (simp; done) | (simp; omega)) ?_)
                  refine buildW_of [.sl 1 false (List.map eS ((a0.getD x2.toNat default).2.1)), .sl 1 false (List.map eS ((a0.getD x2.toNat default).2.2.1)), .sl 1 false (List.map eS ((a0.getD x2.toNat default).2.2.2))] (by kernel_rfl) ?_
                  try simp -implicitDefEqProofs (maxSteps := 4000000) (disch := first | omega | decide | (simp only [go_sem]; omega)) only [go_sem, ↓reduceIte]
                  repeat (with_reducible refine And.intro (by first | assumption | omega | (simp; done) | (simp; omega)) ?_)
                  refine toEnd hC ?_
                  refine endX_seq ?_
                  refine runX_seq ?_
                  refine runX_regionC fun C hC => ?_
                  try simp -implicitDefEqProofs (maxSteps := 4000000) (disch := first | omega | decide | (simp only [go_sem]; omega)) only [go_sem, ↓reduceIte]
                  repeat (with_reducible refine And.intro (by first | assumption | omega | (simp; done) | (simp; omega)) ?_)
                  refine toEnd hC ?_
                  refine endX_seq ?_
                  refine runX_block ?_
                  refine runX_loop [0, 3, 4, 5, 6, 7] (fun m S => ∃ (x40 : Int) (x41 : Int), S = F11_S6 a0 x2 x40 x41 ∧ m ≤ m2 ∧ F11_L6 m a0 x2 x40 x41 = some r) m2 ⟨F11_S6 a0 x2 x8 (0 : Int), ?_, x8, (0 : Int), rfl, Nat.le_refl _, h⟩ ?_
                  · simp only [F11_S6]
                    (try simp -implicitDefEqProofs (maxSteps := 4000000) (disch := first | omega | decide | (simp only [go_sem]; omega)) only [go_sem, ↓reduceIte])
                    first | exact leS_refl _ | (refine leS_le ?_ ?_ <;> first | exact leL_refl _ | exact leOs_refl _ | (repeat (first | exact leL_refl _ | refine leL_cons (by first | exact leT_refl _ | exact leT_virt | exact leT_junk _ | exact leT_sl | exact leT_sln | exact leT_nil) ?_)))
                  · clear h
                    rintro m6 S ⟨x40, x41, rfl, hm6, h⟩
                    cases m6 with
                    | zero => first | cases (show (none : Option _) = some _ from h) | (rw [F11_L6] at h; cases h)
                    | succ m6 =>
                      rw [F11_L6] at h
                      simp only [F11_S6]
                      refine runX_seq ?_
                      refine runX_seq ?_
                      refine runX_regionC fun C hC => ?_
                      try simp -implicitDefEqProofs (maxSteps := 4000000) (disch := first | omega | decide | (simp only [go_sem]; omega)) only [go_sem, ↓reduceIte]
                      repeat (with_reducible refine And.intro (by first | assumption | omega | (simp; done) | (simp; omega)) ?_)
                      rcases iteB_some h with ⟨c42, h⟩ | ⟨c42, h⟩
                      · refine guardK_T c42 ?_
                        try simp -implicitDefEqProofs (maxSteps := 4000000) (disch := first | omega | decide | (simp only [go_sem]; omega)) only [go_sem, ↓reduceIte]
                        repeat (with_reducible refine And.intro (by first | assumption | omega | (simp; done) | (simp; omega)) ?_)
                        refine toEnd hC ?_
                        refine endX_seq ?_
                        rcases iteB_some h with ⟨c43, h⟩ | ⟨c43, h⟩
                        · refine runX_condT rfl c43 ?_
                          refine runX_skip ?_
                          refine endX_seq ?_
                          refine runX_seq ?_
                          refine runX_block ?_
                          refine runX_regionC fun C hC => ?_
                          obtain ⟨g44, h⟩ := grd_some h
                          try simp -implicitDefEqProofs (maxSteps := 4000000) (disch := first | omega | decide | (simp only [go_sem]; omega)) only [go_sem, ↓reduceIte]
                          repeat (with_reducible refine And.intro (by first | assumption | omega | (simp; done) | (simp; omega)) ?_)
                          refine toEnd hC ?_
                          refine endX_blk ?_
                          refine endX_seq ?_
                          refine runX_regionC fun C hC => ?_
                          try simp -implicitDefEqProofs (maxSteps := 4000000) (disch := first | omega | decide | (simp only [go_sem]; omega)) only [go_sem, ↓reduceIte]
                          repeat (with_reducible refine And.intro (by first | assumption | omega | (simp; done) | (simp; omega)) ?_)
                          refine toEnd hC ?_
                          refine endX_q (roundQ_normal ⟨m6, by omega, F11_S6 a0 x2 (IntKind.wrap .i64 ((IntKind.wrap .i64 (x40 + (5 : Int))) + (if (3000 : Int) < ((((a0.getD x2.toNat default).2.2.1).getD x41.toNat default).length : Int) then (3000 : Int) else ((((a0.getD x2.toNat default).2.2.1).getD x41.toNat default).length : Int)))) (IntKind.wrap .i64 (x41 + (1 : Int))), ?_, (IntKind.wrap .i64 ((IntKind.wrap .i64 (x40 + (5 : Int))) + (if (3000 : Int) < ((((a0.getD x2.toNat default).2.2.1).getD x41.toNat default).length : Int) then (3000 : Int) else ((((a0.getD x2.toNat default).2.2.1).getD x41.toNat default).length : Int)))), (IntKind.wrap .i64 (x41 + (1 : Int))), rfl, by omega, h⟩)
                          simp only [F11_S6]
                          (try simp -implicitDefEqProofs (maxSteps := 4000000) (disch := first | omega | decide | (simp only [go_sem]; omega)) only [go_sem, ↓reduceIte])
                          first | exact leS_refl _ | (refine leS_le ?_ ?_ <;> first | exact leL_refl _ | exact leOs_refl _ | (repeat (first | exact leL_refl _ | refine leL_cons (by first | exact leT_refl _ | exact leT_virt | exact leT_junk _ | exact leT_sl | exact leT_sln | exact leT_nil) ?_)))
                        · refine runX_condF rfl c43 ?_
                          refine runX_exit ?_
                          refine endX_seqE ?_
                          refine endX_q (roundQ_exit ?_)
                          refine endX_blkE ?_
                          refine endX_blk ?_
                          refine endX_seq ?_
                          refine runX_regionC fun C hC => ?_
                          try simp -implicitDefEqProofs (maxSteps := 4000000) (disch := first | omega | decide | (simp only [go_sem]; omega)) only [go_sem, ↓reduceIte]
                          repeat (with_reducible refine And.intro (by first | assumption | omega | (simp; done) | (simp; omega)) ?_)
                          refine toEnd hC ?_
                          refine endX_lp ?_
                          refine runX_seq ?_
                          refine runX_seq ?_
                          refine runX_regionC fun C hC => ?_
                          try simp -implicitDefEqProofs (maxSteps := 4000000) (disch := first | omega | decide | (simp only [go_sem]; omega)) only [go_sem, ↓reduceIte]
                          repeat (with_reducible refine And.intro (by first | assumption | omega | (simp; done) | (simp; omega)) ?_)
                          refine toEnd hC ?_
                          refine endX_seq ?_
                          refine runX_condT rfl rfl ?_
                          refine runX_skip ?_
                          refine endX_seq ?_
                          refine runX_seq ?_
                          refine runX_block ?_
                          refine runX_seq ?_
                          refine runX_drawC mixed (by kernel_rfl) fun C hC => ?_
                          obtain ⟨g45, h⟩ := grd_some h
                          obtain ⟨g46, h⟩ := grd_some h
                          obtain ⟨g47, h⟩ := grd_some h
                          try simp -implicitDefEqProofs (maxSteps := 4000000) (disch := first | omega | decide | (simp only [go_sem]; omega)) only [go_sem, ↓reduceIte]
                          repeat (with_reducible refine And.intro (by first | assumption | omega | (simp; done) | (simp; omega)) ?_)
                          refine buildW_of [.sl 1 false (List.map eS ((a0.getD x2.toNat default).2.1)), .sl 1 false (List.map eS ((a0.getD x2.toNat default).2.2.1)), .sl 1 false (List.map eS ((a0.getD x2.toNat default).2.2.2))] (by kernel_rfl) ?_
                          try simp -implicitDefEqProofs (maxSteps := 4000000) (disch := first | omega | decide | (simp only [go_sem]; omega)) only [go_sem, ↓reduceIte]
                          repeat (with_reducible refine And.intro (by first | assumption | omega | (simp; done) | (simp; omega)) ?_)
                          refine toEnd hC ?_
                          refine endX_seq ?_
                          refine runX_seq ?_
                          refine runX_regionC fun C hC => ?_
                          try simp -implicitDefEqProofs (maxSteps := 4000000) (disch := first | omega | decide | (simp only [go_sem]; omega)) only [go_sem, ↓reduceIte]
                          repeat (with_reducible refine And.intro (by first | assumption | omega | (simp; done) | (simp; omega)) ?_)
                          refine toEnd hC ?_
                          refine endX_seq ?_
                          refine runX_block ?_
                          refine runX_loop [0, 3, 4, 5, 6, 7] (fun m S => ∃ (x48 : Int) (x49 : Int), S = F11_S7 a0 x2 x48 x49 ∧ m ≤ m6 ∧ F11_L7 m a0 x2 x48 x49 = some r) m6 ⟨F11_S7 a0 x2 x40 (0 : Int), ?_, x40, (0 : Int), rfl, Nat.le_refl _, h⟩ ?_
                          · simp only [F11_S7]
                            (try simp -implicitDefEqProofs (maxSteps := 4000000) (disch := first | omega | decide | (simp only [go_sem]; omega)) only [go_sem, ↓reduceIte])
                            first | exact leS_refl _ | (refine leS_le ?_ ?_ <;> first | exact leL_refl _ | exact leOs_refl _ | (repeat (first | exact leL_refl _ | refine leL_cons (by first | exact leT_refl _ | exact leT_virt | exact leT_junk _ | exact leT_sl | exact leT_sln | exact leT_nil) ?_)))
                          · clear h
                            rintro m7 S ⟨x48, x49, rfl, hm7, h⟩
                            cases m7 with
                            | zero => first | cases (show (none : Option _) = some _ from h) | (rw [F11_L7] at h; cases h)
                            | succ m7 =>
                              rw [F11_L7] at h
                              simp only [F11_S7]
                              refine runX_seq ?_
                              refine runX_seq ?_
                              refine runX_regionC fun C hC => ?_
                              try simp -implicitDefEqProofs (maxSteps := 4000000) (disch := first | omega | decide | (simp only [go_sem]; omega)) only [go_sem, ↓reduceIte]
                              repeat (with_reducible refine And.intro (by first | assumption | omega | (simp; done) | (simp; omega)) ?_)
                              rcases iteB_some h with ⟨c50, h⟩ | ⟨c50, h⟩
                              · refine guardK_T c50 ?_
                                try simp -implicitDefEqProofs (maxSteps := 4000000) (disch := first | omega | decide | (simp only [go_sem]; omega)) only [go_sem, ↓reduceIte]
                                repeat (with_reducible refine And.intro (by first | assumption | omega | (simp; done) | (simp; omega)) ?_)
                                refine toEnd hC ?_
                                refine endX_seq ?_
                                rcases iteB_some h with ⟨c51, h⟩ | ⟨c51, h⟩
                                · refine runX_condT rfl c51 ?_
                                  refine runX_skip ?_
                                  refine endX_seq ?_
                                  refine runX_seq ?_
                                  refine runX_block ?_
                                  refine runX_regionC fun C hC => ?_
                                  obtain ⟨g52, h⟩ := grd_some h
                                  try simp -implicitDefEqProofs (maxSteps := 4000000) (disch := first | omega | decide | (simp only [go_sem]; omega)) only [go_sem, ↓reduceIte]
                                  repeat (with_reducible refine And.intro (by first | assumption | omega | (simp; done) | (simp; omega)) ?_)
                                  refine toEnd hC ?_
                                  refine endX_blk ?_
                                  refine endX_seq ?_
                                  refine runX_regionC fun C hC => ?_
                                  try simp -implicitDefEqProofs (maxSteps := 4000000) (disch := first | omega | decide | (simp only [go_sem]; omega)) only [go_sem, ↓reduceIte]
                                  repeat (with_reducible refine And.intro (by first | assumption | omega | (simp; done) | (simp; omega)) ?_)
                                  refine toEnd hC ?_
                                  refine endX_q (roundQ_normal ⟨m7, by omega, F11_S7 a0 x2 (IntKind.wrap .i64 ((IntKind.wrap .i64 (x48 + (5 : Int))) + (if (3000 : Int) < ((((a0.getD x2.toNat default).2.2.2).getD x49.toNat default).length : Int) then (3000 : Int) else ((((a0.getD x2.toNat default).2.2.2).getD x49.toNat default).length : Int)))) (IntKind.wrap .i64 (x49 + (1 : Int))), ?_, (IntKind.wrap .i64 ((IntKind.wrap .i64 (x48 + (5 : Int))) + (if (3000 : Int) < ((((a0.getD x2.toNat default).2.2.2).getD x49.toNat default).length : Int) then (3000 : Int) else ((((a0.getD x2.toNat default).2.2.2).getD x49.toNat default).length : Int)))), (IntKind.wrap .i64 (x49 + (1 : Int))), rfl, by omega, h⟩)
                                  simp only [F11_S7]
                                  (try simp -implicitDefEqProofs (maxSteps := 4000000) (disch := first | omega | decide | (simp only [go_sem]; omega)) only [go_sem, ↓reduceIte])
                                  first | exact leS_refl _ | (refine leS_le ?_ ?_ <;> first | exact leL_refl _ | exact leOs_refl _ | (repeat (first | exact leL_refl _ | refine leL_cons (by first | exact leT_refl _ | exact leT_virt | exact leT_junk _ | exact leT_sl | exact leT_sln | exact leT_nil) ?_)))
                                · refine runX_condF rfl c51 ?_
                                  refine runX_exit ?_
                                  refine endX_seqE ?_
                                  refine endX_q (roundQ_exit ?_)
                                  refine endX_blkE ?_
                                  refine endX_blk ?_
                                  refine endX_seq ?_
                                  refine runX_regionC fun C hC => ?_
                                  try simp -implicitDefEqProofs (maxSteps := 4000000) (disch := first | omega | decide | (simp only [go_sem]; omega)) only [go_sem, ↓reduceIte]
                                  repeat (with_reducible refine And.intro (by first | assumption | omega | (simp; done) | (simp; omega)) ?_)
                                  refine toEnd hC ?_
                                  refine endX_lp ?_
                                  refine runX_seq ?_
                                  refine runX_seq ?_
                                  refine runX_regionC fun C hC => ?_
                                  try simp -implicitDefEqProofs (maxSteps := 4000000) (disch := first | omega | decide | (simp only [go_sem]; omega)) only [go_sem, ↓reduceIte]
                                  repeat (with_reducible refine And.intro (by first | assumption | omega | (simp; done) | (simp; omega)) ?_)
                                  refine toEnd hC ?_
                                  refine endX_seq ?_
                                  refine runX_condF rfl rfl ?_
                                  refine runX_exit ?_
                                  refine endX_seqE ?_
                                  refine endX_lpE ?_
                                  refine endX_blkE ?_
                                  refine endX_seq ?_
                                  refine runX_regionC fun C hC => ?_
                                  try simp -implicitDefEqProofs (maxSteps := 4000000) (disch := first | omega | decide | (simp only [go_sem]; omega)) only [go_sem, ↓reduceIte]
                                  repeat (with_reducible refine And.intro (by first | assumption | omega | (simp; done) | (simp; omega)) ?_)
                                  refine toEnd hC ?_
                                  refine endX_blk ?_
                                  refine endX_seq ?_
                                  refine runX_regionC fun C hC => ?_
                                  try simp -implicitDefEqProofs (maxSteps := 4000000) (disch := first | omega | decide | (simp only [go_sem]; omega)) only [go_sem, ↓reduceIte]
                                  repeat (with_reducible refine And.intro (by first | assumption | omega | (simp; done) | (simp; omega)) ?_)
                                  refine toEnd hC ?_
                                  refine endX_q (roundQ_normal ⟨m7, by omega, F11_S1 a0 (IntKind.wrap .i64 (x48 + (20 : Int))) (IntKind.wrap .i64 (x2 + (1 : Int))), ?_, (IntKind.wrap .i64 (x48 + (20 : Int))), (IntKind.wrap .i64 (x2 + (1 : Int))), rfl, by omega, h⟩)
                                  simp only [F11_S1]
                                  (try simp -implicitDefEqProofs (maxSteps := 4000000) (disch := first | omega | decide | (simp only [go_sem]; omega)) only [go_sem, ↓reduceIte])
                                  first | exact leS_refl _ | (refine leS_le ?_ ?_ <;> first | exact leL_refl _ | exact leOs_refl _ | (repeat (first | exact leL_refl _ | refine leL_cons (by first | exact leT_refl _ | exact leT_virt | exact leT_junk _ | exact leT_sl | exact leT_sln | exact leT_nil) ?_)))
                              · refine guardK_F c50 ?_
                                try simp -implicitDefEqProofs (maxSteps := 4000000) (disch := first | omega | decide | (simp only [go_sem]; omega)) only [go_sem, ↓reduceIte]
                                repeat (with_reducible refine And.intro (by first | assumption | omega | (simp; done) | (simp; omega)) ?_)
                                refine toEnd hC ?_
                                refine endX_seq ?_
                                refine runX_condF rfl rfl ?_
                                refine runX_exit ?_
                                refine endX_seqE ?_
                                refine endX_q (roundQ_exit ?_)
                                refine endX_blkE ?_
                                refine endX_blk ?_
                                refine endX_seq ?_
                                refine runX_regionC fun C hC => ?_
                                try simp -implicitDefEqProofs (maxSteps := 4000000) (disch := first | omega | decide | (simp only [go_sem]; omega)) only [go_sem, ↓reduceIte]
                                repeat (with_reducible refine And.intro (by first | assumption | omega | (simp; done) | (simp; omega)) ?_)
                                refine toEnd hC ?_
                                refine endX_lp ?_
                                refine runX_seq ?_
                                refine runX_seq ?_
                                refine runX_regionC fun C hC => ?_
                                try simp -implicitDefEqProofs (maxSteps := 4000000) (disch := first | omega | decide | (simp only [go_sem]; omega)) only [go_sem, ↓reduceIte]
                                repeat (with_reducible refine And.intro (by first | assumption | omega | (simp; done) | (simp; omega)) ?_)
                                refine toEnd hC ?_
                                refine endX_seq ?_
                                refine runX_condF rfl rfl ?_
                                refine runX_exit ?_
                                refine endX_seqE ?_
                                refine endX_lpE ?_
                                refine endX_blkE ?_
                                refine endX_seq ?_
                                refine runX_regionC fun C hC => ?_
                                try simp -implicitDefEqProofs (maxSteps := 4000000) (disch := first | omega | decide | (simp only [go_sem]; omega)) only [go_sem, ↓reduceIte]
                                repeat (with_reducible refine And.intro (by first | assumption | omega | (simp; done) | (simp; omega)) ?_)
                                refine toEnd hC ?_
                                refine endX_blk ?_
                                refine endX_seq ?_
                                refine runX_regionC fun C hC => ?_
                                try simp -implicitDefEqProofs (maxSteps := 4000000) (disch := first | omega | decide | (simp only [go_sem]; omega)) only [go_sem, ↓reduceIte]
                                repeat (with_reducible refine And.intro (by first | assumption | omega | (simp; done) | (simp; omega)) ?_)
                                refine toEnd hC ?_
                                refine endX_q (roundQ_normal ⟨m7, by omega, F11_S1 a0 (IntKind.wrap .i64 (x48 + (20 : Int))) (IntKind.wrap .i64 (x2 + (1 : Int))), ?_, (IntKind.wrap .i64 (x48 + (20 : Int))), (IntKind.wrap .i64 (x2 + (1 : Int))), rfl, by omega, h⟩)
                                simp only [F11_S1]
                                (try simp -implicitDefEqProofs (maxSteps := 4000000) (disch := first | omega | decide | (simp only [go_sem]; omega)) only [go_sem, ↓reduceIte])
                                first | exact leS_refl _ | (refine leS_le ?_ ?_ <;> first | exact leL_refl _ | exact leOs_refl _ | (repeat (first | exact leL_refl _ | refine leL_cons (by first | exact leT_refl _ | exact leT_virt | exact leT_junk _ | exact leT_sl | exact leT_sln | exact leT_nil) ?_)))
                      · refine guardK_F c42 ?_
                        try simp -implicitDefEqProofs (maxSteps := 4000000) (disch := first | omega | decide | (simp only [go_sem]; omega)) only [go_sem, ↓reduceIte]
                        repeat (with_reducible refine And.intro (by first | assumption | omega | (simp; done) | (simp; omega)) ?_)
                        refine toEnd hC ?_
                        refine endX_seq ?_
                        refine runX_condF rfl rfl ?_
                        refine runX_exit ?_
                        refine endX_seqE ?_
                        refine endX_q (roundQ_exit ?_)
                        refine endX_blkE ?_
                        refine endX_blk ?_
                        refine endX_seq ?_
                        refine runX_regionC fun C hC => ?_
                        try simp -implicitDefEqProofs (maxSteps := 4000000) (disch := first | omega | decide | (simp only [go_sem]; omega)) only [go_sem, ↓reduceIte]
                        repeat (with_reducible refine And.intro (by first | assumption | omega | (simp; done) | (simp; omega)) ?_)
                        refine toEnd hC ?_
                        refine endX_lp ?_
                        refine runX_seq ?_
                        refine runX_seq ?_
                        refine runX_regionC fun C hC => ?_
                        try simp -implicitDefEqProofs (maxSteps := 4000000) (disch := first | omega | decide | (simp only [go_sem]; omega)) only [go_sem, ↓reduceIte]
                        repeat (with_reducible refine And.intro (by first | assumption | omega | (simp; done) | (simp; omega)) ?_)
                        refine toEnd hC ?_
                        refine endX_seq ?_
                        refine runX_condT rfl rfl ?_
                        refine runX_skip ?_
                        refine endX_seq ?_
                        refine runX_seq ?_
                        refine runX_block ?_
                        refine runX_seq ?_
                        refine runX_drawC mixed (by kernel_rfl) fun C hC => ?_
                        obtain ⟨g53, h⟩ := grd_some h
                        obtain ⟨g54, h⟩ := grd_some h
                        obtain ⟨g55, h⟩ := grd_some h
                        try simp -implicitDefEqProofs (maxSteps := 4000000) (disch := first | omega | decide | (simp only [go_sem]; omega)) only [go_sem, ↓reduceIte]
                        repeat (with_reducible refine And.intro (by first | assumption | omega | (simp; done) | (simp; omega)) ?_)
                        refine buildW_of [.sl 1 false (List.map eS ((a0.getD x2.toNat default).2.1)), .sl 1 false (List.map eS ((a0.getD x2.toNat default).2.2.1)), .sl 1 false (List.map eS ((a0.getD x2.toNat default).2.2.2))] (by kernel_rfl) ?_
                        try simp -implicitDefEqProofs (maxSteps := 4000000) (disch := first | omega | decide | (simp only [go_sem]; omega)) only [go_sem, ↓reduceIte]
                        repeat (with_reducible refine And.intro (by first | assumption | omega | (simp; done) | (simp; omega)) ?_)
                        refine toEnd hC ?_
                        refine endX_seq ?_
                        refine runX_seq ?_
                        refine runX_regionC fun C hC => ?_
                        try simp -implicitDefEqProofs (maxSteps := 4000000) (disch := first | omega | decide | (simp only [go_sem]; omega)) only [go_sem, ↓reduceIte]
                        repeat (with_reducible refine And.intro (by first | assumption | omega | (simp; done) | (simp; omega)) ?_)
                        refine toEnd hC ?_
                        refine endX_seq ?_
                        refine runX_block ?_
                        refine runX_loop [0, 3, 4, 5, 6, 7] (fun m S => ∃ (x56 : Int) (x57 : Int), S = F11_S8 a0 x2 x56 x57 ∧ m ≤ m6 ∧ F11_L8 m a0 x2 x56 x57 = some r) m6 ⟨F11_S8 a0 x2 x40 (0 : Int), ?_, x40, (0 : Int), rfl, Nat.le_refl _, h⟩ ?_
                        · simp only [F11_S8]
                          (try simp -implicitDefEqProofs (maxSteps := 4000000) (disch := first | omega | decide | (simp only [go_sem]; omega)) only [go_sem, ↓reduceIte])
                          first | exact leS_refl _ | (refine leS_le ?_ ?_ <;> first | exact leL_refl _ | exact leOs_refl _ | (repeat (first | exact leL_refl _ | refine leL_cons (by first | exact leT_refl _ | exact leT_virt | exact leT_junk _ | exact leT_sl | exact leT_sln | exact leT_nil) ?_)))
                        · clear h
                          rintro m8 S ⟨x56, x57, rfl, hm8, h⟩
                          cases m8 with
                          | zero => first | cases (show (none : Option _) = some _ from h) | (rw [F11_L8] at h; cases h)
                          | succ m8 =>
                            rw [F11_L8] at h
                            simp only [F11_S8]
                            refine runX_seq ?_
                            refine runX_seq ?_
                            refine runX_regionC fun C hC => ?_
                            try simp -implicitDefEqProofs (maxSteps := 4000000) (disch := first | omega | decide | (simp only [go_sem]; omega)) only [go_sem, ↓reduceIte]
                            repeat (with_reducible refine And.intro (by first | assumption | omega | (simp; done) | (simp; omega)) ?_)
                            rcases iteB_some h with ⟨c58, h⟩ | ⟨c58, h⟩
                            · refine guardK_T c58 ?_
                              try simp -implicitDefEqProofs (maxSteps := 4000000) (disch := first | omega | decide | (simp only [go_sem]; omega)) only [go_sem, ↓reduceIte]
                              repeat (with_reducible refine And.intro (by first | assumption | omega | (simp; done) | (simp; omega)) ?_)
                              refine toEnd hC ?_
                              refine endX_seq ?_
                              rcases iteB_some h with ⟨c59, h⟩ | ⟨c59, h⟩
                              · refine runX_condT rfl c59 ?_
                                refine runX_skip ?_
                                refine endX_seq ?_
                                refine runX_seq ?_
                                refine runX_block ?_
                                refine runX_regionC fun C hC => ?_
                                obtain ⟨g60, h⟩ := grd_some h
                                try simp -implicitDefEqProofs (maxSteps := 4000000) (disch := first | omega | decide | (simp only [go_sem]; omega)) only [go_sem, ↓reduceIte]
                                repeat (with_reducible refine And.intro (by first | assumption | omega | (simp; done) | (simp; omega)) ?_)
                                refine toEnd hC ?_
                                refine endX_blk ?_
                                refine endX_seq ?_
                                refine runX_regionC fun C hC => ?_
                                try simp -implicitDefEqProofs (maxSteps := 4000000) (disch := first | omega | decide | (simp only [go_sem]; omega)) only [go_sem, ↓reduceIte]
                                repeat (with_reducible refine And.intro (by first | assumption | omega | (simp; done) | (simp; omega)) ?_)
                                refine toEnd hC ?_
                                refine endX_q (roundQ_normal ⟨m8, by omega, F11_S8 a0 x2 (IntKind.wrap .i64 ((IntKind.wrap .i64 (x56 + (5 : Int))) + (if (3000 : Int) < ((((a0.getD x2.toNat default).2.2.2).getD x57.toNat default).length : Int) then (3000 : Int) else ((((a0.getD x2.toNat default).2.2.2).getD x57.toNat default).length : Int)))) (IntKind.wrap .i64 (x57 + (1 : Int))), ?_, (IntKind.wrap .i64 ((IntKind.wrap .i64 (x56 + (5 : Int))) + (if (3000 : Int) < ((((a0.getD x2.toNat default).2.2.2).getD x57.toNat default).length : Int) then (3000 : Int) else ((((a0.getD x2.toNat default).2.2.2).getD x57.toNat default).length : Int)))), (IntKind.wrap .i64 (x57 + (1 : Int))), rfl, by omega, h⟩)
                                simp only [F11_S8]
                                (try simp -implicitDefEqProofs (maxSteps := 4000000) (disch := first | omega | decide | (simp only [go_sem]; omega)) only [go_sem, ↓reduceIte])
                                first | exact leS_refl _ | (refine leS_le ?_ ?_ <;> first | exact leL_refl _ | exact leOs_refl _ | (repeat (first | exact leL_refl _ | refine leL_cons (by first | exact leT_refl _ | exact leT_virt | exact leT_junk _ | exact leT_sl | exact leT_sln | exact leT_nil) ?_)))
                              · refine runX_condF rfl c59 ?_
                                refine runX_exit ?_
                                refine endX_seqE ?_
                                refine endX_q (roundQ_exit ?_)
                                refine endX_blkE ?_
                                refine endX_blk ?_
                                refine endX_seq ?_
                                refine runX_regionC fun C hC => ?_
                                try simp -implicitDefEqProofs (maxSteps := 4000000) (disch := first | omega | decide | (simp only [go_sem]; omega)) only [go_sem, ↓reduceIte]
                                repeat (with_reducible refine And.intro (by first | assumption | omega | (simp; done) | (simp; omega)) ?_)
                                refine toEnd hC ?_
                                refine endX_lp ?_
                                refine runX_seq ?_
                                refine runX_seq ?_
                                refine runX_regionC fun C hC => ?_
                                try simp -implicitDefEqProofs (maxSteps := 4000000) (disch := first | omega | decide | (simp only [go_sem]; omega)) only [go_sem, ↓reduceIte]
                                repeat (with_reducible refine And.intro (by first | assumption | omega | (simp; done) | (simp; omega)) ?_)
                                refine toEnd hC ?_
                                refine endX_seq ?_
                                refine runX_condF rfl rfl ?_
                                refine runX_exit ?_
                                refine endX_seqE ?_
                                refine endX_lpE ?_
                                refine endX_blkE ?_
                                refine endX_seq ?_
                                refine runX_regionC fun C hC => ?_
                                try simp -implicitDefEqProofs (maxSteps := 4000000) (disch := first | omega | decide | (simp only [go_sem]; omega)) only [go_sem, ↓reduceIte]
                                repeat (with_reducible refine And.intro (by first | assumption | omega | (simp; done) | (simp; omega)) ?_)
                                refine toEnd hC ?_
                                refine endX_blk ?_
                                refine endX_seq ?_
                                refine runX_regionC fun C hC => ?_
                                try simp -implicitDefEqProofs (maxSteps := 4000000) (disch := first | omega | decide | (simp only [go_sem]; omega)) only [go_sem, ↓reduceIte]
                                repeat (with_reducible refine And.intro (by first | assumption | omega | (simp; done) | (simp; omega)) ?_)
                                refine toEnd hC ?_
                                refine endX_q (roundQ_normal ⟨m8, by omega, F11_S1 a0 (IntKind.wrap .i64 (x56 + (20 : Int))) (IntKind.wrap .i64 (x2 + (1 : Int))), ?_, (IntKind.wrap .i64 (x56 + (20 : Int))), (IntKind.wrap .i64 (x2 + (1 : Int))), rfl, by omega, h⟩)
                                simp only [F11_S1]
                                (try simp -implicitDefEqProofs (maxSteps := 4000000) (disch := first | omega | decide | (simp only [go_sem]; omega)) only [go_sem, ↓reduceIte])
                                first | exact leS_refl _ | (refine leS_le ?_ ?_ <;> first | exact leL_refl _ | exact leOs_refl _ | (repeat (first | exact leL_refl _ | refine leL_cons (by first | exact leT_refl _ | exact leT_virt | exact leT_junk _ | exact leT_sl | exact leT_sln | exact leT_nil) ?_)))
                            · refine guardK_F c58 ?_
                              try simp -implicitDefEqProofs (maxSteps := 4000000) (disch := first | omega | decide | (simp only [go_sem]; omega)) only [go_sem, ↓reduceIte]
                              repeat (with_reducible refine And.intro (by first | assumption | omega | (simp; done) | (simp; omega)) ?_)
                              refine toEnd hC ?_
                              refine endX_seq ?_
                              refine runX_condF rfl rfl ?_
                              refine runX_exit ?_
                              refine endX_seqE ?_
                              refine endX_q (roundQ_exit ?_)
                              refine endX_blkE ?_
                              refine endX_blk ?_
                              refine endX_seq ?_
                              refine runX_regionC fun C hC => ?_
                              try simp -implicitDefEqProofs (maxSteps := 4000000) (disch := first | omega | decide | (simp only [go_sem]; omega)) only [go_sem, ↓reduceIte]
                              repeat (with_reducible refine And.intro (by first | assumption | omega | (simp; done) | (simp; omega)) ?_)
                              refine toEnd hC ?_
                              refine endX_lp ?_
                              refine runX_seq ?_
                              refine runX_seq ?_
                              refine runX_regionC fun C hC => ?_
                              try simp -implicitDefEqProofs (maxSteps := 4000000) (disch := first | omega | decide | (simp only [go_sem]; omega)) only [go_sem, ↓reduceIte]
                              repeat (with_reducible refine And.intro (by first | assumption | omega | (simp; done) | (simp; omega)) ?_)
                              refine toEnd hC ?_
                              refine endX_seq ?_
                              refine runX_condF rfl rfl ?_
                              refine runX_exit ?_
                              refine endX_seqE ?_
                              refine endX_lpE ?_
                              refine endX_blkE ?_
                              refine endX_seq ?_
                              refine runX_regionC fun C hC => ?_
                              try simp -implicitDefEqProofs (maxSteps := 4000000) (disch := first | omega | decide | (simp only [go_sem]; omega)) only [go_sem, ↓reduceIte]
                              repeat (with_reducible refine And.intro (by first | assumption | omega | (simp; done) | (simp; omega)) ?_)
                              refine toEnd hC ?_
                              refine endX_blk ?_
                              refine endX_seq ?_
                              refine runX_regionC fun C hC => ?_
                              try simp -implicitDefEqProofs (maxSteps := 4000000) (disch := first | omega | decide | (simp only [go_sem]; omega)) only [go_sem, ↓reduceIte]
                              repeat (with_reducible refine And.intro (by first | assumption | omega | (simp; done) | (simp; omega)) ?_)
                              refine toEnd hC ?_
                              refine endX_q (roundQ_normal ⟨m8, by omega, F11_S1 a0 (IntKind.wrap .i64 (x56 + (20 : Int))) (IntKind.wrap .i64 (x2 + (1 : Int))), ?_, (IntKind.wrap .i64 (x56 + (20 : Int))), (IntKind.wrap .i64 (x2 + (1 : Int))), rfl, by omega, h⟩)
                              simp only [F11_S1]
                              (try simp -implicitDefEqProofs (maxSteps := 4000000) (disch := first | omega | decide | (simp only [go_sem]; omega)) only [go_sem, ↓reduceIte])
                              first | exact leS_refl _ | (refine leS_le ?_ ?_ <;> first | exact leL_refl _ | exact leOs_refl _ | (repeat (first | exact leL_refl _ | refine leL_cons (by first | exact leT_refl _ | exact leT_virt | exact leT_junk _ | exact leT_sl | exact leT_sln | exact leT_nil) ?_)))
          · refine runX_condF rfl c4 ?_
            refine runX_exit ?_
            refine endX_seqE ?_
            refine endX_q (roundQ_exit ?_)
            refine endX_blkE ?_
            refine endX_seq ?_
            refine runX_seq ?_
            refine runX_regionC fun C hC => ?_
            try simp -implicitDefEqProofs (maxSteps := 4000000) (disch := first | omega | decide | (simp only [go_sem]; omega)) only [go_sem, ↓reduceIte]
            repeat (with_reducible refine And.intro (by first | assumption | omega | (simp; done) | (simp; omega)) ?_)
            refine toEnd hC ?_
            refine endX_seq ?_
            refine runX_ret ?_
            refine endX_q ?_
            obtain rfl := Option.some.inj h
            show RetW _ _ _ _ _
            simp only [RetW]
            (try simp -implicitDefEqProofs (maxSteps := 4000000) (disch := first | omega | decide | (simp only [go_sem]; omega)) only [go_sem, ↓reduceIte])
            (try simp (disch := omega) only [if_pos, Nat.sub_zero])
            exact leT_refl _
        · refine guardK_F c3 ?_
          try simp -implicitDefEqProofs (maxSteps := 4000000) (disch := first | omega | decide | (simp only [go_sem]; omega)) only [go_sem, ↓reduceIte]
          repeat (with_reducible refine And.intro (by first | assumption | omega | (simp; done) | (simp; omega)) ?_)
          refine toEnd hC ?_
          refine endX_seq ?_
          refine runX_condF rfl rfl ?_
          refine runX_exit ?_
          refine endX_seqE ?_
          refine endX_q (roundQ_exit ?_)
          refine endX_blkE ?_
          refine endX_seq ?_
          refine runX_seq ?_
          refine runX_regionC fun C hC => ?_
          try simp -implicitDefEqProofs (maxSteps := 4000000) (disch := first | omega | decide | (simp only [go_sem]; omega)) only [go_sem, ↓reduceIte]
          repeat (with_reducible refine And.intro (by first | assumption | omega | (simp; done) | (simp; omega)) ?_)
          refine toEnd hC ?_
          refine endX_seq ?_
          refine runX_ret ?_
          refine endX_q ?_
          obtain rfl := Option.some.inj h
          show RetW _ _ _ _ _
          simp only [RetW]
          (try simp -implicitDefEqProofs (maxSteps := 4000000) (disch := first | omega | decide | (simp only [go_sem]; omega)) only [go_sem, ↓reduceIte])
          (try simp (disch := omega) only [if_pos, Nat.sub_zero])
          exact leT_refl _
end Go.Proofs.YtjkfobmfddfjhaaDoorX

set_option linter.unusedVariables false
set_option linter.unusedSimpArgs false
namespace Go.Proofs.YtjkfobmfddfjhaaDoorX
open Go Go.RowKit Go.Proofs
set_option maxRecDepth 100000
attribute [local go_sem] String.reduceEq String.reduceNe reduceCtorEq Int.reduceEq Nat.reduceAdd Nat.reduceSub Nat.reduceMul Nat.reduceLT Nat.reduceLeDiff Nat.reduceEqDiff Nat.reduceBEq Int.reduceToNat Int.reduceLT Int.reduceLE Int.reduceGT Int.reduceGE Int.reduceAdd Int.reduceSub Int.reduceMul Int.reduceNeg Int.reduceBEq Int.reduceBNe Int.reducePow Int.reduceDiv Int.reduceMod Int.reduceTDiv Int.reduceTMod Int.reduceNatCast
/-! ### policy.among -/
def F31_S1 (a1 : List UInt8) (a0 : List (List UInt8)) (x1 : Int) : St := ⟨[.junk, .imm (.string (bs a1)), .junk, .junk, .junk, .junk, .junk, .sl 1 false (List.map eS a0), .imm (.int .i64 (a0.length : Int)), .imm (.int .i64 x1), .junk, .junk, .junk, .junk, .junk, .junk, .junk], []⟩
def F31_L1 : Nat → (List UInt8) → (List (List UInt8)) → (Int) → Option (Bool)
  | 0, _, _, _ => none
  | m1 + 1, a1, a0, x1 => iteB (decide (x1 < (a0.length : Int))) (grd (0 ≤ x1 ∧ x1 < (a0.length : Int)) ((F10 m1 (a0.getD x1.toNat default) a1).bind fun v4 => iteB v4 (some true) (F31_L1 m1 a1 a0 (IntKind.wrap .i64 (x1 + (1 : Int)))))) (some false)
def F31 (n : Nat) (a0 : List (List UInt8)) (a1 : List UInt8) : Option (Bool) := F31_L1 n a1 a0 (0 : Int)
set_option maxHeartbeats 4000000 in
theorem F31_ok : ∀ (n : Nat) (a0 : List (List UInt8)) (a1 : List UInt8) (r : Bool), F31 n a0 a1 = some r → FnC Tryd.prog 31 [.sl 1 false (List.map eS a0), .imm (.string (bs a1))] (.imm (.bool r))
  | n, a0, a1, r, h => by
    unfold F31 at h
    refine FnC.goX mixed Tryd.func31 (by kernel_rfl) rfl ?_
    simp only [Tryd.ntmps31, List.length_cons, List.length_nil, List.replicate, List.cons_append, List.nil_append, Nat.reduceAdd, Nat.reduceSub]
    refine runX_seq ?_
    refine runX_regionC fun C hC => ?_
    try simp -implicitDefEqProofs (maxSteps := 4000000) (disch := first | omega | decide | (simp only [go_sem]; omega)) only [go_sem, ↓reduceIte]
    repeat (with_reducible refine And.intro (by first | assumption | omega | (simp; done) | (simp; omega)) ?_)
    refine toEnd hC ?_
    refine endX_seq ?_
    refine runX_seq ?_
    refine runX_seq ?_
    refine runX_regionC fun C hC => ?_
    try simp -implicitDefEqProofs (maxSteps := 4000000) (disch := first | omega | decide | (simp only [go_sem]; omega)) only [go_sem, ↓reduceIte]
    repeat (with_reducible refine And.intro (by first | assumption | omega | (simp; done) | (simp; omega)) ?_)
    refine toEnd hC ?_
    refine endX_seq ?_
    refine runX_block ?_
    refine runX_loop [1, 7, 8, 9] (fun m S => ∃ (x1 : Int), S = F31_S1 a1 a0 x1 ∧ m ≤ n ∧ F31_L1 m a1 a0 x1 = some r) n ⟨F31_S1 a1 a0 (0 : Int), ?_, (0 : Int), rfl, Nat.le_refl _, h⟩ ?_
    · simp only [F31_S1]
      (try simp -implicitDefEqProofs (maxSteps := 4000000) (disch := first | omega | decide | (simp only [go_sem]; omega)) only [go_sem, ↓reduceIte])
      first | exact leS_refl _ | (refine leS_le ?_ ?_ <;> first | exact leL_refl _ | exact leOs_refl _ | (repeat (first | exact leL_refl _ | refine leL_cons (by first | exact leT_refl _ | exact leT_virt | exact leT_junk _ | exact leT_sl | exact leT_sln | exact leT_nil) ?_)))
    · clear h
      rintro m1 S ⟨x1, rfl, hm1, h⟩
      cases m1 with
      | zero => first | cases (show (none : Option _) = some _ from h) | (rw [F31_L1] at h; cases h)
      | succ m1 =>
        rw [F31_L1] at h
        simp only [F31_S1]
        refine runX_seq ?_
        refine runX_regionC fun C hC => ?_
        try simp -implicitDefEqProofs (maxSteps := 4000000) (disch := first | omega | decide | (simp only [go_sem]; omega)) only [go_sem, ↓reduceIte]
        repeat (with_reducible refine And.intro (by first | assumption | omega | (simp; done) | (simp; omega)) ?_)
        refine toEnd hC ?_
        refine endX_seq ?_
        refine runX_seq ?_
        rcases iteB_some h with ⟨c2, h⟩ | ⟨c2, h⟩
        · refine runX_condT rfl c2 ?_
          refine runX_skip ?_
          refine endX_seq ?_
          refine runX_seq ?_
          refine runX_block ?_
          refine runX_seq ?_
          refine runX_regionC fun C hC => ?_
          obtain ⟨g3, h⟩ := grd_some h
          try simp -implicitDefEqProofs (maxSteps := 4000000) (disch := first | omega | decide | (simp only [go_sem]; omega)) only [go_sem, ↓reduceIte]
          repeat (with_reducible refine And.intro (by first | assumption | omega | (simp; done) | (simp; omega)) ?_)
          refine toEnd hC ?_
          refine endX_seq ?_
          refine runX_seq ?_
          refine runX_regionC fun C hC => ?_
          obtain ⟨v4, h4, h⟩ := bnd_some h
          try simp -implicitDefEqProofs (maxSteps := 4000000) (disch := first | omega | decide | (simp only [go_sem]; omega)) only [go_sem, ↓reduceIte]
          repeat (with_reducible refine And.intro (by first | assumption | omega | (simp; done) | (simp; omega)) ?_)
          refine callG_X (F10_ok m1 (a0.getD x1.toNat default) a1 _ h4) (by repeat (first | exact leL_refl _ | refine leL_cons (by first | exact leT_refl _ | exact leT_virt | exact leT_junk _ | exact leT_sl | exact leT_sln | exact leT_nil) ?_)) ?_
          try simp -implicitDefEqProofs (maxSteps := 4000000) (disch := first | omega | decide | (simp only [go_sem]; omega)) only [go_sem, ↓reduceIte]
          repeat (with_reducible refine And.intro (by first | assumption | omega | (simp; done) | (simp; omega)) ?_)
          refine toEnd hC ?_
          refine endX_seq ?_
          rcases iteB_some h with ⟨c5, h⟩ | ⟨c5, h⟩
          · refine runX_condT rfl c5 ?_
            refine runX_seq ?_
            refine runX_regionC fun C hC => ?_
            try simp -implicitDefEqProofs (maxSteps := 4000000) (disch := first | omega | decide | (simp only [go_sem]; omega)) only [go_sem, ↓reduceIte]
            repeat (with_reducible refine And.intro (by first | assumption | omega | (simp; done) | (simp; omega)) ?_)
            refine toEnd hC ?_
            refine endX_seq ?_
            refine runX_ret ?_
            refine endX_blkR ?_
            refine endX_seqR ?_
            refine endX_q (roundQ_ret ?_)
            refine endX_blkR ?_
            refine endX_seqR ?_
            refine endX_q ?_
            obtain rfl := Option.some.inj h
            show RetW _ _ _ _ _
            simp only [RetW]
            (try simp -implicitDefEqProofs (maxSteps := 4000000) (disch := first | omega | decide | (simp only [go_sem]; omega)) only [go_sem, ↓reduceIte])
            (try simp (disch := omega) only [if_pos, Nat.sub_zero])
            exact leT_refl _
          · refine runX_condF rfl c5 ?_
            refine runX_skip ?_
            refine endX_blk ?_
            refine endX_seq ?_
            refine runX_regionC fun C hC => ?_
            try simp -implicitDefEqProofs (maxSteps := 4000000) (disch := first | omega | decide | (simp only [go_sem]; omega)) only [go_sem, ↓reduceIte]
            repeat (with_reducible refine And.intro (by first | assumption | omega | (simp; done) | (simp; omega)) ?_)
            refine toEnd hC ?_
            refine endX_q (roundQ_normal ⟨m1, by omega, F31_S1 a1 a0 (IntKind.wrap .i64 (x1 + (1 : Int))), ?_, (IntKind.wrap .i64 (x1 + (1 : Int))), rfl, by omega, h⟩)
            simp only [F31_S1]
            (try simp -implicitDefEqProofs (maxSteps := 4000000) (disch := first | omega | decide | (simp only [go_sem]; omega)) only [go_sem, ↓reduceIte])
            first | exact leS_refl _ | (refine leS_le ?_ ?_ <;> first | exact leL_refl _ | exact leOs_refl _ | (repeat (first | exact leL_refl _ | refine leL_cons (by first | exact leT_refl _ | exact leT_virt | exact leT_junk _ | exact leT_sl | exact leT_sln | exact leT_nil) ?_)))
        · refine runX_condF rfl c2 ?_
          refine runX_exit ?_
          refine endX_seqE ?_
          refine endX_q (roundQ_exit ?_)
          refine endX_blkE ?_
          refine endX_seq ?_
          refine runX_seq ?_
          refine runX_regionC fun C hC => ?_
          try simp -implicitDefEqProofs (maxSteps := 4000000) (disch := first | omega | decide | (simp only [go_sem]; omega)) only [go_sem, ↓reduceIte]
          repeat (with_reducible refine And.intro (by first | assumption | omega | (simp; done) | (simp; omega)) ?_)
          refine toEnd hC ?_
          refine endX_seq ?_
          refine runX_ret ?_
          refine endX_q ?_
          obtain rfl := Option.some.inj h
          show RetW _ _ _ _ _
          simp only [RetW]
          (try simp -implicitDefEqProofs (maxSteps := 4000000) (disch := first | omega | decide | (simp only [go_sem]; omega)) only [go_sem, ↓reduceIte])
          (try simp (disch := omega) only [if_pos, Nat.sub_zero])
          exact leT_refl _
end Go.Proofs.YtjkfobmfddfjhaaDoorX

set_option linter.unusedVariables false
set_option linter.unusedSimpArgs false
namespace Go.Proofs.YtjkfobmfddfjhaaDoorX
open Go Go.RowKit Go.Proofs
set_option maxRecDepth 100000
attribute [local go_sem] String.reduceEq String.reduceNe reduceCtorEq Int.reduceEq Nat.reduceAdd Nat.reduceSub Nat.reduceMul Nat.reduceLT Nat.reduceLeDiff Nat.reduceEqDiff Nat.reduceBEq Int.reduceToNat Int.reduceLT Int.reduceLE Int.reduceGT Int.reduceGE Int.reduceAdd Int.reduceSub Int.reduceMul Int.reduceNeg Int.reduceBEq Int.reduceBNe Int.reducePow Int.reduceDiv Int.reduceMod Int.reduceTDiv Int.reduceTMod Int.reduceNatCast
/-! ### policy.Decide -/
def F12_S1 (a1 : List UInt8) (a2 : List UInt8) (a3 : List UInt8) (a0 : List ((Bool) × (List (List UInt8)) × (List (List UInt8)) × (List (List UInt8)))) (x1 : Int) (x2 : Int) : St := ⟨[.junk, .imm (.string (bs a1)), .imm (.string (bs a2)), .imm (.string (bs a3)), .junk, .junk, .junk, .junk, .junk, .imm (.int .i64 x1), .junk, .junk, .sl 4 false (List.map eT33 a0), .imm (.int .i64 (a0.length : Int)), .imm (.int .i64 x2), .junk, .junk, .junk, .junk, .junk, .junk, .junk, .junk, .junk, .junk, .junk, .junk, .junk, .junk, .junk, .junk, .junk, .junk, .junk, .junk, .junk, .junk, .junk, .junk, .junk, .junk, .junk], []⟩
def F12_L1 : Nat → (List UInt8) → (List UInt8) → (List UInt8) → (List ((Bool) × (List (List UInt8)) × (List (List UInt8)) × (List (List UInt8)))) → (Int) → (Int) → Option (Int)
  | 0, _, _, _, _, _, _ => none
  | m1 + 1, a1, a2, a3, a0, x1, x2 => iteB (decide (x2 < (a0.length : Int))) (grd (0 ≤ x2 ∧ x2 < (a0.length : Int)) ((F31 m1 ((a0.getD x2.toNat default).2.1) a1).bind fun v5 => iteB (!v5) (F12_L1 m1 a1 a2 a3 a0 x1 (IntKind.wrap .i64 (x2 + (1 : Int)))) ((F31 m1 ((a0.getD x2.toNat default).2.2.1) a2).bind fun v7 => iteB (!v7) (F12_L1 m1 a1 a2 a3 a0 x1 (IntKind.wrap .i64 (x2 + (1 : Int)))) ((F31 m1 ((a0.getD x2.toNat default).2.2.2) a3).bind fun v9 => iteB (!v9) (F12_L1 m1 a1 a2 a3 a0 x1 (IntKind.wrap .i64 (x2 + (1 : Int)))) (iteB (!((a0.getD x2.toNat default).1)) (some (2 : Int)) (F12_L1 m1 a1 a2 a3 a0 (1 : Int) (IntKind.wrap .i64 (x2 + (1 : Int))))))))) (some x1)
def F12 (n : Nat) (a0 : List ((Bool) × (List (List UInt8)) × (List (List UInt8)) × (List (List UInt8)))) (a1 : List UInt8) (a2 : List UInt8) (a3 : List UInt8) : Option (Int) := F12_L1 n a1 a2 a3 a0 (0 : Int) (0 : Int)
set_option maxHeartbeats 4000000 in
theorem F12_ok : ∀ (n : Nat) (a0 : List ((Bool) × (List (List UInt8)) × (List (List UInt8)) × (List (List UInt8)))) (a1 : List UInt8) (a2 : List UInt8) (a3 : List UInt8) (r : Int), F12 n a0 a1 a2 a3 = some r → FnC Tryd.prog 12 [.sl 4 false (List.map eT33 a0), .imm (.string (bs a1)), .imm (.string (bs a2)), .imm (.string (bs a3))] (.imm (.int .i64 r))
  | n, a0, a1, a2, a3, r, h => by
    unfold F12 at h
    refine FnC.goX mixed Tryd.func12 (by kernel_rfl) rfl ?_
    simp only [Tryd.ntmps12, List.length_cons, List.length_nil, List.replicate, List.cons_append, List.nil_append, Nat.reduceAdd, Nat.reduceSub]
    refine runX_seq ?_
    refine runX_regionC fun C hC => ?_
    try simp -implicitDefEqProofs (maxSteps := 4000000) (disch := first | omega | decide | (simp only [go_sem]; omega)) only [go_sem, ↓reduceIte]
    repeat (with_reducible refine And.intro (by first | assumption | omega | (simp; done) | (simp; omega)) ?_)
    refine toEnd hC ?_
    refine endX_seq ?_
    refine runX_seq ?_
    refine runX_regionC fun C hC => ?_
    try simp -implicitDefEqProofs (maxSteps := 4000000) (disch := first | omega | decide | (simp only [go_sem]; omega)) only [go_sem, ↓reduceIte]
    repeat (with_reducible refine And.intro (by first | assumption | omega | (simp; done) | (simp; omega)) ?_)
    refine toEnd hC ?_
    refine endX_seq ?_
    refine runX_seq ?_
    refine runX_seq ?_
    refine runX_regionC fun C hC => ?_
    try simp -implicitDefEqProofs (maxSteps := 4000000) (disch := first | omega | decide | (simp only [go_sem]; omega)) only [go_sem, ↓reduceIte]
    repeat (with_reducible refine And.intro (by first | assumption | omega | (simp; done) | (simp; omega)) ?_)
    refine toEnd hC ?_
    refine endX_seq ?_
    refine runX_block ?_
    refine runX_loop [1, 2, 3, 9, 12, 13, 14] (fun m S => ∃ (x1 : Int) (x2 : Int), S = F12_S1 a1 a2 a3 a0 x1 x2 ∧ m ≤ n ∧ F12_L1 m a1 a2 a3 a0 x1 x2 = some r) n ⟨F12_S1 a1 a2 a3 a0 (0 : Int) (0 : Int), ?_, (0 : Int), (0 : Int), rfl, Nat.le_refl _, h⟩ ?_
    · simp only [F12_S1]
      (try simp -implicitDefEqProofs (maxSteps := 4000000) (disch := first | omega | decide | (simp only [go_sem]; omega)) only [go_sem, ↓reduceIte])
      first | exact leS_refl _ | (refine leS_le ?_ ?_ <;> first | exact leL_refl _ | exact leOs_refl _ | (repeat (first | exact leL_refl _ | refine leL_cons (by first | exact leT_refl _ | exact leT_virt | exact leT_junk _ | exact leT_sl | exact leT_sln | exact leT_nil) ?_)))
    · clear h
      rintro m1 S ⟨x1, x2, rfl, hm1, h⟩
      cases m1 with
      | zero => first | cases (show (none : Option _) = some _ from h) | (rw [F12_L1] at h; cases h)
      | succ m1 =>
        rw [F12_L1] at h
        simp only [F12_S1]
        refine runX_seq ?_
        refine runX_regionC fun C hC => ?_
        try simp -implicitDefEqProofs (maxSteps := 4000000) (disch := first | omega | decide | (simp only [go_sem]; omega)) only [go_sem, ↓reduceIte]
        repeat (with_reducible refine And.intro (by first | assumption | omega | (simp; done) | (simp; omega)) ?_)
        refine toEnd hC ?_
        refine endX_seq ?_
        refine runX_seq ?_
        rcases iteB_some h with ⟨c3, h⟩ | ⟨c3, h⟩
        · refine runX_condT rfl c3 ?_
          refine runX_skip ?_
          refine endX_seq ?_
          refine runX_seq ?_
          refine runX_block ?_
          refine runX_seq ?_
          refine runX_regionC fun C hC => ?_
          obtain ⟨g4, h⟩ := grd_some h
          try simp -implicitDefEqProofs (maxSteps := 4000000) (disch := first | omega | decide | (simp only [go_sem]; omega)) only [go_sem, ↓reduceIte]
          repeat (with_reducible refine And.intro (by first | assumption | omega | (simp; done) | (simp; omega)) ?_)
          refine toEnd hC ?_
          refine endX_seq ?_
          refine runX_seq ?_
          refine runX_seq ?_
          refine runX_regionC fun C hC => ?_
          obtain ⟨v5, h5, h⟩ := bnd_some h
          try simp -implicitDefEqProofs (maxSteps := 4000000) (disch := first | omega | decide | (simp only [go_sem]; omega)) only [go_sem, ↓reduceIte]
          repeat (with_reducible refine And.intro (by first | assumption | omega | (simp; done) | (simp; omega)) ?_)
          refine callG_X (F31_ok m1 ((a0.getD x2.toNat default).2.1) a1 _ h5) (by repeat (first | exact leL_refl _ | refine leL_cons (by first | exact leT_refl _ | exact leT_virt | exact leT_junk _ | exact leT_sl | exact leT_sln | exact leT_nil) ?_)) ?_
          try simp -implicitDefEqProofs (maxSteps := 4000000) (disch := first | omega | decide | (simp only [go_sem]; omega)) only [go_sem, ↓reduceIte]
          repeat (with_reducible refine And.intro (by first | assumption | omega | (simp; done) | (simp; omega)) ?_)
          rcases iteB_some h with ⟨c6, h⟩ | ⟨c6, h⟩
          · refine guardK_F c6 ?_
            try simp -implicitDefEqProofs (maxSteps := 4000000) (disch := first | omega | decide | (simp only [go_sem]; omega)) only [go_sem, ↓reduceIte]
            repeat (with_reducible refine And.intro (by first | assumption | omega | (simp; done) | (simp; omega)) ?_)
            refine toEnd hC ?_
            refine endX_seq ?_
            refine runX_condT rfl rfl ?_
            refine runX_exit ?_
            refine endX_seqE ?_
            refine endX_blkE ?_
            refine endX_seq ?_
            refine runX_regionC fun C hC => ?_
            try simp -implicitDefEqProofs (maxSteps := 4000000) (disch := first | omega | decide | (simp only [go_sem]; omega)) only [go_sem, ↓reduceIte]
            repeat (with_reducible refine And.intro (by first | assumption | omega | (simp; done) | (simp; omega)) ?_)
            refine toEnd hC ?_
            refine endX_q (roundQ_normal ⟨m1, by omega, F12_S1 a1 a2 a3 a0 x1 (IntKind.wrap .i64 (x2 + (1 : Int))), ?_, x1, (IntKind.wrap .i64 (x2 + (1 : Int))), rfl, by omega, h⟩)
            simp only [F12_S1]
            (try simp -implicitDefEqProofs (maxSteps := 4000000) (disch := first | omega | decide | (simp only [go_sem]; omega)) only [go_sem, ↓reduceIte])
            first | exact leS_refl _ | (refine leS_le ?_ ?_ <;> first | exact leL_refl _ | exact leOs_refl _ | (repeat (first | exact leL_refl _ | refine leL_cons (by first | exact leT_refl _ | exact leT_virt | exact leT_junk _ | exact leT_sl | exact leT_sln | exact leT_nil) ?_)))
          · refine guardK_T c6 ?_
            obtain ⟨v7, h7, h⟩ := bnd_some h
            try simp -implicitDefEqProofs (maxSteps := 4000000) (disch := first | omega | decide | (simp only [go_sem]; omega)) only [go_sem, ↓reduceIte]
            repeat (with_reducible refine And.intro (by first | assumption | omega | (simp; done) | (simp; omega)) ?_)
            refine callG_X (F31_ok m1 ((a0.getD x2.toNat default).2.2.1) a2 _ h7) (by repeat (first | exact leL_refl _ | refine leL_cons (by first | exact leT_refl _ | exact leT_virt | exact leT_junk _ | exact leT_sl | exact leT_sln | exact leT_nil) ?_)) ?_
            try simp -implicitDefEqProofs (maxSteps := 4000000) (disch := first | omega | decide | (simp only [go_sem]; omega)) only [go_sem, ↓reduceIte]
            repeat (with_reducible refine And.intro (by first | assumption | omega | (simp; done) | (simp; omega)) ?_)
            rcases iteB_some h with ⟨c8, h⟩ | ⟨c8, h⟩
            · refine guardK_F c8 ?_
              try simp -implicitDefEqProofs (maxSteps := 4000000) (disch := first | omega | decide | (simp only [go_sem]; omega)) only [go_sem, ↓reduceIte]
              repeat (with_reducible refine And.intro (by first | assumption | omega | (simp; done) | (simp; omega)) ?_)
              refine toEnd hC ?_
              refine endX_seq ?_
              refine runX_condT rfl rfl ?_
              refine runX_exit ?_
              refine endX_seqE ?_
              refine endX_blkE ?_
              refine endX_seq ?_
              refine runX_regionC fun C hC => ?_
              try simp -implicitDefEqProofs (maxSteps := 4000000) (disch := first | omega | decide | (simp only [go_sem]; omega)) only [go_sem, ↓reduceIte]
              repeat (with_reducible refine And.intro (by first | assumption | omega | (simp; done) | (simp; omega)) ?_)
              refine toEnd hC ?_
              refine endX_q (roundQ_normal ⟨m1, by omega, F12_S1 a1 a2 a3 a0 x1 (IntKind.wrap .i64 (x2 + (1 : Int))), ?_, x1, (IntKind.wrap .i64 (x2 + (1 : Int))), rfl, by omega, h⟩)
              simp only [F12_S1]
              (try simp -implicitDefEqProofs (maxSteps := 4000000) (disch := first | omega | decide | (simp only [go_sem]; omega)) only [go_sem, ↓reduceIte])
              first | exact leS_refl _ | (refine leS_le ?_ ?_ <;> first | exact leL_refl _ | exact leOs_refl _ | (repeat (first | exact leL_refl _ | refine leL_cons (by first | exact leT_refl _ | exact leT_virt | exact leT_junk _ | exact leT_sl | exact leT_sln | exact leT_nil) ?_)))
            · refine guardK_T c8 ?_
              obtain ⟨v9, h9, h⟩ := bnd_some h
              try simp -implicitDefEqProofs (maxSteps := 4000000) (disch := first | omega | decide | (simp only [go_sem]; omega)) only [go_sem, ↓reduceIte]
              repeat (with_reducible refine And.intro (by first | assumption | omega | (simp; done) | (simp; omega)) ?_)
              refine callG_X (F31_ok m1 ((a0.getD x2.toNat default).2.2.2) a3 _ h9) (by repeat (first | exact leL_refl _ | refine leL_cons (by first | exact leT_refl _ | exact leT_virt | exact leT_junk _ | exact leT_sl | exact leT_sln | exact leT_nil) ?_)) ?_
              try simp -implicitDefEqProofs (maxSteps := 4000000) (disch := first | omega | decide | (simp only [go_sem]; omega)) only [go_sem, ↓reduceIte]
              repeat (with_reducible refine And.intro (by first | assumption | omega | (simp; done) | (simp; omega)) ?_)
              refine toEnd hC ?_
              refine endX_seq ?_
              rcases iteB_some h with ⟨c10, h⟩ | ⟨c10, h⟩
              · refine runX_condT rfl c10 ?_
                refine runX_exit ?_
                refine endX_seqE ?_
                refine endX_blkE ?_
                refine endX_seq ?_
                refine runX_regionC fun C hC => ?_
                try simp -implicitDefEqProofs (maxSteps := 4000000) (disch := first | omega | decide | (simp only [go_sem]; omega)) only [go_sem, ↓reduceIte]
                repeat (with_reducible refine And.intro (by first | assumption | omega | (simp; done) | (simp; omega)) ?_)
                refine toEnd hC ?_
                refine endX_q (roundQ_normal ⟨m1, by omega, F12_S1 a1 a2 a3 a0 x1 (IntKind.wrap .i64 (x2 + (1 : Int))), ?_, x1, (IntKind.wrap .i64 (x2 + (1 : Int))), rfl, by omega, h⟩)
                simp only [F12_S1]
                (try simp -implicitDefEqProofs (maxSteps := 4000000) (disch := first | omega | decide | (simp only [go_sem]; omega)) only [go_sem, ↓reduceIte])
                first | exact leS_refl _ | (refine leS_le ?_ ?_ <;> first | exact leL_refl _ | exact leOs_refl _ | (repeat (first | exact leL_refl _ | refine leL_cons (by first | exact leT_refl _ | exact leT_virt | exact leT_junk _ | exact leT_sl | exact leT_sln | exact leT_nil) ?_)))
              · refine runX_condF rfl c10 ?_
                refine runX_skip ?_
                refine endX_seq ?_
                refine runX_seq ?_
                refine runX_seq ?_
                refine runX_regionC fun C hC => ?_
                try simp -implicitDefEqProofs (maxSteps := 4000000) (disch := first | omega | decide | (simp only [go_sem]; omega)) only [go_sem, ↓reduceIte]
                repeat (with_reducible refine And.intro (by first | assumption | omega | (simp; done) | (simp; omega)) ?_)
                refine toEnd hC ?_
                refine endX_seq ?_
                rcases iteB_some h with ⟨c11, h⟩ | ⟨c11, h⟩
                · refine runX_condT rfl c11 ?_
                  refine runX_seq ?_
                  refine runX_regionC fun C hC => ?_
                  try simp -implicitDefEqProofs (maxSteps := 4000000) (disch := first | omega | decide | (simp only [go_sem]; omega)) only [go_sem, ↓reduceIte]
                  repeat (with_reducible refine And.intro (by first | assumption | omega | (simp; done) | (simp; omega)) ?_)
                  refine toEnd hC ?_
                  refine endX_seq ?_
                  refine runX_ret ?_
                  refine endX_seqR ?_
                  refine endX_blkR ?_
                  refine endX_seqR ?_
                  refine endX_q (roundQ_ret ?_)
                  refine endX_blkR ?_
                  refine endX_seqR ?_
                  refine endX_q ?_
                  obtain rfl := Option.some.inj h
                  show RetW _ _ _ _ _
                  simp only [RetW]
                  (try simp -implicitDefEqProofs (maxSteps := 4000000) (disch := first | omega | decide | (simp only [go_sem]; omega)) only [go_sem, ↓reduceIte])
                  (try simp (disch := omega) only [if_pos, Nat.sub_zero])
                  exact leT_refl _
                · refine runX_condF rfl c11 ?_
                  refine runX_skip ?_
                  refine endX_seq ?_
                  refine runX_regionC fun C hC => ?_
                  try simp -implicitDefEqProofs (maxSteps := 4000000) (disch := first | omega | decide | (simp only [go_sem]; omega)) only [go_sem, ↓reduceIte]
                  repeat (with_reducible refine And.intro (by first | assumption | omega | (simp; done) | (simp; omega)) ?_)
                  refine toEnd hC ?_
                  refine endX_blk ?_
                  refine endX_seq ?_
                  refine runX_regionC fun C hC => ?_
                  try simp -implicitDefEqProofs (maxSteps := 4000000) (disch := first | omega | decide | (simp only [go_sem]; omega)) only [go_sem, ↓reduceIte]
                  repeat (with_reducible refine And.intro (by first | assumption | omega | (simp; done) | (simp; omega)) ?_)
                  refine toEnd hC ?_
                  refine endX_q (roundQ_normal ⟨m1, by omega, F12_S1 a1 a2 a3 a0 (1 : Int) (IntKind.wrap .i64 (x2 + (1 : Int))), ?_, (1 : Int), (IntKind.wrap .i64 (x2 + (1 : Int))), rfl, by omega, h⟩)
                  simp only [F12_S1]
                  (try simp -implicitDefEqProofs (maxSteps := 4000000) (disch := first | omega | decide | (simp only [go_sem]; omega)) only [go_sem, ↓reduceIte])
                  first | exact leS_refl _ | (refine leS_le ?_ ?_ <;> first | exact leL_refl _ | exact leOs_refl _ | (repeat (first | exact leL_refl _ | refine leL_cons (by first | exact leT_refl _ | exact leT_virt | exact leT_junk _ | exact leT_sl | exact leT_sln | exact leT_nil) ?_)))
        · refine runX_condF rfl c3 ?_
          refine runX_exit ?_
          refine endX_seqE ?_
          refine endX_q (roundQ_exit ?_)
          refine endX_blkE ?_
          refine endX_seq ?_
          refine runX_seq ?_
          refine runX_regionC fun C hC => ?_
          try simp -implicitDefEqProofs (maxSteps := 4000000) (disch := first | omega | decide | (simp only [go_sem]; omega)) only [go_sem, ↓reduceIte]
          repeat (with_reducible refine And.intro (by first | assumption | omega | (simp; done) | (simp; omega)) ?_)
          refine toEnd hC ?_
          refine endX_seq ?_
          refine runX_ret ?_
          refine endX_q ?_
          obtain rfl := Option.some.inj h
          show RetW _ _ _ _ _
          simp only [RetW]
          (try simp -implicitDefEqProofs (maxSteps := 4000000) (disch := first | omega | decide | (simp only [go_sem]; omega)) only [go_sem, ↓reduceIte])
          (try simp (disch := omega) only [if_pos, Nat.sub_zero])
          exact leT_refl _
end Go.Proofs.YtjkfobmfddfjhaaDoorX

set_option linter.unusedVariables false
set_option linter.unusedSimpArgs false
namespace Go.Proofs.YtjkfobmfddfjhaaDoorX
open Go Go.RowKit Go.Proofs
set_option maxRecDepth 100000
attribute [local go_sem] String.reduceEq String.reduceNe reduceCtorEq Int.reduceEq Nat.reduceAdd Nat.reduceSub Nat.reduceMul Nat.reduceLT Nat.reduceLeDiff Nat.reduceEqDiff Nat.reduceBEq Int.reduceToNat Int.reduceLT Int.reduceLE Int.reduceGT Int.reduceGE Int.reduceAdd Int.reduceSub Int.reduceMul Int.reduceNeg Int.reduceBEq Int.reduceBNe Int.reducePow Int.reduceDiv Int.reduceMod Int.reduceTDiv Int.reduceTMod Int.reduceNatCast
/-! ### shadowboxref42.Match -/
def F15_S2 (a0 : List UInt8) (a1 : List UInt8) (x6 : List (Bool)) (x5 : Int) (x10 : Int) (x11 : List (Bool)) : St := ⟨[.imm (.string (bs a0)), .imm (.string (bs a1)), .junk, .junk, .junk, .rsl 0 1 0 x6.length, .imm (.int .i64 x5), .rsl 1 1 0 x11.length, .imm (.int .i64 x10), .junk, .junk, .junk, .junk, .junk, .junk, .junk, .junk, .junk, .junk, .junk, .junk, .junk, .junk, .junk, .junk, .junk, .junk, .junk, .junk, .junk, .junk, .junk, .junk, .junk, .junk, .junk, .junk, .junk, .junk, .junk, .junk, .junk, .junk, .junk, .junk, .junk, .junk, .junk, .junk, .junk, .junk, .junk, .junk, .junk, .junk, .junk, .junk, .junk, .junk, .junk, .junk, .junk, .junk, .junk, .junk, .junk, .junk, .junk, .junk, .junk, .junk, .junk, .junk, .junk, .junk, .junk, .junk, .junk, .junk, .junk, .junk, .junk, .junk, .junk, .junk], [some (.buf 4 1 (List.map eB x6) 0), some (.buf 4 1 (List.map eB x11) 0)]⟩
def F15_S1 (a0 : List UInt8) (a1 : List UInt8) (x5 : Int) (x6 : List (Bool)) : St := ⟨[.imm (.string (bs a0)), .imm (.string (bs a1)), .junk, .junk, .junk, .rsl 0 1 0 x6.length, .imm (.int .i64 x5), .junk, .junk, .junk, .junk, .junk, .junk, .junk, .junk, .junk, .junk, .junk, .junk, .junk, .junk, .junk, .junk, .junk, .junk, .junk, .junk, .junk, .junk, .junk, .junk, .junk, .junk, .junk, .junk, .junk, .junk, .junk, .junk, .junk, .junk, .junk, .junk, .junk, .junk, .junk, .junk, .junk, .junk, .junk, .junk, .junk, .junk, .junk, .junk, .junk, .junk, .junk, .junk, .junk, .junk, .junk, .junk, .junk, .junk, .junk, .junk, .junk, .junk, .junk, .junk, .junk, .junk, .junk, .junk, .junk, .junk, .junk, .junk, .junk, .junk, .junk, .junk, .junk, .junk], [some (.buf 4 1 (List.map eB x6) 0)]⟩
mutual
def F15_L2 : Nat → (List UInt8) → (List UInt8) → (List (Bool)) → (Int) → (Int) → (List (Bool)) → Option (Bool)
  | 0, _, _, _, _, _, _ => none
  | m2 + 1, a0, a1, x6, x5, x10, x11 => iteB (decide (x10 ≤ (a1.length : Int))) (grd (0 ≤ x5 ∧ x5 < (a0.length : Int)) (iteB (((a0.getD x5.toNat 0).toNat : Int) == (42 : Int)) (grd (0 ≤ x10 ∧ x10 < (x6.length : Int)) (grd (x10.toNat < x6.length) (iteB (x6.getD x10.toNat default) (grd (0 ≤ x10 ∧ x10 < (x11.length : Int)) (grd (x10.toNat < x11.length) (F15_L2 m2 a0 a1 x6 x5 (IntKind.wrap .i64 (x10 + (1 : Int))) (List.set x11 x10.toNat true)))) (iteB (decide ((0 : Int) < x10)) (grd (0 ≤ (IntKind.wrap .i64 (x10 - (1 : Int))) ∧ (IntKind.wrap .i64 (x10 - (1 : Int))) < (x11.length : Int)) (grd ((IntKind.wrap .i64 (x10 - (1 : Int))).toNat < x11.length) (grd (0 ≤ x10 ∧ x10 < (x11.length : Int)) (grd (x10.toNat < x11.length) (F15_L2 m2 a0 a1 x6 x5 (IntKind.wrap .i64 (x10 + (1 : Int))) (List.set x11 x10.toNat (x11.getD ((IntKind.wrap .i64 (x10 - (1 : Int))).toNat) default))))))) (grd (0 ≤ x10 ∧ x10 < (x11.length : Int)) (grd (x10.toNat < x11.length) (F15_L2 m2 a0 a1 x6 x5 (IntKind.wrap .i64 (x10 + (1 : Int))) (List.set x11 x10.toNat false)))))))) (iteB (decide ((0 : Int) < x10)) (grd (0 ≤ x5 ∧ x5 < (a0.length : Int)) (iteB (((a0.getD x5.toNat 0).toNat : Int) == (63 : Int)) (grd (0 ≤ (IntKind.wrap .i64 (x10 - (1 : Int))) ∧ (IntKind.wrap .i64 (x10 - (1 : Int))) < (x6.length : Int)) (grd ((IntKind.wrap .i64 (x10 - (1 : Int))).toNat < x6.length) (grd (0 ≤ x10 ∧ x10 < (x11.length : Int)) (grd (x10.toNat < x11.length) (F15_L2 m2 a0 a1 x6 x5 (IntKind.wrap .i64 (x10 + (1 : Int))) (List.set x11 x10.toNat (x6.getD ((IntKind.wrap .i64 (x10 - (1 : Int))).toNat) default))))))) (grd (0 ≤ x5 ∧ x5 < (a0.length : Int)) (grd (0 ≤ (IntKind.wrap .i64 (x10 - (1 : Int))) ∧ (IntKind.wrap .i64 (x10 - (1 : Int))) < (a1.length : Int)) (iteB (((a0.getD x5.toNat 0).toNat : Int) == ((a1.getD (IntKind.wrap .i64 (x10 - (1 : Int))).toNat 0).toNat : Int)) (grd (0 ≤ (IntKind.wrap .i64 (x10 - (1 : Int))) ∧ (IntKind.wrap .i64 (x10 - (1 : Int))) < (x6.length : Int)) (grd ((IntKind.wrap .i64 (x10 - (1 : Int))).toNat < x6.length) (grd (0 ≤ x10 ∧ x10 < (x11.length : Int)) (grd (x10.toNat < x11.length) (F15_L2 m2 a0 a1 x6 x5 (IntKind.wrap .i64 (x10 + (1 : Int))) (List.set x11 x10.toNat (x6.getD ((IntKind.wrap .i64 (x10 - (1 : Int))).toNat) default))))))) (F15_L2 m2 a0 a1 x6 x5 (IntKind.wrap .i64 (x10 + (1 : Int))) x11)))))) (F15_L2 m2 a0 a1 x6 x5 (IntKind.wrap .i64 (x10 + (1 : Int))) x11)))) (F15_L1 m2 a0 a1 (IntKind.wrap .i64 (x5 + (1 : Int))) x11)
def F15_L1 : Nat → (List UInt8) → (List UInt8) → (Int) → (List (Bool)) → Option (Bool)
  | 0, _, _, _, _ => none
  | m1 + 1, a0, a1, x5, x6 => iteB (decide (x5 < (a0.length : Int))) (grd (0 ≤ (IntKind.wrap .i64 ((a1.length : Int) + (1 : Int))) ∧ (IntKind.wrap .i64 ((a1.length : Int) + (1 : Int))) ≤ (IntKind.wrap .i64 ((a1.length : Int) + (1 : Int))) ∧ (IntKind.wrap .i64 ((a1.length : Int) + (1 : Int))) ≤ 1099511627776) (F15_L2 m1 a0 a1 x6 x5 (0 : Int) (List.replicate (IntKind.wrap .i64 ((a1.length : Int) + (1 : Int))).toNat false))) (grd (0 ≤ (a1.length : Int) ∧ (a1.length : Int) < (x6.length : Int)) (grd ((a1.length : Int).toNat < x6.length) (some (x6.getD ((a1.length : Int).toNat) default))))
end
def F15 (n : Nat) (a0 : List UInt8) (a1 : List UInt8) : Option (Bool) := grd (0 ≤ (IntKind.wrap .i64 ((a1.length : Int) + (1 : Int))) ∧ (IntKind.wrap .i64 ((a1.length : Int) + (1 : Int))) ≤ (IntKind.wrap .i64 ((a1.length : Int) + (1 : Int))) ∧ (IntKind.wrap .i64 ((a1.length : Int) + (1 : Int))) ≤ 1099511627776) (grd ((0 : Int) < ((IntKind.wrap .i64 ((a1.length : Int) + (1 : Int))).toNat : Int)) (grd ((0 : Int).toNat < (IntKind.wrap .i64 ((a1.length : Int) + (1 : Int))).toNat) (F15_L1 n a0 a1 (0 : Int) (List.set (List.replicate (IntKind.wrap .i64 ((a1.length : Int) + (1 : Int))).toNat false) ((0 : Int).toNat) true))))
set_option maxHeartbeats 4000000 in
theorem F15_ok : ∀ (n : Nat) (a0 : List UInt8) (a1 : List UInt8) (r : Bool), F15 n a0 a1 = some r → FnC Tryd.prog 15 [.imm (.string (bs a0)), .imm (.string (bs a1))] (.imm (.bool r))
  | n, a0, a1, r, h => by
    unfold F15 at h
    refine FnC.goX mixed Tryd.func15 (by kernel_rfl) rfl ?_
    simp only [Tryd.ntmps15, List.length_cons, List.length_nil, List.replicate, List.cons_append, List.nil_append, Nat.reduceAdd, Nat.reduceSub]
    refine runX_seq ?_
    refine runX_regionC fun C hC => ?_
    try simp -implicitDefEqProofs (maxSteps := 4000000) (disch := first | omega | decide | (simp only [go_sem]; omega)) only [go_sem, ↓reduceIte]
    repeat (with_reducible refine And.intro (by first | assumption | omega | (simp; done) | (simp; omega)) ?_)
    refine toEnd hC ?_
    refine endX_seq ?_
    refine runX_seq ?_
    refine runX_regionC fun C hC => ?_
    obtain ⟨g1, h⟩ := grd_some h
    have e2 : List.replicate (IntKind.wrap .i64 ((a1.length : Int) + (1 : Int))).toNat (T.imm (.bool false)) = List.map eB (List.replicate (IntKind.wrap .i64 ((a1.length : Int) + (1 : Int))).toNat false) := rep_b (IntKind.wrap .i64 ((a1.length : Int) + (1 : Int))).toNat false
    try simp -implicitDefEqProofs (maxSteps := 4000000) (disch := first | omega | decide | (simp only [go_sem]; omega)) only [go_sem, ↓reduceIte, e2]
    repeat (with_reducible refine And.intro (by first | assumption | omega | (simp; done) | (simp; omega)) ?_)
    refine toEnd hC ?_
    refine endX_seq ?_
    refine runX_seq ?_
    refine runX_regionC fun C hC => ?_
    obtain ⟨g3, h⟩ := grd_some h
    obtain ⟨g4, h⟩ := grd_some h
    try simp -implicitDefEqProofs (maxSteps := 4000000) (disch := first | omega | decide | (simp only [go_sem]; omega)) only [go_sem, ↓reduceIte]
    repeat (with_reducible refine And.intro (by first | assumption | omega | (simp; done) | (simp; omega)) ?_)
    refine toEnd hC ?_
    refine endX_seq ?_
    refine runX_seq ?_
    refine runX_seq ?_
    refine runX_regionC fun C hC => ?_
    try simp -implicitDefEqProofs (maxSteps := 4000000) (disch := first | omega | decide | (simp only [go_sem]; omega)) only [go_sem, ↓reduceIte]
    repeat (with_reducible refine And.intro (by first | assumption | omega | (simp; done) | (simp; omega)) ?_)
    refine toEnd hC ?_
    refine endX_seq ?_
    refine runX_block ?_
    refine runX_loop [0, 1, 5, 6] (fun m S => ∃ (x5 : Int) (x6 : List (Bool)), S = F15_S1 a0 a1 x5 x6 ∧ m ≤ n ∧ F15_L1 m a0 a1 x5 x6 = some r) n ⟨F15_S1 a0 a1 (0 : Int) (List.set (List.replicate (IntKind.wrap .i64 ((a1.length : Int) + (1 : Int))).toNat false) ((0 : Int).toNat) true), ?_, (0 : Int), (List.set (List.replicate (IntKind.wrap .i64 ((a1.length : Int) + (1 : Int))).toNat false) ((0 : Int).toNat) true), rfl, Nat.le_refl _, h⟩ ?_
    · simp only [F15_S1]
      (try simp -implicitDefEqProofs (maxSteps := 4000000) (disch := first | omega | decide | (simp only [go_sem]; omega)) only [go_sem, ↓reduceIte])
      first | exact leS_refl _ | (refine leS_le ?_ ?_ <;> first | exact leL_refl _ | exact leOs_refl _ | (repeat (first | exact leL_refl _ | refine leL_cons (by first | exact leT_refl _ | exact leT_virt | exact leT_junk _ | exact leT_sl | exact leT_sln | exact leT_nil) ?_)))
    · clear h
      rintro m1 S ⟨x5, x6, rfl, hm1, h⟩
      cases m1 with
      | zero => first | cases (show (none : Option _) = some _ from h) | (rw [F15_L1] at h; cases h)
      | succ m1 =>
        rw [F15_L1] at h
        simp only [F15_S1]
        refine runX_seq ?_
        refine runX_seq ?_
        refine runX_regionC fun C hC => ?_
        try simp -implicitDefEqProofs (maxSteps := 4000000) (disch := first | omega | decide | (simp only [go_sem]; omega)) only [go_sem, ↓reduceIte]
        repeat (with_reducible refine And.intro (by first | assumption | omega | (simp; done) | (simp; omega)) ?_)
        refine toEnd hC ?_
        refine endX_seq ?_
        rcases iteB_some h with ⟨c7, h⟩ | ⟨c7, h⟩
        · refine runX_condT rfl c7 ?_
          refine runX_skip ?_
          refine endX_seq ?_
          refine runX_seq ?_
          refine runX_block ?_
          refine runX_seq ?_
          refine runX_regionC fun C hC => ?_
          obtain ⟨g8, h⟩ := grd_some h
          have e9 : List.replicate (IntKind.wrap .i64 ((a1.length : Int) + (1 : Int))).toNat (T.imm (.bool false)) = List.map eB (List.replicate (IntKind.wrap .i64 ((a1.length : Int) + (1 : Int))).toNat false) := rep_b (IntKind.wrap .i64 ((a1.length : Int) + (1 : Int))).toNat false
          try simp -implicitDefEqProofs (maxSteps := 4000000) (disch := first | omega | decide | (simp only [go_sem]; omega)) only [go_sem, ↓reduceIte, e9]
          repeat (with_reducible refine And.intro (by first | assumption | omega | (simp; done) | (simp; omega)) ?_)
          refine toEnd hC ?_
          refine endX_seq ?_
          refine runX_seq ?_
          refine runX_seq ?_
          refine runX_regionC fun C hC => ?_
          try simp -implicitDefEqProofs (maxSteps := 4000000) (disch := first | omega | decide | (simp only [go_sem]; omega)) only [go_sem, ↓reduceIte]
          repeat (with_reducible refine And.intro (by first | assumption | omega | (simp; done) | (simp; omega)) ?_)
          refine toEnd hC ?_
          refine endX_seq ?_
          refine runX_block ?_
          refine runX_loop [0, 1, 5, 6, 7, 8] (fun m S => ∃ (x10 : Int) (x11 : List (Bool)), S = F15_S2 a0 a1 x6 x5 x10 x11 ∧ m ≤ m1 ∧ F15_L2 m a0 a1 x6 x5 x10 x11 = some r) m1 ⟨F15_S2 a0 a1 x6 x5 (0 : Int) (List.replicate (IntKind.wrap .i64 ((a1.length : Int) + (1 : Int))).toNat false), ?_, (0 : Int), (List.replicate (IntKind.wrap .i64 ((a1.length : Int) + (1 : Int))).toNat false), rfl, Nat.le_refl _, h⟩ ?_
          · simp only [F15_S2]
            (try simp -implicitDefEqProofs (maxSteps := 4000000) (disch := first | omega | decide | (simp only [go_sem]; omega)) only [go_sem, ↓reduceIte])
            first | exact leS_refl _ | (refine leS_le ?_ ?_ <;> first | exact leL_refl _ | exact leOs_refl _ | (repeat (first | exact leL_refl _ | refine leL_cons (by first | exact leT_refl _ | exact leT_virt | exact leT_junk _ | exact leT_sl | exact leT_sln | exact leT_nil) ?_)))
          · clear h
            rintro m2 S ⟨x10, x11, rfl, hm2, h⟩
            cases m2 with
            | zero => first | cases (show (none : Option _) = some _ from h) | (rw [F15_L2] at h; cases h)
            | succ m2 =>
              rw [F15_L2] at h
              simp only [F15_S2]
              refine runX_seq ?_
              refine runX_seq ?_
              refine runX_regionC fun C hC => ?_
              try simp -implicitDefEqProofs (maxSteps := 4000000) (disch := first | omega | decide | (simp only [go_sem]; omega)) only [go_sem, ↓reduceIte]
              repeat (with_reducible refine And.intro (by first | assumption | omega | (simp; done) | (simp; omega)) ?_)
              refine toEnd hC ?_
              refine endX_seq ?_
              rcases iteB_some h with ⟨c12, h⟩ | ⟨c12, h⟩
              · refine runX_condT rfl c12 ?_
                refine runX_skip ?_
                refine endX_seq ?_
                refine runX_seq ?_
                refine runX_block ?_
                refine runX_seq ?_
                refine runX_regionC fun C hC => ?_
                obtain ⟨g13, h⟩ := grd_some h
                try simp -implicitDefEqProofs (maxSteps := 4000000) (disch := first | omega | decide | (simp only [go_sem]; omega)) only [go_sem, ↓reduceIte]
                repeat (with_reducible refine And.intro (by first | assumption | omega | (simp; done) | (simp; omega)) ?_)
                refine toEnd hC ?_
                refine endX_seq ?_
                rcases iteB_some h with ⟨c14, h⟩ | ⟨c14, h⟩
                · refine runX_condT rfl c14 ?_
                  refine runX_regionC fun C hC => ?_
                  obtain ⟨g15, h⟩ := grd_some h
                  obtain ⟨g16, h⟩ := grd_some h
                  try simp -implicitDefEqProofs (maxSteps := 4000000) (disch := first | omega | decide | (simp only [go_sem]; omega)) only [go_sem, ↓reduceIte]
                  repeat (with_reducible refine And.intro (by first | assumption | omega | (simp; done) | (simp; omega)) ?_)
                  rcases iteB_some h with ⟨c17, h⟩ | ⟨c17, h⟩
                  · refine guardK_F c17 ?_
                    obtain ⟨g18, h⟩ := grd_some h
                    obtain ⟨g19, h⟩ := grd_some h
                    try simp -implicitDefEqProofs (maxSteps := 4000000) (disch := first | omega | decide | (simp only [go_sem]; omega)) only [go_sem, ↓reduceIte]
                    repeat (with_reducible refine And.intro (by first | assumption | omega | (simp; done) | (simp; omega)) ?_)
                    refine toEnd hC ?_
                    refine endX_blk ?_
                    refine endX_seq ?_
                    refine runX_regionC fun C hC => ?_
                    try simp -implicitDefEqProofs (maxSteps := 4000000) (disch := first | omega | decide | (simp only [go_sem]; omega)) only [go_sem, ↓reduceIte]
                    repeat (with_reducible refine And.intro (by first | assumption | omega | (simp; done) | (simp; omega)) ?_)
                    refine toEnd hC ?_
                    refine endX_q (roundQ_normal ⟨m2, by omega, F15_S2 a0 a1 x6 x5 (IntKind.wrap .i64 (x10 + (1 : Int))) (List.set x11 x10.toNat true), ?_, (IntKind.wrap .i64 (x10 + (1 : Int))), (List.set x11 x10.toNat true), rfl, by omega, h⟩)
                    simp only [F15_S2]
                    (try simp -implicitDefEqProofs (maxSteps := 4000000) (disch := first | omega | decide | (simp only [go_sem]; omega)) only [go_sem, ↓reduceIte])
                    first | exact leS_refl _ | (refine leS_le ?_ ?_ <;> first | exact leL_refl _ | exact leOs_refl _ | (repeat (first | exact leL_refl _ | refine leL_cons (by first | exact leT_refl _ | exact leT_virt | exact leT_junk _ | exact leT_sl | exact leT_sln | exact leT_nil) ?_)))
                  · refine guardK_T c17 ?_
                    try simp -implicitDefEqProofs (maxSteps := 4000000) (disch := first | omega | decide | (simp only [go_sem]; omega)) only [go_sem, ↓reduceIte]
                    repeat (with_reducible refine And.intro (by first | assumption | omega | (simp; done) | (simp; omega)) ?_)
                    rcases iteB_some h with ⟨c20, h⟩ | ⟨c20, h⟩
                    · refine guardK_T c20 ?_
                      obtain ⟨g21, h⟩ := grd_some h
                      obtain ⟨g22, h⟩ := grd_some h
                      obtain ⟨g23, h⟩ := grd_some h
                      obtain ⟨g24, h⟩ := grd_some h
                      try simp -implicitDefEqProofs (maxSteps := 4000000) (disch := first | omega | decide | (simp only [go_sem]; omega)) only [go_sem, ↓reduceIte]
                      repeat (with_reducible refine And.intro (by first | assumption | omega | (simp; done) | (simp; omega)) ?_)
                      refine toEnd hC ?_
                      refine endX_blk ?_
                      refine endX_seq ?_
                      refine runX_regionC fun C hC => ?_
                      try simp -implicitDefEqProofs (maxSteps := 4000000) (disch := first | omega | decide | (simp only [go_sem]; omega)) only [go_sem, ↓reduceIte]
                      repeat (with_reducible refine And.intro (by first | assumption | omega | (simp; done) | (simp; omega)) ?_)
                      refine toEnd hC ?_
                      refine endX_q (roundQ_normal ⟨m2, by omega, F15_S2 a0 a1 x6 x5 (IntKind.wrap .i64 (x10 + (1 : Int))) (List.set x11 x10.toNat (x11.getD ((IntKind.wrap .i64 (x10 - (1 : Int))).toNat) default)), ?_, (IntKind.wrap .i64 (x10 + (1 : Int))), (List.set x11 x10.toNat (x11.getD ((IntKind.wrap .i64 (x10 - (1 : Int))).toNat) default)), rfl, by omega, h⟩)
                      simp only [F15_S2]
                      (try simp -implicitDefEqProofs (maxSteps := 4000000) (disch := first | omega | decide | (simp only [go_sem]; omega)) only [go_sem, ↓reduceIte])
                      first | exact leS_refl _ | (refine leS_le ?_ ?_ <;> first | exact leL_refl _ | exact leOs_refl _ | (repeat (first | exact leL_refl _ | refine leL_cons (by first | exact leT_refl _ | exact leT_virt | exact leT_junk _ | exact leT_sl | exact leT_sln | exact leT_nil) ?_)))
                    · refine guardK_F c20 ?_
                      obtain ⟨g25, h⟩ := grd_some h
                      obtain ⟨g26, h⟩ := grd_some h
                      try simp -implicitDefEqProofs (maxSteps := 4000000) (disch := first | omega | decide | (simp only [go_sem]; omega)) only [go_sem, ↓reduceIte]
                      repeat (with_reducible refine And.intro (by first | assumption | omega | (simp; done) | (simp; omega)) ?_)
                      refine toEnd hC ?_
                      refine endX_blk ?_
                      refine endX_seq ?_
                      refine runX_regionC fun C hC => ?_
                      try simp -implicitDefEqProofs (maxSteps := 4000000) (disch := first | omega | decide | (simp only [go_sem]; omega)) only [go_sem, ↓reduceIte]
                      repeat (with_reducible refine And.intro (by first | assumption | omega | (simp; done) | (simp; omega)) ?_)
                      refine toEnd hC ?_
                      refine endX_q (roundQ_normal ⟨m2, by omega, F15_S2 a0 a1 x6 x5 (IntKind.wrap .i64 (x10 + (1 : Int))) (List.set x11 x10.toNat false), ?_, (IntKind.wrap .i64 (x10 + (1 : Int))), (List.set x11 x10.toNat false), rfl, by omega, h⟩)
                      simp only [F15_S2]
                      (try simp -implicitDefEqProofs (maxSteps := 4000000) (disch := first | omega | decide | (simp only [go_sem]; omega)) only [go_sem, ↓reduceIte])
                      first | exact leS_refl _ | (refine leS_le ?_ ?_ <;> first | exact leL_refl _ | exact leOs_refl _ | (repeat (first | exact leL_refl _ | refine leL_cons (by first | exact leT_refl _ | exact leT_virt | exact leT_junk _ | exact leT_sl | exact leT_sln | exact leT_nil) ?_)))
                · refine runX_condF rfl c14 ?_
                  refine runX_seq ?_
                  refine runX_drawC mixed (by kernel_rfl) fun C hC => ?_
                  try simp -implicitDefEqProofs (maxSteps := 4000000) (disch := first | omega | decide | (simp only [go_sem]; omega)) only [go_sem, ↓reduceIte]
                  repeat (with_reducible refine And.intro (by first | assumption | omega | (simp; done) | (simp; omega)) ?_)
                  rcases iteB_some h with ⟨c27, h⟩ | ⟨c27, h⟩
                  · refine guardD_T c27 ?_
                    obtain ⟨g28, h⟩ := grd_some h
                    try simp -implicitDefEqProofs (maxSteps := 4000000) (disch := first | omega | decide | (simp only [go_sem]; omega)) only [go_sem, ↓reduceIte]
                    repeat (with_reducible refine And.intro (by first | assumption | omega | (simp; done) | (simp; omega)) ?_)
                    rcases iteB_some h with ⟨c29, h⟩ | ⟨c29, h⟩
                    · refine guardD_F c29 ?_
                      try simp -implicitDefEqProofs (maxSteps := 4000000) (disch := first | omega | decide | (simp only [go_sem]; omega)) only [go_sem, ↓reduceIte]
                      repeat (with_reducible refine And.intro (by first | assumption | omega | (simp; done) | (simp; omega)) ?_)
                      refine toEnd hC ?_
                      refine endX_seq ?_
                      refine runX_condT rfl rfl ?_
                      refine runX_regionC fun C hC => ?_
                      obtain ⟨g30, h⟩ := grd_some h
                      obtain ⟨g31, h⟩ := grd_some h
                      obtain ⟨g32, h⟩ := grd_some h
                      obtain ⟨g33, h⟩ := grd_some h
                      try simp -implicitDefEqProofs (maxSteps := 4000000) (disch := first | omega | decide | (simp only [go_sem]; omega)) only [go_sem, ↓reduceIte]
                      repeat (with_reducible refine And.intro (by first | assumption | omega | (simp; done) | (simp; omega)) ?_)
                      refine toEnd hC ?_
                      refine endX_blk ?_
                      refine endX_seq ?_
                      refine runX_regionC fun C hC => ?_
                      try simp -implicitDefEqProofs (maxSteps := 4000000) (disch := first | omega | decide | (simp only [go_sem]; omega)) only [go_sem, ↓reduceIte]
                      repeat (with_reducible refine And.intro (by first | assumption | omega | (simp; done) | (simp; omega)) ?_)
                      refine toEnd hC ?_
                      refine endX_q (roundQ_normal ⟨m2, by omega, F15_S2 a0 a1 x6 x5 (IntKind.wrap .i64 (x10 + (1 : Int))) (List.set x11 x10.toNat (x6.getD ((IntKind.wrap .i64 (x10 - (1 : Int))).toNat) default)), ?_, (IntKind.wrap .i64 (x10 + (1 : Int))), (List.set x11 x10.toNat (x6.getD ((IntKind.wrap .i64 (x10 - (1 : Int))).toNat) default)), rfl, by omega, h⟩)
                      simp only [F15_S2]
                      (try simp -implicitDefEqProofs (maxSteps := 4000000) (disch := first | omega | decide | (simp only [go_sem]; omega)) only [go_sem, ↓reduceIte])
                      first | exact leS_refl _ | (refine leS_le ?_ ?_ <;> first | exact leL_refl _ | exact leOs_refl _ | (repeat (first | exact leL_refl _ | refine leL_cons (by first | exact leT_refl _ | exact leT_virt | exact leT_junk _ | exact leT_sl | exact leT_sln | exact leT_nil) ?_)))
                    · refine guardD_T c29 ?_
                      obtain ⟨g34, h⟩ := grd_some h
                      obtain ⟨g35, h⟩ := grd_some h
                      try simp -implicitDefEqProofs (maxSteps := 4000000) (disch := first | omega | decide | (simp only [go_sem]; omega)) only [go_sem, ↓reduceIte]
                      repeat (with_reducible refine And.intro (by first | assumption | omega | (simp; done) | (simp; omega)) ?_)
                      refine toEnd hC ?_
                      refine endX_seq ?_
                      rcases iteB_some h with ⟨c36, h⟩ | ⟨c36, h⟩
                      · refine runX_condT rfl c36 ?_
                        refine runX_regionC fun C hC => ?_
                        obtain ⟨g37, h⟩ := grd_some h
                        obtain ⟨g38, h⟩ := grd_some h
                        obtain ⟨g39, h⟩ := grd_some h
                        obtain ⟨g40, h⟩ := grd_some h
                        try simp -implicitDefEqProofs (maxSteps := 4000000) (disch := first | omega | decide | (simp only [go_sem]; omega)) only [go_sem, ↓reduceIte]
                        repeat (with_reducible refine And.intro (by first | assumption | omega | (simp; done) | (simp; omega)) ?_)
                        refine toEnd hC ?_
                        refine endX_blk ?_
                        refine endX_seq ?_
                        refine runX_regionC fun C hC => ?_
                        try simp -implicitDefEqProofs (maxSteps := 4000000) (disch := first | omega | decide | (simp only [go_sem]; omega)) only [go_sem, ↓reduceIte]
                        repeat (with_reducible refine And.intro (by first | assumption | omega | (simp; done) | (simp; omega)) ?_)
                        refine toEnd hC ?_
                        refine endX_q (roundQ_normal ⟨m2, by omega, F15_S2 a0 a1 x6 x5 (IntKind.wrap .i64 (x10 + (1 : Int))) (List.set x11 x10.toNat (x6.getD ((IntKind.wrap .i64 (x10 - (1 : Int))).toNat) default)), ?_, (IntKind.wrap .i64 (x10 + (1 : Int))), (List.set x11 x10.toNat (x6.getD ((IntKind.wrap .i64 (x10 - (1 : Int))).toNat) default)), rfl, by omega, h⟩)
                        simp only [F15_S2]
                        (try simp -implicitDefEqProofs (maxSteps := 4000000) (disch := first | omega | decide | (simp only [go_sem]; omega)) only [go_sem, ↓reduceIte])
                        first | exact leS_refl _ | (refine leS_le ?_ ?_ <;> first | exact leL_refl _ | exact leOs_refl _ | (repeat (first | exact leL_refl _ | refine leL_cons (by first | exact leT_refl _ | exact leT_virt | exact leT_junk _ | exact leT_sl | exact leT_sln | exact leT_nil) ?_)))
                      · refine runX_condF rfl c36 ?_
                        refine runX_skip ?_
                        refine endX_blk ?_
                        refine endX_seq ?_
                        refine runX_regionC fun C hC => ?_
                        try simp -implicitDefEqProofs (maxSteps := 4000000) (disch := first | omega | decide | (simp only [go_sem]; omega)) only [go_sem, ↓reduceIte]
                        repeat (with_reducible refine And.intro (by first | assumption | omega | (simp; done) | (simp; omega)) ?_)
                        refine toEnd hC ?_
                        refine endX_q (roundQ_normal ⟨m2, by omega, F15_S2 a0 a1 x6 x5 (IntKind.wrap .i64 (x10 + (1 : Int))) x11, ?_, (IntKind.wrap .i64 (x10 + (1 : Int))), x11, rfl, by omega, h⟩)
                        simp only [F15_S2]
                        (try simp -implicitDefEqProofs (maxSteps := 4000000) (disch := first | omega | decide | (simp only [go_sem]; omega)) only [go_sem, ↓reduceIte])
                        first | exact leS_refl _ | (refine leS_le ?_ ?_ <;> first | exact leL_refl _ | exact leOs_refl _ | (repeat (first | exact leL_refl _ | refine leL_cons (by first | exact leT_refl _ | exact leT_virt | exact leT_junk _ | exact leT_sl | exact leT_sln | exact leT_nil) ?_)))
                  · refine guardD_F c27 ?_
                    try simp -implicitDefEqProofs (maxSteps := 4000000) (disch := first | omega | decide | (simp only [go_sem]; omega)) only [go_sem, ↓reduceIte]
                    repeat (with_reducible refine And.intro (by first | assumption | omega | (simp; done) | (simp; omega)) ?_)
                    refine toEnd hC ?_
                    refine endX_seq ?_
                    refine runX_condF rfl rfl ?_
                    refine runX_skip ?_
                    refine endX_blk ?_
                    refine endX_seq ?_
                    refine runX_regionC fun C hC => ?_
                    try simp -implicitDefEqProofs (maxSteps := 4000000) (disch := first | omega | decide | (simp only [go_sem]; omega)) only [go_sem, ↓reduceIte]
                    repeat (with_reducible refine And.intro (by first | assumption | omega | (simp; done) | (simp; omega)) ?_)
                    refine toEnd hC ?_
                    refine endX_q (roundQ_normal ⟨m2, by omega, F15_S2 a0 a1 x6 x5 (IntKind.wrap .i64 (x10 + (1 : Int))) x11, ?_, (IntKind.wrap .i64 (x10 + (1 : Int))), x11, rfl, by omega, h⟩)
                    simp only [F15_S2]
                    (try simp -implicitDefEqProofs (maxSteps := 4000000) (disch := first | omega | decide | (simp only [go_sem]; omega)) only [go_sem, ↓reduceIte])
                    first | exact leS_refl _ | (refine leS_le ?_ ?_ <;> first | exact leL_refl _ | exact leOs_refl _ | (repeat (first | exact leL_refl _ | refine leL_cons (by first | exact leT_refl _ | exact leT_virt | exact leT_junk _ | exact leT_sl | exact leT_sln | exact leT_nil) ?_)))
              · refine runX_condF rfl c12 ?_
                refine runX_exit ?_
                refine endX_seqE ?_
                refine endX_q (roundQ_exit ?_)
                refine endX_blkE ?_
                refine endX_seq ?_
                refine runX_regionC fun C hC => ?_
                try simp -implicitDefEqProofs (maxSteps := 4000000) (disch := first | omega | decide | (simp only [go_sem]; omega)) only [go_sem, ↓reduceIte]
                repeat (with_reducible refine And.intro (by first | assumption | omega | (simp; done) | (simp; omega)) ?_)
                refine toEnd hC ?_
                refine endX_blk ?_
                refine endX_seq ?_
                refine runX_regionC fun C hC => ?_
                try simp -implicitDefEqProofs (maxSteps := 4000000) (disch := first | omega | decide | (simp only [go_sem]; omega)) only [go_sem, ↓reduceIte]
                repeat (with_reducible refine And.intro (by first | assumption | omega | (simp; done) | (simp; omega)) ?_)
                refine toEnd hC ?_
                refine endX_q (roundQ_normal ⟨m2, by omega, F15_S1 a0 a1 (IntKind.wrap .i64 (x5 + (1 : Int))) x11, ?_, (IntKind.wrap .i64 (x5 + (1 : Int))), x11, rfl, by omega, h⟩)
                (try simp -implicitDefEqProofs (maxSteps := 4000000) (disch := first | omega | decide | (simp only [go_sem]; omega)) only [go_sem, ↓reduceIte])
                refine leS_trans (leS_swT 0 1 (by simp) (by simp)) (show leS ⟨[.imm (.string (bs a0)), .imm (.string (bs a1)), .junk, .junk, .junk, .rsl 0 1 0 x11.length, .imm (.int .i64 (IntKind.wrap .i64 (x5 + (1 : Int)))), .junk, .junk, .junk, .junk, .junk, .junk, .junk, .junk, .junk, .junk, .junk, .junk, .junk, .junk, .junk, .junk, .junk, .junk, .junk, .junk, .junk, .junk, .junk, .junk, .junk, .junk, .junk, .junk, .junk, .junk, .junk, .junk, .junk, .junk, .junk, .junk, .junk, .junk, .junk, .junk, .junk, .junk, .junk, .junk, .junk, .junk, .junk, .junk, .junk, .junk, .junk, .junk, .junk, .junk, .junk, .junk, .junk, .junk, .junk, .junk, .junk, .junk, .junk, .junk, .junk, .junk, .junk, .junk, .junk, .junk, .junk, .junk, .junk, .junk, .junk, .junk, .junk, .junk], [some (.buf 4 1 (List.map eB x11) 0)]⟩ _ from ?_)
                simp only [F15_S1]
                (try simp -implicitDefEqProofs (maxSteps := 4000000) (disch := first | omega | decide | (simp only [go_sem]; omega)) only [go_sem, ↓reduceIte])
                first | exact leS_refl _ | (refine leS_le ?_ ?_ <;> first | exact leL_refl _ | exact leOs_refl _ | (repeat (first | exact leL_refl _ | refine leL_cons (by first | exact leT_refl _ | exact leT_virt | exact leT_junk _ | exact leT_sl | exact leT_sln | exact leT_nil) ?_)))
        · refine runX_condF rfl c7 ?_
          refine runX_exit ?_
          refine endX_seqE ?_
          refine endX_q (roundQ_exit ?_)
          refine endX_blkE ?_
          refine endX_seq ?_
          refine runX_seq ?_
          refine runX_regionC fun C hC => ?_
          obtain ⟨g41, h⟩ := grd_some h
          obtain ⟨g42, h⟩ := grd_some h
          try simp -implicitDefEqProofs (maxSteps := 4000000) (disch := first | omega | decide | (simp only [go_sem]; omega)) only [go_sem, ↓reduceIte]
          repeat (with_reducible refine And.intro (by first | assumption | omega | (simp; done) | (simp; omega)) ?_)
          refine toEnd hC ?_
          refine endX_seq ?_
          refine runX_ret ?_
          refine endX_q ?_
          obtain rfl := Option.some.inj h
          show RetW _ _ _ _ _
          simp only [RetW]
          (try simp -implicitDefEqProofs (maxSteps := 4000000) (disch := first | omega | decide | (simp only [go_sem]; omega)) only [go_sem, ↓reduceIte])
          (try simp (disch := omega) only [if_pos, Nat.sub_zero])
          exact leT_refl _
end Go.Proofs.YtjkfobmfddfjhaaDoorX

set_option linter.unusedVariables false
set_option linter.unusedSimpArgs false
namespace Go.Proofs.YtjkfobmfddfjhaaDoorX
open Go Go.RowKit Go.Proofs
set_option maxRecDepth 100000
attribute [local go_sem] String.reduceEq String.reduceNe reduceCtorEq Int.reduceEq Nat.reduceAdd Nat.reduceSub Nat.reduceMul Nat.reduceLT Nat.reduceLeDiff Nat.reduceEqDiff Nat.reduceBEq Int.reduceToNat Int.reduceLT Int.reduceLE Int.reduceGT Int.reduceGE Int.reduceAdd Int.reduceSub Int.reduceMul Int.reduceNeg Int.reduceBEq Int.reduceBNe Int.reducePow Int.reduceDiv Int.reduceMod Int.reduceTDiv Int.reduceTMod Int.reduceNatCast
/-! ### shadowboxref42.among -/
def F32_S1 (a0 : List (List UInt8)) (a1 : List UInt8) (x1 : Int) : St := ⟨[.sl 1 false (List.map eS a0), .imm (.string (bs a1)), .junk, .junk, .junk, .imm (.int .i64 x1), .junk, .junk, .junk, .junk, .junk, .junk, .junk, .junk, .junk, .junk, .junk, .junk], []⟩
def F32_L1 : Nat → (List (List UInt8)) → (List UInt8) → (Int) → Option (Bool)
  | 0, _, _, _ => none
  | m1 + 1, a0, a1, x1 => iteB (decide (x1 < (a0.length : Int))) (grd (0 ≤ x1 ∧ x1 < (a0.length : Int)) ((F15 m1 (a0.getD x1.toNat default) a1).bind fun v4 => iteB v4 (some true) (F32_L1 m1 a0 a1 (IntKind.wrap .i64 (x1 + (1 : Int)))))) (some false)
def F32 (n : Nat) (a0 : List (List UInt8)) (a1 : List UInt8) : Option (Bool) := F32_L1 n a0 a1 (0 : Int)
set_option maxHeartbeats 4000000 in
theorem F32_ok : ∀ (n : Nat) (a0 : List (List UInt8)) (a1 : List UInt8) (r : Bool), F32 n a0 a1 = some r → FnC Tryd.prog 32 [.sl 1 false (List.map eS a0), .imm (.string (bs a1))] (.imm (.bool r))
  | n, a0, a1, r, h => by
    unfold F32 at h
    refine FnC.goX mixed Tryd.func32 (by kernel_rfl) rfl ?_
    simp only [Tryd.ntmps32, List.length_cons, List.length_nil, List.replicate, List.cons_append, List.nil_append, Nat.reduceAdd, Nat.reduceSub]
    refine runX_seq ?_
    refine runX_regionC fun C hC => ?_
    try simp -implicitDefEqProofs (maxSteps := 4000000) (disch := first | omega | decide | (simp only [go_sem]; omega)) only [go_sem, ↓reduceIte]
    repeat (with_reducible refine And.intro (by first | assumption | omega | (simp; done) | (simp; omega)) ?_)
    refine toEnd hC ?_
    refine endX_seq ?_
    refine runX_seq ?_
    refine runX_seq ?_
    refine runX_regionC fun C hC => ?_
    try simp -implicitDefEqProofs (maxSteps := 4000000) (disch := first | omega | decide | (simp only [go_sem]; omega)) only [go_sem, ↓reduceIte]
    repeat (with_reducible refine And.intro (by first | assumption | omega | (simp; done) | (simp; omega)) ?_)
    refine toEnd hC ?_
    refine endX_seq ?_
    refine runX_block ?_
    refine runX_loop [0, 1, 5] (fun m S => ∃ (x1 : Int), S = F32_S1 a0 a1 x1 ∧ m ≤ n ∧ F32_L1 m a0 a1 x1 = some r) n ⟨F32_S1 a0 a1 (0 : Int), ?_, (0 : Int), rfl, Nat.le_refl _, h⟩ ?_
    · simp only [F32_S1]
      (try simp -implicitDefEqProofs (maxSteps := 4000000) (disch := first | omega | decide | (simp only [go_sem]; omega)) only [go_sem, ↓reduceIte])
      first | exact leS_refl _ | (refine leS_le ?_ ?_ <;> first | exact leL_refl _ | exact leOs_refl _ | (repeat (first | exact leL_refl _ | refine leL_cons (by first | exact leT_refl _ | exact leT_virt | exact leT_junk _ | exact leT_sl | exact leT_sln | exact leT_nil) ?_)))
    · clear h
      rintro m1 S ⟨x1, rfl, hm1, h⟩
      cases m1 with
      | zero => first | cases (show (none : Option _) = some _ from h) | (rw [F32_L1] at h; cases h)
      | succ m1 =>
        rw [F32_L1] at h
        simp only [F32_S1]
        refine runX_seq ?_
        refine runX_seq ?_
        refine runX_regionC fun C hC => ?_
        try simp -implicitDefEqProofs (maxSteps := 4000000) (disch := first | omega | decide | (simp only [go_sem]; omega)) only [go_sem, ↓reduceIte]
        repeat (with_reducible refine And.intro (by first | assumption | omega | (simp; done) | (simp; omega)) ?_)
        refine toEnd hC ?_
        refine endX_seq ?_
        rcases iteB_some h with ⟨c2, h⟩ | ⟨c2, h⟩
        · refine runX_condT rfl c2 ?_
          refine runX_skip ?_
          refine endX_seq ?_
          refine runX_seq ?_
          refine runX_block ?_
          refine runX_seq ?_
          refine runX_regionC fun C hC => ?_
          obtain ⟨g3, h⟩ := grd_some h
          obtain ⟨v4, h4, h⟩ := bnd_some h
          try simp -implicitDefEqProofs (maxSteps := 4000000) (disch := first | omega | decide | (simp only [go_sem]; omega)) only [go_sem, ↓reduceIte]
          repeat (with_reducible refine And.intro (by first | assumption | omega | (simp; done) | (simp; omega)) ?_)
          refine callG_X (F15_ok m1 (a0.getD x1.toNat default) a1 _ h4) (by repeat (first | exact leL_refl _ | refine leL_cons (by first | exact leT_refl _ | exact leT_virt | exact leT_junk _ | exact leT_sl | exact leT_sln | exact leT_nil) ?_)) ?_
          try simp -implicitDefEqProofs (maxSteps := 4000000) (disch := first | omega | decide | (simp only [go_sem]; omega)) only [go_sem, ↓reduceIte]
          repeat (with_reducible refine And.intro (by first | assumption | omega | (simp; done) | (simp; omega)) ?_)
          refine toEnd hC ?_
          refine endX_seq ?_
          rcases iteB_some h with ⟨c5, h⟩ | ⟨c5, h⟩
          · refine runX_condT rfl c5 ?_
            refine runX_seq ?_
            refine runX_regionC fun C hC => ?_
            try simp -implicitDefEqProofs (maxSteps := 4000000) (disch := first | omega | decide | (simp only [go_sem]; omega)) only [go_sem, ↓reduceIte]
            repeat (with_reducible refine And.intro (by first | assumption | omega | (simp; done) | (simp; omega)) ?_)
            refine toEnd hC ?_
            refine endX_seq ?_
            refine runX_ret ?_
            refine endX_blkR ?_
            refine endX_seqR ?_
            refine endX_q (roundQ_ret ?_)
            refine endX_blkR ?_
            refine endX_seqR ?_
            refine endX_q ?_
            obtain rfl := Option.some.inj h
            show RetW _ _ _ _ _
            simp only [RetW]
            (try simp -implicitDefEqProofs (maxSteps := 4000000) (disch := first | omega | decide | (simp only [go_sem]; omega)) only [go_sem, ↓reduceIte])
            (try simp (disch := omega) only [if_pos, Nat.sub_zero])
            exact leT_refl _
          · refine runX_condF rfl c5 ?_
            refine runX_skip ?_
            refine endX_blk ?_
            refine endX_seq ?_
            refine runX_regionC fun C hC => ?_
            try simp -implicitDefEqProofs (maxSteps := 4000000) (disch := first | omega | decide | (simp only [go_sem]; omega)) only [go_sem, ↓reduceIte]
            repeat (with_reducible refine And.intro (by first | assumption | omega | (simp; done) | (simp; omega)) ?_)
            refine toEnd hC ?_
            refine endX_q (roundQ_normal ⟨m1, by omega, F32_S1 a0 a1 (IntKind.wrap .i64 (x1 + (1 : Int))), ?_, (IntKind.wrap .i64 (x1 + (1 : Int))), rfl, by omega, h⟩)
            simp only [F32_S1]
            (try simp -implicitDefEqProofs (maxSteps := 4000000) (disch := first | omega | decide | (simp only [go_sem]; omega)) only [go_sem, ↓reduceIte])
            first | exact leS_refl _ | (refine leS_le ?_ ?_ <;> first | exact leL_refl _ | exact leOs_refl _ | (repeat (first | exact leL_refl _ | refine leL_cons (by first | exact leT_refl _ | exact leT_virt | exact leT_junk _ | exact leT_sl | exact leT_sln | exact leT_nil) ?_)))
        · refine runX_condF rfl c2 ?_
          refine runX_exit ?_
          refine endX_seqE ?_
          refine endX_q (roundQ_exit ?_)
          refine endX_blkE ?_
          refine endX_seq ?_
          refine runX_seq ?_
          refine runX_regionC fun C hC => ?_
          try simp -implicitDefEqProofs (maxSteps := 4000000) (disch := first | omega | decide | (simp only [go_sem]; omega)) only [go_sem, ↓reduceIte]
          repeat (with_reducible refine And.intro (by first | assumption | omega | (simp; done) | (simp; omega)) ?_)
          refine toEnd hC ?_
          refine endX_seq ?_
          refine runX_ret ?_
          refine endX_q ?_
          obtain rfl := Option.some.inj h
          show RetW _ _ _ _ _
          simp only [RetW]
          (try simp -implicitDefEqProofs (maxSteps := 4000000) (disch := first | omega | decide | (simp only [go_sem]; omega)) only [go_sem, ↓reduceIte])
          (try simp (disch := omega) only [if_pos, Nat.sub_zero])
          exact leT_refl _
end Go.Proofs.YtjkfobmfddfjhaaDoorX

set_option linter.unusedVariables false
set_option linter.unusedSimpArgs false
namespace Go.Proofs.YtjkfobmfddfjhaaDoorX
open Go Go.RowKit Go.Proofs
set_option maxRecDepth 100000
attribute [local go_sem] String.reduceEq String.reduceNe reduceCtorEq Int.reduceEq Nat.reduceAdd Nat.reduceSub Nat.reduceMul Nat.reduceLT Nat.reduceLeDiff Nat.reduceEqDiff Nat.reduceBEq Int.reduceToNat Int.reduceLT Int.reduceLE Int.reduceGT Int.reduceGE Int.reduceAdd Int.reduceSub Int.reduceMul Int.reduceNeg Int.reduceBEq Int.reduceBNe Int.reducePow Int.reduceDiv Int.reduceMod Int.reduceTDiv Int.reduceTMod Int.reduceNatCast
/-! ### shadowboxref42.Decide -/
def F13_S1 (a0 : List ((Bool) × (List (List UInt8)) × (List (List UInt8)) × (List (List UInt8)))) (a1 : List UInt8) (a2 : List UInt8) (a3 : List UInt8) (x1 : Int) (x2 : Int) : St := ⟨[.sl 4 false (List.map eT33 a0), .imm (.string (bs a1)), .imm (.string (bs a2)), .imm (.string (bs a3)), .junk, .junk, .junk, .junk, .junk, .imm (.int .i64 x1), .imm (.int .i64 x2), .junk, .junk, .junk, .junk, .junk, .junk, .junk, .junk, .junk, .junk, .junk, .junk, .junk, .junk, .junk, .junk, .junk, .junk, .junk, .junk, .junk, .junk, .junk, .junk, .junk, .junk, .junk, .junk, .junk, .junk, .junk, .junk, .junk], []⟩
def F13_L1 : Nat → (List ((Bool) × (List (List UInt8)) × (List (List UInt8)) × (List (List UInt8)))) → (List UInt8) → (List UInt8) → (List UInt8) → (Int) → (Int) → Option (Int)
  | 0, _, _, _, _, _, _ => none
  | m1 + 1, a0, a1, a2, a3, x1, x2 => iteB (decide (x2 < (a0.length : Int))) (grd (0 ≤ x2 ∧ x2 < (a0.length : Int)) ((F32 m1 ((a0.getD x2.toNat default).2.1) a1).bind fun v5 => iteB v5 ((F32 m1 ((a0.getD x2.toNat default).2.2.1) a2).bind fun v7 => iteB v7 ((F32 m1 ((a0.getD x2.toNat default).2.2.2) a3).bind fun v9 => iteB v9 (iteB (!((a0.getD x2.toNat default).1)) (F13_L1 m1 a0 a1 a2 a3 (2 : Int) (IntKind.wrap .i64 (x2 + (1 : Int)))) (iteB (x1 == (0 : Int)) (F13_L1 m1 a0 a1 a2 a3 (1 : Int) (IntKind.wrap .i64 (x2 + (1 : Int)))) (F13_L1 m1 a0 a1 a2 a3 x1 (IntKind.wrap .i64 (x2 + (1 : Int)))))) (F13_L1 m1 a0 a1 a2 a3 x1 (IntKind.wrap .i64 (x2 + (1 : Int))))) (F13_L1 m1 a0 a1 a2 a3 x1 (IntKind.wrap .i64 (x2 + (1 : Int))))) (F13_L1 m1 a0 a1 a2 a3 x1 (IntKind.wrap .i64 (x2 + (1 : Int)))))) (some x1)
def F13 (n : Nat) (a0 : List ((Bool) × (List (List UInt8)) × (List (List UInt8)) × (List (List UInt8)))) (a1 : List UInt8) (a2 : List UInt8) (a3 : List UInt8) : Option (Int) := F13_L1 n a0 a1 a2 a3 (0 : Int) (0 : Int)
set_option maxHeartbeats 4000000 in
theorem F13_ok : ∀ (n : Nat) (a0 : List ((Bool) × (List (List UInt8)) × (List (List UInt8)) × (List (List UInt8)))) (a1 : List UInt8) (a2 : List UInt8) (a3 : List UInt8) (r : Int), F13 n a0 a1 a2 a3 = some r → FnC Tryd.prog 13 [.sl 4 false (List.map eT33 a0), .imm (.string (bs a1)), .imm (.string (bs a2)), .imm (.string (bs a3))] (.imm (.int .i64 r))
  | n, a0, a1, a2, a3, r, h => by
    unfold F13 at h
    refine FnC.goX mixed Tryd.func13 (by kernel_rfl) rfl ?_
    simp only [Tryd.ntmps13, List.length_cons, List.length_nil, List.replicate, List.cons_append, List.nil_append, Nat.reduceAdd, Nat.reduceSub]
    refine runX_seq ?_
    refine runX_regionC fun C hC => ?_
    try simp -implicitDefEqProofs (maxSteps := 4000000) (disch := first | omega | decide | (simp only [go_sem]; omega)) only [go_sem, ↓reduceIte]
    repeat (with_reducible refine And.intro (by first | assumption | omega | (simp; done) | (simp; omega)) ?_)
    refine toEnd hC ?_
    refine endX_seq ?_
    refine runX_seq ?_
    refine runX_regionC fun C hC => ?_
    try simp -implicitDefEqProofs (maxSteps := 4000000) (disch := first | omega | decide | (simp only [go_sem]; omega)) only [go_sem, ↓reduceIte]
    repeat (with_reducible refine And.intro (by first | assumption | omega | (simp; done) | (simp; omega)) ?_)
    refine toEnd hC ?_
    refine endX_seq ?_
    refine runX_seq ?_
    refine runX_seq ?_
    refine runX_regionC fun C hC => ?_
    try simp -implicitDefEqProofs (maxSteps := 4000000) (disch := first | omega | decide | (simp only [go_sem]; omega)) only [go_sem, ↓reduceIte]
    repeat (with_reducible refine And.intro (by first | assumption | omega | (simp; done) | (simp; omega)) ?_)
    refine toEnd hC ?_
    refine endX_seq ?_
    refine runX_block ?_
    refine runX_loop [0, 1, 2, 3, 9, 10] (fun m S => ∃ (x1 : Int) (x2 : Int), S = F13_S1 a0 a1 a2 a3 x1 x2 ∧ m ≤ n ∧ F13_L1 m a0 a1 a2 a3 x1 x2 = some r) n ⟨F13_S1 a0 a1 a2 a3 (0 : Int) (0 : Int), ?_, (0 : Int), (0 : Int), rfl, Nat.le_refl _, h⟩ ?_
    · simp only [F13_S1]
      (try simp -implicitDefEqProofs (maxSteps := 4000000) (disch := first | omega | decide | (simp only [go_sem]; omega)) only [go_sem, ↓reduceIte])
      first | exact leS_refl _ | (refine leS_le ?_ ?_ <;> first | exact leL_refl _ | exact leOs_refl _ | (repeat (first | exact leL_refl _ | refine leL_cons (by first | exact leT_refl _ | exact leT_virt | exact leT_junk _ | exact leT_sl | exact leT_sln | exact leT_nil) ?_)))
    · clear h
      rintro m1 S ⟨x1, x2, rfl, hm1, h⟩
      cases m1 with
      | zero => first | cases (show (none : Option _) = some _ from h) | (rw [F13_L1] at h; cases h)
      | succ m1 =>
        rw [F13_L1] at h
        simp only [F13_S1]
        refine runX_seq ?_
        refine runX_seq ?_
        refine runX_regionC fun C hC => ?_
        try simp -implicitDefEqProofs (maxSteps := 4000000) (disch := first | omega | decide | (simp only [go_sem]; omega)) only [go_sem, ↓reduceIte]
        repeat (with_reducible refine And.intro (by first | assumption | omega | (simp; done) | (simp; omega)) ?_)
        refine toEnd hC ?_
        refine endX_seq ?_
        rcases iteB_some h with ⟨c3, h⟩ | ⟨c3, h⟩
        · refine runX_condT rfl c3 ?_
          refine runX_skip ?_
          refine endX_seq ?_
          refine runX_seq ?_
          refine runX_block ?_
          refine runX_seq ?_
          refine runX_regionC fun C hC => ?_
          obtain ⟨g4, h⟩ := grd_some h
          try simp -implicitDefEqProofs (maxSteps := 4000000) (disch := first | omega | decide | (simp only [go_sem]; omega)) only [go_sem, ↓reduceIte]
          repeat (with_reducible refine And.intro (by first | assumption | omega | (simp; done) | (simp; omega)) ?_)
          refine toEnd hC ?_
          refine endX_seq ?_
          refine runX_seq ?_
          refine runX_regionC fun C hC => ?_
          obtain ⟨v5, h5, h⟩ := bnd_some h
          try simp -implicitDefEqProofs (maxSteps := 4000000) (disch := first | omega | decide | (simp only [go_sem]; omega)) only [go_sem, ↓reduceIte]
          repeat (with_reducible refine And.intro (by first | assumption | omega | (simp; done) | (simp; omega)) ?_)
          refine callG_X (F32_ok m1 ((a0.getD x2.toNat default).2.1) a1 _ h5) (by repeat (first | exact leL_refl _ | refine leL_cons (by first | exact leT_refl _ | exact leT_virt | exact leT_junk _ | exact leT_sl | exact leT_sln | exact leT_nil) ?_)) ?_
          try simp -implicitDefEqProofs (maxSteps := 4000000) (disch := first | omega | decide | (simp only [go_sem]; omega)) only [go_sem, ↓reduceIte]
          repeat (with_reducible refine And.intro (by first | assumption | omega | (simp; done) | (simp; omega)) ?_)
          rcases iteB_some h with ⟨c6, h⟩ | ⟨c6, h⟩
          · refine guardK_T c6 ?_
            obtain ⟨v7, h7, h⟩ := bnd_some h
            try simp -implicitDefEqProofs (maxSteps := 4000000) (disch := first | omega | decide | (simp only [go_sem]; omega)) only [go_sem, ↓reduceIte]
            repeat (with_reducible refine And.intro (by first | assumption | omega | (simp; done) | (simp; omega)) ?_)
            refine callG_X (F32_ok m1 ((a0.getD x2.toNat default).2.2.1) a2 _ h7) (by repeat (first | exact leL_refl _ | refine leL_cons (by first | exact leT_refl _ | exact leT_virt | exact leT_junk _ | exact leT_sl | exact leT_sln | exact leT_nil) ?_)) ?_
            try simp -implicitDefEqProofs (maxSteps := 4000000) (disch := first | omega | decide | (simp only [go_sem]; omega)) only [go_sem, ↓reduceIte]
            repeat (with_reducible refine And.intro (by first | assumption | omega | (simp; done) | (simp; omega)) ?_)
            rcases iteB_some h with ⟨c8, h⟩ | ⟨c8, h⟩
            · refine guardK_T c8 ?_
              obtain ⟨v9, h9, h⟩ := bnd_some h
              try simp -implicitDefEqProofs (maxSteps := 4000000) (disch := first | omega | decide | (simp only [go_sem]; omega)) only [go_sem, ↓reduceIte]
              repeat (with_reducible refine And.intro (by first | assumption | omega | (simp; done) | (simp; omega)) ?_)
              refine callG_X (F32_ok m1 ((a0.getD x2.toNat default).2.2.2) a3 _ h9) (by repeat (first | exact leL_refl _ | refine leL_cons (by first | exact leT_refl _ | exact leT_virt | exact leT_junk _ | exact leT_sl | exact leT_sln | exact leT_nil) ?_)) ?_
              try simp -implicitDefEqProofs (maxSteps := 4000000) (disch := first | omega | decide | (simp only [go_sem]; omega)) only [go_sem, ↓reduceIte]
              repeat (with_reducible refine And.intro (by first | assumption | omega | (simp; done) | (simp; omega)) ?_)
              refine toEnd hC ?_
              refine endX_seq ?_
              rcases iteB_some h with ⟨c10, h⟩ | ⟨c10, h⟩
              · refine runX_condT rfl c10 ?_
                refine runX_seq ?_
                refine runX_regionC fun C hC => ?_
                try simp -implicitDefEqProofs (maxSteps := 4000000) (disch := first | omega | decide | (simp only [go_sem]; omega)) only [go_sem, ↓reduceIte]
                repeat (with_reducible refine And.intro (by first | assumption | omega | (simp; done) | (simp; omega)) ?_)
                refine toEnd hC ?_
                refine endX_seq ?_
                rcases iteB_some h with ⟨c11, h⟩ | ⟨c11, h⟩
                · refine runX_condT rfl c11 ?_
                  refine runX_regionC fun C hC => ?_
                  try simp -implicitDefEqProofs (maxSteps := 4000000) (disch := first | omega | decide | (simp only [go_sem]; omega)) only [go_sem, ↓reduceIte]
                  repeat (with_reducible refine And.intro (by first | assumption | omega | (simp; done) | (simp; omega)) ?_)
                  refine toEnd hC ?_
                  refine endX_blk ?_
                  refine endX_seq ?_
                  refine runX_regionC fun C hC => ?_
                  try simp -implicitDefEqProofs (maxSteps := 4000000) (disch := first | omega | decide | (simp only [go_sem]; omega)) only [go_sem, ↓reduceIte]
                  repeat (with_reducible refine And.intro (by first | assumption | omega | (simp; done) | (simp; omega)) ?_)
                  refine toEnd hC ?_
                  refine endX_q (roundQ_normal ⟨m1, by omega, F13_S1 a0 a1 a2 a3 (2 : Int) (IntKind.wrap .i64 (x2 + (1 : Int))), ?_, (2 : Int), (IntKind.wrap .i64 (x2 + (1 : Int))), rfl, by omega, h⟩)
                  simp only [F13_S1]
                  (try simp -implicitDefEqProofs (maxSteps := 4000000) (disch := first | omega | decide | (simp only [go_sem]; omega)) only [go_sem, ↓reduceIte])
                  first | exact leS_refl _ | (refine leS_le ?_ ?_ <;> first | exact leL_refl _ | exact leOs_refl _ | (repeat (first | exact leL_refl _ | refine leL_cons (by first | exact leT_refl _ | exact leT_virt | exact leT_junk _ | exact leT_sl | exact leT_sln | exact leT_nil) ?_)))
                · refine runX_condF rfl c11 ?_
                  refine runX_seq ?_
                  refine runX_regionC fun C hC => ?_
                  try simp -implicitDefEqProofs (maxSteps := 4000000) (disch := first | omega | decide | (simp only [go_sem]; omega)) only [go_sem, ↓reduceIte]
                  repeat (with_reducible refine And.intro (by first | assumption | omega | (simp; done) | (simp; omega)) ?_)
                  refine toEnd hC ?_
                  refine endX_seq ?_
                  rcases iteB_some h with ⟨c12, h⟩ | ⟨c12, h⟩
                  · refine runX_condT rfl c12 ?_
                    refine runX_regionC fun C hC => ?_
                    try simp -implicitDefEqProofs (maxSteps := 4000000) (disch := first | omega | decide | (simp only [go_sem]; omega)) only [go_sem, ↓reduceIte]
                    repeat (with_reducible refine And.intro (by first | assumption | omega | (simp; done) | (simp; omega)) ?_)
                    refine toEnd hC ?_
                    refine endX_blk ?_
                    refine endX_seq ?_
                    refine runX_regionC fun C hC => ?_
                    try simp -implicitDefEqProofs (maxSteps := 4000000) (disch := first | omega | decide | (simp only [go_sem]; omega)) only [go_sem, ↓reduceIte]
                    repeat (with_reducible refine And.intro (by first | assumption | omega | (simp; done) | (simp; omega)) ?_)
                    refine toEnd hC ?_
                    refine endX_q (roundQ_normal ⟨m1, by omega, F13_S1 a0 a1 a2 a3 (1 : Int) (IntKind.wrap .i64 (x2 + (1 : Int))), ?_, (1 : Int), (IntKind.wrap .i64 (x2 + (1 : Int))), rfl, by omega, h⟩)
                    simp only [F13_S1]
                    (try simp -implicitDefEqProofs (maxSteps := 4000000) (disch := first | omega | decide | (simp only [go_sem]; omega)) only [go_sem, ↓reduceIte])
                    first | exact leS_refl _ | (refine leS_le ?_ ?_ <;> first | exact leL_refl _ | exact leOs_refl _ | (repeat (first | exact leL_refl _ | refine leL_cons (by first | exact leT_refl _ | exact leT_virt | exact leT_junk _ | exact leT_sl | exact leT_sln | exact leT_nil) ?_)))
                  · refine runX_condF rfl c12 ?_
                    refine runX_skip ?_
                    refine endX_blk ?_
                    refine endX_seq ?_
                    refine runX_regionC fun C hC => ?_
                    try simp -implicitDefEqProofs (maxSteps := 4000000) (disch := first | omega | decide | (simp only [go_sem]; omega)) only [go_sem, ↓reduceIte]
                    repeat (with_reducible refine And.intro (by first | assumption | omega | (simp; done) | (simp; omega)) ?_)
                    refine toEnd hC ?_
                    refine endX_q (roundQ_normal ⟨m1, by omega, F13_S1 a0 a1 a2 a3 x1 (IntKind.wrap .i64 (x2 + (1 : Int))), ?_, x1, (IntKind.wrap .i64 (x2 + (1 : Int))), rfl, by omega, h⟩)
                    simp only [F13_S1]
                    (try simp -implicitDefEqProofs (maxSteps := 4000000) (disch := first | omega | decide | (simp only [go_sem]; omega)) only [go_sem, ↓reduceIte])
                    first | exact leS_refl _ | (refine leS_le ?_ ?_ <;> first | exact leL_refl _ | exact leOs_refl _ | (repeat (first | exact leL_refl _ | refine leL_cons (by first | exact leT_refl _ | exact leT_virt | exact leT_junk _ | exact leT_sl | exact leT_sln | exact leT_nil) ?_)))
              · refine runX_condF rfl c10 ?_
                refine runX_skip ?_
                refine endX_blk ?_
                refine endX_seq ?_
                refine runX_regionC fun C hC => ?_
                try simp -implicitDefEqProofs (maxSteps := 4000000) (disch := first | omega | decide | (simp only [go_sem]; omega)) only [go_sem, ↓reduceIte]
                repeat (with_reducible refine And.intro (by first | assumption | omega | (simp; done) | (simp; omega)) ?_)
                refine toEnd hC ?_
                refine endX_q (roundQ_normal ⟨m1, by omega, F13_S1 a0 a1 a2 a3 x1 (IntKind.wrap .i64 (x2 + (1 : Int))), ?_, x1, (IntKind.wrap .i64 (x2 + (1 : Int))), rfl, by omega, h⟩)
                simp only [F13_S1]
                (try simp -implicitDefEqProofs (maxSteps := 4000000) (disch := first | omega | decide | (simp only [go_sem]; omega)) only [go_sem, ↓reduceIte])
                first | exact leS_refl _ | (refine leS_le ?_ ?_ <;> first | exact leL_refl _ | exact leOs_refl _ | (repeat (first | exact leL_refl _ | refine leL_cons (by first | exact leT_refl _ | exact leT_virt | exact leT_junk _ | exact leT_sl | exact leT_sln | exact leT_nil) ?_)))
            · refine guardK_F c8 ?_
              try simp -implicitDefEqProofs (maxSteps := 4000000) (disch := first | omega | decide | (simp only [go_sem]; omega)) only [go_sem, ↓reduceIte]
              repeat (with_reducible refine And.intro (by first | assumption | omega | (simp; done) | (simp; omega)) ?_)
              refine toEnd hC ?_
              refine endX_seq ?_
              refine runX_condF rfl rfl ?_
              refine runX_skip ?_
              refine endX_blk ?_
              refine endX_seq ?_
              refine runX_regionC fun C hC => ?_
              try simp -implicitDefEqProofs (maxSteps := 4000000) (disch := first | omega | decide | (simp only [go_sem]; omega)) only [go_sem, ↓reduceIte]
              repeat (with_reducible refine And.intro (by first | assumption | omega | (simp; done) | (simp; omega)) ?_)
              refine toEnd hC ?_
              refine endX_q (roundQ_normal ⟨m1, by omega, F13_S1 a0 a1 a2 a3 x1 (IntKind.wrap .i64 (x2 + (1 : Int))), ?_, x1, (IntKind.wrap .i64 (x2 + (1 : Int))), rfl, by omega, h⟩)
              simp only [F13_S1]
              (try simp -implicitDefEqProofs (maxSteps := 4000000) (disch := first | omega | decide | (simp only [go_sem]; omega)) only [go_sem, ↓reduceIte])
              first | exact leS_refl _ | (refine leS_le ?_ ?_ <;> first | exact leL_refl _ | exact leOs_refl _ | (repeat (first | exact leL_refl _ | refine leL_cons (by first | exact leT_refl _ | exact leT_virt | exact leT_junk _ | exact leT_sl | exact leT_sln | exact leT_nil) ?_)))
          · refine guardK_F c6 ?_
            try simp -implicitDefEqProofs (maxSteps := 4000000) (disch := first | omega | decide | (simp only [go_sem]; omega)) only [go_sem, ↓reduceIte]
            repeat (with_reducible refine And.intro (by first | assumption | omega | (simp; done) | (simp; omega)) ?_)
            refine toEnd hC ?_
            refine endX_seq ?_
            refine runX_condF rfl rfl ?_
            refine runX_skip ?_
            refine endX_blk ?_
            refine endX_seq ?_
            refine runX_regionC fun C hC => ?_
            try simp -implicitDefEqProofs (maxSteps := 4000000) (disch := first | omega | decide | (simp only [go_sem]; omega)) only [go_sem, ↓reduceIte]
            repeat (with_reducible refine And.intro (by first | assumption | omega | (simp; done) | (simp; omega)) ?_)
            refine toEnd hC ?_
            refine endX_q (roundQ_normal ⟨m1, by omega, F13_S1 a0 a1 a2 a3 x1 (IntKind.wrap .i64 (x2 + (1 : Int))), ?_, x1, (IntKind.wrap .i64 (x2 + (1 : Int))), rfl, by omega, h⟩)
            simp only [F13_S1]
            (try simp -implicitDefEqProofs (maxSteps := 4000000) (disch := first | omega | decide | (simp only [go_sem]; omega)) only [go_sem, ↓reduceIte])
            first | exact leS_refl _ | (refine leS_le ?_ ?_ <;> first | exact leL_refl _ | exact leOs_refl _ | (repeat (first | exact leL_refl _ | refine leL_cons (by first | exact leT_refl _ | exact leT_virt | exact leT_junk _ | exact leT_sl | exact leT_sln | exact leT_nil) ?_)))
        · refine runX_condF rfl c3 ?_
          refine runX_exit ?_
          refine endX_seqE ?_
          refine endX_q (roundQ_exit ?_)
          refine endX_blkE ?_
          refine endX_seq ?_
          refine runX_seq ?_
          refine runX_regionC fun C hC => ?_
          try simp -implicitDefEqProofs (maxSteps := 4000000) (disch := first | omega | decide | (simp only [go_sem]; omega)) only [go_sem, ↓reduceIte]
          repeat (with_reducible refine And.intro (by first | assumption | omega | (simp; done) | (simp; omega)) ?_)
          refine toEnd hC ?_
          refine endX_seq ?_
          refine runX_ret ?_
          refine endX_q ?_
          obtain rfl := Option.some.inj h
          show RetW _ _ _ _ _
          simp only [RetW]
          (try simp -implicitDefEqProofs (maxSteps := 4000000) (disch := first | omega | decide | (simp only [go_sem]; omega)) only [go_sem, ↓reduceIte])
          (try simp (disch := omega) only [if_pos, Nat.sub_zero])
          exact leT_refl _
end Go.Proofs.YtjkfobmfddfjhaaDoorX

set_option linter.unusedVariables false
set_option linter.unusedSimpArgs false
namespace Go.Proofs.YtjkfobmfddfjhaaDoorX
open Go Go.RowKit Go.Proofs
set_option maxRecDepth 100000
attribute [local go_sem] String.reduceEq String.reduceNe reduceCtorEq Int.reduceEq Nat.reduceAdd Nat.reduceSub Nat.reduceMul Nat.reduceLT Nat.reduceLeDiff Nat.reduceEqDiff Nat.reduceBEq Int.reduceToNat Int.reduceLT Int.reduceLE Int.reduceGT Int.reduceGE Int.reduceAdd Int.reduceSub Int.reduceMul Int.reduceNeg Int.reduceBEq Int.reduceBNe Int.reducePow Int.reduceDiv Int.reduceMod Int.reduceTDiv Int.reduceTMod Int.reduceNatCast
/-! ### shadowboxlaw42.own -/
def F14_S1 (a0 : List ((Bool) × (List (List UInt8)) × (List (List UInt8)) × (List (List UInt8)))) (x1 : Int) (x2 : List ((Bool) × (List (List UInt8)) × (List (List UInt8)) × (List (List UInt8)))) : St := ⟨[.sl 4 false (List.map eT33 a0), .junk, .junk, .rsl 0 4 0 x2.length, .imm (.int .i64 x1), .junk, .junk, .junk, .junk, .junk, .junk, .junk, .junk, .junk, .junk, .junk, .junk, .junk, .junk], [some (.buf 77 4 (List.map eT33 x2) 0)]⟩
def F14_L1 : Nat → (List ((Bool) × (List (List UInt8)) × (List (List UInt8)) × (List (List UInt8)))) → (Int) → (List ((Bool) × (List (List UInt8)) × (List (List UInt8)) × (List (List UInt8)))) → Option (List ((Bool) × (List (List UInt8)) × (List (List UInt8)) × (List (List UInt8))))
  | 0, _, _, _ => none
  | m1 + 1, a0, x1, x2 => iteB (decide (x1 < (a0.length : Int))) (grd (0 ≤ x1 ∧ x1 < (a0.length : Int)) (grd ((x2.length + 1) ≤ 549755813888) (F14_L1 m1 a0 (IntKind.wrap .i64 (x1 + (1 : Int))) (x2 ++ [((a0.getD x1.toNat default).1, (a0.getD x1.toNat default).2.1, (a0.getD x1.toNat default).2.2.1, (a0.getD x1.toNat default).2.2.2)])))) (some x2)
def F14 (n : Nat) (a0 : List ((Bool) × (List (List UInt8)) × (List (List UInt8)) × (List (List UInt8)))) : Option (List ((Bool) × (List (List UInt8)) × (List (List UInt8)) × (List (List UInt8)))) := F14_L1 n a0 (0 : Int) []
set_option maxHeartbeats 4000000 in
theorem F14_ok : ∀ (n : Nat) (a0 : List ((Bool) × (List (List UInt8)) × (List (List UInt8)) × (List (List UInt8)))) (r : List ((Bool) × (List (List UInt8)) × (List (List UInt8)) × (List (List UInt8)))), F14 n a0 = some r → FnC Tryd.prog 14 [.sl 4 false (List.map eT33 a0)] (.sl 4 false (List.map eT33 r))
  | n, a0, r, h => by
    unfold F14 at h
    refine FnC.goX mixed Tryd.func14 (by kernel_rfl) rfl ?_
    simp only [Tryd.ntmps14, List.length_cons, List.length_nil, List.replicate, List.cons_append, List.nil_append, Nat.reduceAdd, Nat.reduceSub]
    refine runX_seq ?_
    refine runX_regionC fun C hC => ?_
    try simp -implicitDefEqProofs (maxSteps := 4000000) (disch := first | omega | decide | (simp only [go_sem]; omega)) only [go_sem, ↓reduceIte]
    repeat (with_reducible refine And.intro (by first | assumption | omega | (simp; done) | (simp; omega)) ?_)
    refine toEnd hC ?_
    refine endX_seq ?_
    refine runX_seq ?_
    refine runX_regionC fun C hC => ?_
    try simp -implicitDefEqProofs (maxSteps := 4000000) (disch := first | omega | decide | (simp only [go_sem]; omega)) only [go_sem, ↓reduceIte]
    repeat (with_reducible refine And.intro (by first | assumption | omega | (simp; done) | (simp; omega)) ?_)
    refine toEnd hC ?_
    refine endX_seq ?_
    refine runX_seq ?_
    refine runX_seq ?_
    refine runX_regionC fun C hC => ?_
    try simp -implicitDefEqProofs (maxSteps := 4000000) (disch := first | omega | decide | (simp only [go_sem]; omega)) only [go_sem, ↓reduceIte]
    repeat (with_reducible refine And.intro (by first | assumption | omega | (simp; done) | (simp; omega)) ?_)
    refine toEnd hC ?_
    refine endX_seq ?_
    refine runX_block ?_
    refine runX_loop [0, 3, 4] (fun m S => ∃ (x1 : Int) (x2 : List ((Bool) × (List (List UInt8)) × (List (List UInt8)) × (List (List UInt8)))), S = F14_S1 a0 x1 x2 ∧ m ≤ n ∧ F14_L1 m a0 x1 x2 = some r) n ⟨F14_S1 a0 (0 : Int) [], ?_, (0 : Int), [], rfl, Nat.le_refl _, h⟩ ?_
    · (try simp -implicitDefEqProofs (maxSteps := 4000000) (disch := first | omega | decide | (simp only [go_sem]; omega)) only [go_sem, ↓reduceIte])
      simp only [F14_S1]
      refine leS_trans (leS_pad _ _ 1) ?_
      simp only [List.replicate, List.cons_append, List.nil_append]
      refine leS_virt 0 77 4 rfl ?_ ?_ rfl
      · repeat (first | exact leL_refl _ | refine leL_cons (by first | exact leT_refl _ | exact leT_virt | exact leT_junk _ | exact leT_sl | exact leT_sln | exact leT_nil) ?_)
      · repeat (first | exact leOs_refl _ | refine leOs.cons (by first | exact leO.same _ | (refine leO.box (leT_agg (by repeat (first | exact leL_refl _ | refine leL_cons (by first | exact leT_refl _ | exact leT_virt | exact leT_junk _ | exact leT_sl | exact leT_sln | exact leT_nil) ?_))) rfl)) ?_)
    · clear h
      rintro m1 S ⟨x1, x2, rfl, hm1, h⟩
      cases m1 with
      | zero => first | cases (show (none : Option _) = some _ from h) | (rw [F14_L1] at h; cases h)
      | succ m1 =>
        rw [F14_L1] at h
        simp only [F14_S1]
        refine runX_seq ?_
        refine runX_seq ?_
        refine runX_regionC fun C hC => ?_
        try simp -implicitDefEqProofs (maxSteps := 4000000) (disch := first | omega | decide | (simp only [go_sem]; omega)) only [go_sem, ↓reduceIte]
        repeat (with_reducible refine And.intro (by first | assumption | omega | (simp; done) | (simp; omega)) ?_)
        refine toEnd hC ?_
        refine endX_seq ?_
        rcases iteB_some h with ⟨c3, h⟩ | ⟨c3, h⟩
        · refine runX_condT rfl c3 ?_
          refine runX_skip ?_
          refine endX_seq ?_
          refine runX_seq ?_
          refine runX_block ?_
          refine runX_regionC fun C hC => ?_
          obtain ⟨g4, h⟩ := grd_some h
          try simp -implicitDefEqProofs (maxSteps := 4000000) (disch := first | omega | decide | (simp only [go_sem]; omega)) only [go_sem, ↓reduceIte]
          repeat (with_reducible refine And.intro (by first | assumption | omega | (simp; done) | (simp; omega)) ?_)
          refine buildX_val ?_
          obtain ⟨g5, h⟩ := grd_some h
          try simp -implicitDefEqProofs (maxSteps := 4000000) (disch := first | omega | decide | (simp only [go_sem]; omega)) only [go_sem, ↓reduceIte]
          repeat (with_reducible refine And.intro (by first | assumption | omega | (simp; done) | (simp; omega)) ?_)
          refine toEnd hC ?_
          refine endX_blk ?_
          refine endX_seq ?_
          refine runX_regionC fun C hC => ?_
          try simp -implicitDefEqProofs (maxSteps := 4000000) (disch := first | omega | decide | (simp only [go_sem]; omega)) only [go_sem, ↓reduceIte]
          repeat (with_reducible refine And.intro (by first | assumption | omega | (simp; done) | (simp; omega)) ?_)
          refine toEnd hC ?_
          refine endX_q (roundQ_normal ⟨m1, by omega, F14_S1 a0 (IntKind.wrap .i64 (x1 + (1 : Int))) (x2 ++ [((a0.getD x1.toNat default).1, (a0.getD x1.toNat default).2.1, (a0.getD x1.toNat default).2.2.1, (a0.getD x1.toNat default).2.2.2)]), ?_, (IntKind.wrap .i64 (x1 + (1 : Int))), (x2 ++ [((a0.getD x1.toNat default).1, (a0.getD x1.toNat default).2.1, (a0.getD x1.toNat default).2.2.1, (a0.getD x1.toNat default).2.2.2)]), rfl, by omega, h⟩)
          simp only [F14_S1]
          (try simp -implicitDefEqProofs (maxSteps := 4000000) (disch := first | omega | decide | (simp only [go_sem]; omega)) only [go_sem, ↓reduceIte])
          first | exact leS_refl _ | (refine leS_le ?_ ?_ <;> first | exact leL_refl _ | exact leOs_refl _ | (repeat (first | exact leL_refl _ | refine leL_cons (by first | exact leT_refl _ | exact leT_virt | exact leT_junk _ | exact leT_sl | exact leT_sln | exact leT_nil) ?_)))
        · refine runX_condF rfl c3 ?_
          refine runX_exit ?_
          refine endX_seqE ?_
          refine endX_q (roundQ_exit ?_)
          refine endX_blkE ?_
          refine endX_seq ?_
          refine runX_seq ?_
          refine runX_regionC fun C hC => ?_
          try simp -implicitDefEqProofs (maxSteps := 4000000) (disch := first | omega | decide | (simp only [go_sem]; omega)) only [go_sem, ↓reduceIte]
          repeat (with_reducible refine And.intro (by first | assumption | omega | (simp; done) | (simp; omega)) ?_)
          refine toEnd hC ?_
          refine endX_seq ?_
          refine runX_ret ?_
          refine endX_q ?_
          obtain rfl := Option.some.inj h
          show RetW _ _ _ _ _
          simp only [RetW]
          (try simp -implicitDefEqProofs (maxSteps := 4000000) (disch := first | omega | decide | (simp only [go_sem]; omega)) only [go_sem, ↓reduceIte])
          (try simp (disch := omega) only [if_pos, Nat.sub_zero])
          exact leT_refl _
end Go.Proofs.YtjkfobmfddfjhaaDoorX
