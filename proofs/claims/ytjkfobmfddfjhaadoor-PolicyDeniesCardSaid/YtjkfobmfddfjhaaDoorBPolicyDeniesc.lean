/- Part of the proof of PolicyDenies: walks and plain words, merged. -/
import Derived.Test.YtjkfobmfddfjhaaDoorBPolicyDeniesb
import Derived.Test.YtjkfobmfddfjhaaDoorProg
import Derived.KernelRfl
set_option linter.unusedVariables false
set_option linter.unusedSimpArgs false

/- What the program's types are. -/
set_option linter.unusedVariables false
namespace Go.Proofs.YtjkfobmfddfjhaaDoorX
open Go Go.RowKit Go.Proofs
theorem small_of {P : Program} {t : TypeId} (h : ((P.info? t).all fun i => decide (i.bytes ≤ 256)) = true) : ∀ i, P.info? t = some i → i.bytes ≤ 256 := fun i hi => by
  rw [hi] at h; simpa using h
theorem notInt_of {d : Option TypeDesc} (h : (match d with | some (.int _) => false | some _ => true | none => false) = true) : notInt d := by
  cases d with
  | none => cases h
  | some d => refine ⟨d, rfl, fun k e => ?_⟩; subst e; cases h
theorem mixed : Tryd.prog.follows .mixedOrders = true := by kernel_rfl
theorem sz2 : szOf Tryd.prog 2 = 1 := by kernel_rfl
theorem cz2 : Tryd.prog.cellsOf 2 = 1 := by kernel_rfl
theorem ok2 : okT Tryd.prog 2 = true := by kernel_rfl
theorem ze2 : zeroOf Tryd.prog 2 = .imm (.int .i64 0) := by kernel_rfl
theorem by2 : (∀ i, Tryd.prog.info? 2 = some i → i.bytes ≤ 256) = True := eq_true (small_of (by kernel_rfl))
theorem sz3 : szOf Tryd.prog 3 = 1 := by kernel_rfl
theorem cz3 : Tryd.prog.cellsOf 3 = 1 := by kernel_rfl
theorem ok3 : okT Tryd.prog 3 = true := by kernel_rfl
theorem ze3 : zeroOf Tryd.prog 3 = .imm (.int .i64 0) := by kernel_rfl
theorem by3 : (∀ i, Tryd.prog.info? 3 = some i → i.bytes ≤ 256) = True := eq_true (small_of (by kernel_rfl))
theorem sz4 : szOf Tryd.prog 4 = 1 := by kernel_rfl
theorem cz4 : Tryd.prog.cellsOf 4 = 1 := by kernel_rfl
theorem ok4 : okT Tryd.prog 4 = true := by kernel_rfl
theorem ze4 : zeroOf Tryd.prog 4 = .imm (.bool false) := by kernel_rfl
theorem by4 : (∀ i, Tryd.prog.info? 4 = some i → i.bytes ≤ 256) = True := eq_true (small_of (by kernel_rfl))
theorem ni4 : notInt (Tryd.prog.underlying 4) = True := eq_true (notInt_of (by kernel_rfl))
theorem sz5 : szOf Tryd.prog 5 = 1 := by kernel_rfl
theorem cz5 : Tryd.prog.cellsOf 5 = 1 := by kernel_rfl
theorem ok5 : okT Tryd.prog 5 = true := by kernel_rfl
theorem ze5 : zeroOf Tryd.prog 5 = .imm (.int .u8 0) := by kernel_rfl
theorem by5 : (∀ i, Tryd.prog.info? 5 = some i → i.bytes ≤ 256) = True := eq_true (small_of (by kernel_rfl))
theorem sz6 : szOf Tryd.prog 6 = 1 := by kernel_rfl
theorem cz6 : Tryd.prog.cellsOf 6 = 1 := by kernel_rfl
theorem ok6 : okT Tryd.prog 6 = true := by kernel_rfl
theorem ze6 : zeroOf Tryd.prog 6 = .imm (.int .u8 0) := by kernel_rfl
theorem by6 : (∀ i, Tryd.prog.info? 6 = some i → i.bytes ≤ 256) = True := eq_true (small_of (by kernel_rfl))
theorem sz7 : szOf Tryd.prog 7 = 4 := by kernel_rfl
theorem cz7 : Tryd.prog.cellsOf 7 = 4 := by kernel_rfl
theorem ok7 : okT Tryd.prog 7 = true := by kernel_rfl
theorem ze7 : zeroOf Tryd.prog 7 = .agg [.imm (.int .i64 0), .imm (.int .i64 0), .imm (.bool false), .imm (.int .u8 0)] := by kernel_rfl
theorem by7 : (∀ i, Tryd.prog.info? 7 = some i → i.bytes ≤ 256) = True := eq_true (small_of (by kernel_rfl))
theorem ni7 : notInt (Tryd.prog.underlying 7) = True := eq_true (notInt_of (by kernel_rfl))
theorem sz8 : szOf Tryd.prog 8 = 4 := by kernel_rfl
theorem cz8 : Tryd.prog.cellsOf 8 = 4 := by kernel_rfl
theorem ok8 : okT Tryd.prog 8 = true := by kernel_rfl
theorem ze8 : zeroOf Tryd.prog 8 = .agg [.imm (.int .i64 0), .imm (.int .i64 0), .imm (.bool false), .imm (.int .u8 0)] := by kernel_rfl
theorem by8 : (∀ i, Tryd.prog.info? 8 = some i → i.bytes ≤ 256) = True := eq_true (small_of (by kernel_rfl))
theorem ni8 : notInt (Tryd.prog.underlying 8) = True := eq_true (notInt_of (by kernel_rfl))
theorem sz9 : szOf Tryd.prog 9 = 1 := by kernel_rfl
theorem cz9 : Tryd.prog.cellsOf 9 = 1 := by kernel_rfl
theorem ok9 : okT Tryd.prog 9 = true := by kernel_rfl
theorem ze9 : zeroOf Tryd.prog 9 = .imm (.string ByteArray.empty) := by kernel_rfl
theorem by9 : (∀ i, Tryd.prog.info? 9 = some i → i.bytes ≤ 256) = True := eq_true (small_of (by kernel_rfl))
theorem ni9 : notInt (Tryd.prog.underlying 9) = True := eq_true (notInt_of (by kernel_rfl))
theorem sz10 : szOf Tryd.prog 10 = 1 := by kernel_rfl
theorem cz10 : Tryd.prog.cellsOf 10 = 1 := by kernel_rfl
theorem ok10 : okT Tryd.prog 10 = true := by kernel_rfl
theorem ze10 : zeroOf Tryd.prog 10 = .imm (.string ByteArray.empty) := by kernel_rfl
theorem by10 : (∀ i, Tryd.prog.info? 10 = some i → i.bytes ≤ 256) = True := eq_true (small_of (by kernel_rfl))
theorem ni10 : notInt (Tryd.prog.underlying 10) = True := eq_true (notInt_of (by kernel_rfl))
theorem sz11 : szOf Tryd.prog 11 = 1 := by kernel_rfl
theorem cz11 : Tryd.prog.cellsOf 11 = 1 := by kernel_rfl
theorem ok11 : okT Tryd.prog 11 = true := by kernel_rfl
theorem ze11 : zeroOf Tryd.prog 11 = .imm (.string ByteArray.empty) := by kernel_rfl
theorem by11 : (∀ i, Tryd.prog.info? 11 = some i → i.bytes ≤ 256) = True := eq_true (small_of (by kernel_rfl))
theorem ni11 : notInt (Tryd.prog.underlying 11) = True := eq_true (notInt_of (by kernel_rfl))
theorem sz12 : szOf Tryd.prog 12 = 1 := by kernel_rfl
theorem cz12 : Tryd.prog.cellsOf 12 = 1 := by kernel_rfl
theorem ok12 : okT Tryd.prog 12 = true := by kernel_rfl
theorem ze12 : zeroOf Tryd.prog 12 = .imm (.int .u64 0) := by kernel_rfl
theorem by12 : (∀ i, Tryd.prog.info? 12 = some i → i.bytes ≤ 256) = True := eq_true (small_of (by kernel_rfl))
theorem sz13 : szOf Tryd.prog 13 = 2 := by kernel_rfl
theorem cz13 : Tryd.prog.cellsOf 13 = 2 := by kernel_rfl
theorem ok13 : okT Tryd.prog 13 = true := by kernel_rfl
theorem ze13 : zeroOf Tryd.prog 13 = .agg [.imm (.string ByteArray.empty), .imm (.int .u64 0)] := by kernel_rfl
theorem by13 : (∀ i, Tryd.prog.info? 13 = some i → i.bytes ≤ 256) = True := eq_true (small_of (by kernel_rfl))
theorem ni13 : notInt (Tryd.prog.underlying 13) = True := eq_true (notInt_of (by kernel_rfl))
theorem sz14 : szOf Tryd.prog 14 = 2 := by kernel_rfl
theorem cz14 : Tryd.prog.cellsOf 14 = 2 := by kernel_rfl
theorem ok14 : okT Tryd.prog 14 = true := by kernel_rfl
theorem ze14 : zeroOf Tryd.prog 14 = .agg [.imm (.string ByteArray.empty), .imm (.int .u64 0)] := by kernel_rfl
theorem by14 : (∀ i, Tryd.prog.info? 14 = some i → i.bytes ≤ 256) = True := eq_true (small_of (by kernel_rfl))
theorem ni14 : notInt (Tryd.prog.underlying 14) = True := eq_true (notInt_of (by kernel_rfl))
theorem sz15 : szOf Tryd.prog 15 = 1 := by kernel_rfl
theorem cz15 : Tryd.prog.cellsOf 15 = 1 := by kernel_rfl
theorem ok15 : okT Tryd.prog 15 = true := by kernel_rfl
theorem ze15 : zeroOf Tryd.prog 15 = .imm (.pointer none) := by kernel_rfl
theorem by15 : (∀ i, Tryd.prog.info? 15 = some i → i.bytes ≤ 256) = True := eq_true (small_of (by kernel_rfl))
theorem ni15 : notInt (Tryd.prog.underlying 15) = True := eq_true (notInt_of (by kernel_rfl))
theorem sz16 : szOf Tryd.prog 16 = 1 := by kernel_rfl
theorem cz16 : Tryd.prog.cellsOf 16 = 1 := by kernel_rfl
theorem ok16 : okT Tryd.prog 16 = true := by kernel_rfl
theorem ze16 : zeroOf Tryd.prog 16 = .imm (.pointer none) := by kernel_rfl
theorem by16 : (∀ i, Tryd.prog.info? 16 = some i → i.bytes ≤ 256) = True := eq_true (small_of (by kernel_rfl))
theorem ni16 : notInt (Tryd.prog.underlying 16) = True := eq_true (notInt_of (by kernel_rfl))
theorem sz17 : szOf Tryd.prog 17 = 1 := by kernel_rfl
theorem cz17 : Tryd.prog.cellsOf 17 = 1 := by kernel_rfl
theorem ok17 : okT Tryd.prog 17 = true := by kernel_rfl
theorem ze17 : zeroOf Tryd.prog 17 = .imm (.pointer none) := by kernel_rfl
theorem by17 : (∀ i, Tryd.prog.info? 17 = some i → i.bytes ≤ 256) = True := eq_true (small_of (by kernel_rfl))
theorem ni17 : notInt (Tryd.prog.underlying 17) = True := eq_true (notInt_of (by kernel_rfl))
theorem sz18 : szOf Tryd.prog 18 = 1 := by kernel_rfl
theorem cz18 : Tryd.prog.cellsOf 18 = 1 := by kernel_rfl
theorem ok18 : okT Tryd.prog 18 = true := by kernel_rfl
theorem ze18 : zeroOf Tryd.prog 18 = .agg [.imm (.pointer none)] := by kernel_rfl
theorem by18 : (∀ i, Tryd.prog.info? 18 = some i → i.bytes ≤ 256) = True := eq_true (small_of (by kernel_rfl))
theorem ni18 : notInt (Tryd.prog.underlying 18) = True := eq_true (notInt_of (by kernel_rfl))
theorem sz19 : szOf Tryd.prog 19 = 1 := by kernel_rfl
theorem cz19 : Tryd.prog.cellsOf 19 = 1 := by kernel_rfl
theorem ok19 : okT Tryd.prog 19 = true := by kernel_rfl
theorem ze19 : zeroOf Tryd.prog 19 = .agg [.imm (.pointer none)] := by kernel_rfl
theorem by19 : (∀ i, Tryd.prog.info? 19 = some i → i.bytes ≤ 256) = True := eq_true (small_of (by kernel_rfl))
theorem ni19 : notInt (Tryd.prog.underlying 19) = True := eq_true (notInt_of (by kernel_rfl))
theorem sz20 : szOf Tryd.prog 20 = 1 := by kernel_rfl
theorem cz20 : Tryd.prog.cellsOf 20 = 1 := by kernel_rfl
theorem ok20 : okT Tryd.prog 20 = true := by kernel_rfl
theorem ze20 : zeroOf Tryd.prog 20 = .imm .nilIface := by kernel_rfl
theorem by20 : (∀ i, Tryd.prog.info? 20 = some i → i.bytes ≤ 256) = True := eq_true (small_of (by kernel_rfl))
theorem ni20 : notInt (Tryd.prog.underlying 20) = True := eq_true (notInt_of (by kernel_rfl))
theorem sz21 : szOf Tryd.prog 21 = 1 := by kernel_rfl
theorem cz21 : Tryd.prog.cellsOf 21 = 1 := by kernel_rfl
theorem ok21 : okT Tryd.prog 21 = true := by kernel_rfl
theorem ze21 : zeroOf Tryd.prog 21 = .imm (.int .i32 0) := by kernel_rfl
theorem by21 : (∀ i, Tryd.prog.info? 21 = some i → i.bytes ≤ 256) = True := eq_true (small_of (by kernel_rfl))
theorem sz24 : szOf Tryd.prog 24 = 1 := by kernel_rfl
theorem cz24 : Tryd.prog.cellsOf 24 = 1 := by kernel_rfl
theorem ok24 : okT Tryd.prog 24 = true := by kernel_rfl
theorem ze24 : zeroOf Tryd.prog 24 = .sl 0 true [] := by kernel_rfl
theorem by24 : (∀ i, Tryd.prog.info? 24 = some i → i.bytes ≤ 256) = True := eq_true (small_of (by kernel_rfl))
theorem ni24 : notInt (Tryd.prog.underlying 24) = True := eq_true (notInt_of (by kernel_rfl))
theorem sz25 : szOf Tryd.prog 25 = 3 := by kernel_rfl
theorem cz25 : Tryd.prog.cellsOf 25 = 3 := by kernel_rfl
theorem ok25 : okT Tryd.prog 25 = true := by kernel_rfl
theorem ze25 : zeroOf Tryd.prog 25 = .agg [.imm (.string ByteArray.empty), .imm (.string ByteArray.empty), .imm (.string ByteArray.empty)] := by kernel_rfl
theorem by25 : (∀ i, Tryd.prog.info? 25 = some i → i.bytes ≤ 256) = True := eq_true (small_of (by kernel_rfl))
theorem eg25 : Tryd.prog.eqGuardType Tryd.prog.depth 25 = false := by kernel_rfl
theorem sh25 : Tryd.prog.stoodInHeld 25 = false := by kernel_rfl
theorem ni25 : notInt (Tryd.prog.underlying 25) = True := eq_true (notInt_of (by kernel_rfl))
theorem sz29 : szOf Tryd.prog 29 = 1 := by kernel_rfl
theorem cz29 : Tryd.prog.cellsOf 29 = 1 := by kernel_rfl
theorem ok29 : okT Tryd.prog 29 = true := by kernel_rfl
theorem ze29 : zeroOf Tryd.prog 29 = .sl 0 true [] := by kernel_rfl
theorem by29 : (∀ i, Tryd.prog.info? 29 = some i → i.bytes ≤ 256) = True := eq_true (small_of (by kernel_rfl))
theorem ni29 : notInt (Tryd.prog.underlying 29) = True := eq_true (notInt_of (by kernel_rfl))
theorem sz32 : szOf Tryd.prog 32 = 1 := by kernel_rfl
theorem cz32 : Tryd.prog.cellsOf 32 = 1 := by kernel_rfl
theorem ok32 : okT Tryd.prog 32 = true := by kernel_rfl
theorem ze32 : zeroOf Tryd.prog 32 = .sl 0 true [] := by kernel_rfl
theorem by32 : (∀ i, Tryd.prog.info? 32 = some i → i.bytes ≤ 256) = True := eq_true (small_of (by kernel_rfl))
theorem ni32 : notInt (Tryd.prog.underlying 32) = True := eq_true (notInt_of (by kernel_rfl))
theorem sz33 : szOf Tryd.prog 33 = 4 := by kernel_rfl
theorem cz33 : Tryd.prog.cellsOf 33 = 4 := by kernel_rfl
theorem ok33 : okT Tryd.prog 33 = true := by kernel_rfl
theorem ze33 : zeroOf Tryd.prog 33 = .agg [.imm (.bool false), .sl 0 true [], .sl 0 true [], .sl 0 true []] := by kernel_rfl
theorem by33 : (∀ i, Tryd.prog.info? 33 = some i → i.bytes ≤ 256) = True := eq_true (small_of (by kernel_rfl))
theorem ni33 : notInt (Tryd.prog.underlying 33) = True := eq_true (notInt_of (by kernel_rfl))
theorem sz34 : szOf Tryd.prog 34 = 4 := by kernel_rfl
theorem cz34 : Tryd.prog.cellsOf 34 = 4 := by kernel_rfl
theorem ok34 : okT Tryd.prog 34 = true := by kernel_rfl
theorem ze34 : zeroOf Tryd.prog 34 = .agg [.imm (.bool false), .sl 0 true [], .sl 0 true [], .sl 0 true []] := by kernel_rfl
theorem by34 : (∀ i, Tryd.prog.info? 34 = some i → i.bytes ≤ 256) = True := eq_true (small_of (by kernel_rfl))
theorem ni34 : notInt (Tryd.prog.underlying 34) = True := eq_true (notInt_of (by kernel_rfl))
theorem sz40 : szOf Tryd.prog 40 = 1 := by kernel_rfl
theorem cz40 : Tryd.prog.cellsOf 40 = 1 := by kernel_rfl
theorem ok40 : okT Tryd.prog 40 = true := by kernel_rfl
theorem ze40 : zeroOf Tryd.prog 40 = .sl 0 true [] := by kernel_rfl
theorem by40 : (∀ i, Tryd.prog.info? 40 = some i → i.bytes ≤ 256) = True := eq_true (small_of (by kernel_rfl))
theorem ni40 : notInt (Tryd.prog.underlying 40) = True := eq_true (notInt_of (by kernel_rfl))
theorem sz41 : szOf Tryd.prog 41 = 1 := by kernel_rfl
theorem cz41 : Tryd.prog.cellsOf 41 = 1 := by kernel_rfl
theorem ok41 : okT Tryd.prog 41 = true := by kernel_rfl
theorem ze41 : zeroOf Tryd.prog 41 = .sl 0 true [] := by kernel_rfl
theorem by41 : (∀ i, Tryd.prog.info? 41 = some i → i.bytes ≤ 256) = True := eq_true (small_of (by kernel_rfl))
theorem ni41 : notInt (Tryd.prog.underlying 41) = True := eq_true (notInt_of (by kernel_rfl))
theorem sz42 : szOf Tryd.prog 42 = 1 := by kernel_rfl
theorem cz42 : Tryd.prog.cellsOf 42 = 1 := by kernel_rfl
theorem ok42 : okT Tryd.prog 42 = true := by kernel_rfl
theorem ze42 : zeroOf Tryd.prog 42 = .sl 0 true [] := by kernel_rfl
theorem by42 : (∀ i, Tryd.prog.info? 42 = some i → i.bytes ≤ 256) = True := eq_true (small_of (by kernel_rfl))
theorem ni42 : notInt (Tryd.prog.underlying 42) = True := eq_true (notInt_of (by kernel_rfl))
theorem sz43 : szOf Tryd.prog 43 = 2 := by kernel_rfl
theorem cz43 : Tryd.prog.cellsOf 43 = 2 := by kernel_rfl
theorem ok43 : okT Tryd.prog 43 = true := by kernel_rfl
theorem ze43 : zeroOf Tryd.prog 43 = .agg [.sl 0 true [], .imm (.int .i64 0)] := by kernel_rfl
theorem by43 : (∀ i, Tryd.prog.info? 43 = some i → i.bytes ≤ 256) = True := eq_true (small_of (by kernel_rfl))
theorem ni43 : notInt (Tryd.prog.underlying 43) = True := eq_true (notInt_of (by kernel_rfl))
theorem sz44 : szOf Tryd.prog 44 = 2 := by kernel_rfl
theorem cz44 : Tryd.prog.cellsOf 44 = 2 := by kernel_rfl
theorem ok44 : okT Tryd.prog 44 = true := by kernel_rfl
theorem ze44 : zeroOf Tryd.prog 44 = .agg [.sl 0 true [], .imm (.int .i64 0)] := by kernel_rfl
theorem by44 : (∀ i, Tryd.prog.info? 44 = some i → i.bytes ≤ 256) = True := eq_true (small_of (by kernel_rfl))
theorem ni44 : notInt (Tryd.prog.underlying 44) = True := eq_true (notInt_of (by kernel_rfl))
theorem sz45 : szOf Tryd.prog 45 = 1 := by kernel_rfl
theorem cz45 : Tryd.prog.cellsOf 45 = 1 := by kernel_rfl
theorem ok45 : okT Tryd.prog 45 = true := by kernel_rfl
theorem ze45 : zeroOf Tryd.prog 45 = .sl 0 true [] := by kernel_rfl
theorem by45 : (∀ i, Tryd.prog.info? 45 = some i → i.bytes ≤ 256) = True := eq_true (small_of (by kernel_rfl))
theorem ni45 : notInt (Tryd.prog.underlying 45) = True := eq_true (notInt_of (by kernel_rfl))
theorem sz48 : szOf Tryd.prog 48 = 1 := by kernel_rfl
theorem cz48 : Tryd.prog.cellsOf 48 = 1 := by kernel_rfl
theorem ok48 : okT Tryd.prog 48 = true := by kernel_rfl
theorem ze48 : zeroOf Tryd.prog 48 = .sl 0 true [] := by kernel_rfl
theorem by48 : (∀ i, Tryd.prog.info? 48 = some i → i.bytes ≤ 256) = True := eq_true (small_of (by kernel_rfl))
theorem ni48 : notInt (Tryd.prog.underlying 48) = True := eq_true (notInt_of (by kernel_rfl))
theorem sz51 : szOf Tryd.prog 51 = 1 := by kernel_rfl
theorem cz51 : Tryd.prog.cellsOf 51 = 1 := by kernel_rfl
theorem ok51 : okT Tryd.prog 51 = true := by kernel_rfl
theorem ze51 : zeroOf Tryd.prog 51 = .sl 0 true [] := by kernel_rfl
theorem by51 : (∀ i, Tryd.prog.info? 51 = some i → i.bytes ≤ 256) = True := eq_true (small_of (by kernel_rfl))
theorem ni51 : notInt (Tryd.prog.underlying 51) = True := eq_true (notInt_of (by kernel_rfl))
theorem sz53 : szOf Tryd.prog 53 = 3 := by kernel_rfl
theorem cz53 : Tryd.prog.cellsOf 53 = 3 := by kernel_rfl
theorem ok53 : okT Tryd.prog 53 = true := by kernel_rfl
theorem ze53 : zeroOf Tryd.prog 53 = .agg [.imm (.int .i64 0), .imm (.string ByteArray.empty), .imm (.int .i64 0)] := by kernel_rfl
theorem by53 : (∀ i, Tryd.prog.info? 53 = some i → i.bytes ≤ 256) = True := eq_true (small_of (by kernel_rfl))
theorem eg53 : Tryd.prog.eqGuardType Tryd.prog.depth 53 = false := by kernel_rfl
theorem sh53 : Tryd.prog.stoodInHeld 53 = false := by kernel_rfl
theorem ni53 : notInt (Tryd.prog.underlying 53) = True := eq_true (notInt_of (by kernel_rfl))
theorem sz54 : szOf Tryd.prog 54 = 3 := by kernel_rfl
theorem cz54 : Tryd.prog.cellsOf 54 = 3 := by kernel_rfl
theorem ok54 : okT Tryd.prog 54 = true := by kernel_rfl
theorem ze54 : zeroOf Tryd.prog 54 = .agg [.imm (.int .i64 0), .imm (.string ByteArray.empty), .imm (.int .i64 0)] := by kernel_rfl
theorem by54 : (∀ i, Tryd.prog.info? 54 = some i → i.bytes ≤ 256) = True := eq_true (small_of (by kernel_rfl))
theorem eg54 : Tryd.prog.eqGuardType Tryd.prog.depth 54 = false := by kernel_rfl
theorem sh54 : Tryd.prog.stoodInHeld 54 = false := by kernel_rfl
theorem ni54 : notInt (Tryd.prog.underlying 54) = True := eq_true (notInt_of (by kernel_rfl))
theorem sz55 : szOf Tryd.prog 55 = 6 := by kernel_rfl
theorem cz55 : Tryd.prog.cellsOf 55 = 6 := by kernel_rfl
theorem ok55 : okT Tryd.prog 55 = true := by kernel_rfl
theorem ze55 : zeroOf Tryd.prog 55 = .agg [.imm (.string ByteArray.empty), .imm (.string ByteArray.empty), .imm (.bool false), .imm (.int .i64 0), .imm (.int .i64 0), .imm (.int .i64 0)] := by kernel_rfl
theorem by55 : (∀ i, Tryd.prog.info? 55 = some i → i.bytes ≤ 256) = True := eq_true (small_of (by kernel_rfl))
theorem eg55 : Tryd.prog.eqGuardType Tryd.prog.depth 55 = false := by kernel_rfl
theorem sh55 : Tryd.prog.stoodInHeld 55 = false := by kernel_rfl
theorem ni55 : notInt (Tryd.prog.underlying 55) = True := eq_true (notInt_of (by kernel_rfl))
theorem sz56 : szOf Tryd.prog 56 = 6 := by kernel_rfl
theorem cz56 : Tryd.prog.cellsOf 56 = 6 := by kernel_rfl
theorem ok56 : okT Tryd.prog 56 = true := by kernel_rfl
theorem ze56 : zeroOf Tryd.prog 56 = .agg [.imm (.string ByteArray.empty), .imm (.string ByteArray.empty), .imm (.bool false), .imm (.int .i64 0), .imm (.int .i64 0), .imm (.int .i64 0)] := by kernel_rfl
theorem by56 : (∀ i, Tryd.prog.info? 56 = some i → i.bytes ≤ 256) = True := eq_true (small_of (by kernel_rfl))
theorem eg56 : Tryd.prog.eqGuardType Tryd.prog.depth 56 = false := by kernel_rfl
theorem sh56 : Tryd.prog.stoodInHeld 56 = false := by kernel_rfl
theorem ni56 : notInt (Tryd.prog.underlying 56) = True := eq_true (notInt_of (by kernel_rfl))
theorem sz57 : szOf Tryd.prog 57 = 4 := by kernel_rfl
theorem cz57 : Tryd.prog.cellsOf 57 = 4 := by kernel_rfl
theorem ok57 : okT Tryd.prog 57 = true := by kernel_rfl
theorem ze57 : zeroOf Tryd.prog 57 = .agg [.imm (.string ByteArray.empty), .imm (.int .i64 0), .imm (.bool false), .imm (.int .i64 0)] := by kernel_rfl
theorem by57 : (∀ i, Tryd.prog.info? 57 = some i → i.bytes ≤ 256) = True := eq_true (small_of (by kernel_rfl))
theorem eg57 : Tryd.prog.eqGuardType Tryd.prog.depth 57 = false := by kernel_rfl
theorem sh57 : Tryd.prog.stoodInHeld 57 = false := by kernel_rfl
theorem ni57 : notInt (Tryd.prog.underlying 57) = True := eq_true (notInt_of (by kernel_rfl))
theorem sz58 : szOf Tryd.prog 58 = 4 := by kernel_rfl
theorem cz58 : Tryd.prog.cellsOf 58 = 4 := by kernel_rfl
theorem ok58 : okT Tryd.prog 58 = true := by kernel_rfl
theorem ze58 : zeroOf Tryd.prog 58 = .agg [.imm (.string ByteArray.empty), .imm (.int .i64 0), .imm (.bool false), .imm (.int .i64 0)] := by kernel_rfl
theorem by58 : (∀ i, Tryd.prog.info? 58 = some i → i.bytes ≤ 256) = True := eq_true (small_of (by kernel_rfl))
theorem eg58 : Tryd.prog.eqGuardType Tryd.prog.depth 58 = false := by kernel_rfl
theorem sh58 : Tryd.prog.stoodInHeld 58 = false := by kernel_rfl
theorem ni58 : notInt (Tryd.prog.underlying 58) = True := eq_true (notInt_of (by kernel_rfl))
theorem sz60 : szOf Tryd.prog 60 = 1 := by kernel_rfl
theorem cz60 : Tryd.prog.cellsOf 60 = 1 := by kernel_rfl
theorem ok60 : okT Tryd.prog 60 = true := by kernel_rfl
theorem ze60 : zeroOf Tryd.prog 60 = .sl 0 true [] := by kernel_rfl
theorem by60 : (∀ i, Tryd.prog.info? 60 = some i → i.bytes ≤ 256) = True := eq_true (small_of (by kernel_rfl))
theorem ni60 : notInt (Tryd.prog.underlying 60) = True := eq_true (notInt_of (by kernel_rfl))
theorem sz62 : szOf Tryd.prog 62 = 1 := by kernel_rfl
theorem cz62 : Tryd.prog.cellsOf 62 = 1 := by kernel_rfl
theorem ok62 : okT Tryd.prog 62 = true := by kernel_rfl
theorem ze62 : zeroOf Tryd.prog 62 = .imm (.int .i64 0) := by kernel_rfl
theorem by62 : (∀ i, Tryd.prog.info? 62 = some i → i.bytes ≤ 256) = True := eq_true (small_of (by kernel_rfl))
theorem sz70 : szOf Tryd.prog 70 = 1 := by kernel_rfl
theorem cz70 : Tryd.prog.cellsOf 70 = 1 := by kernel_rfl
theorem ok70 : okT Tryd.prog 70 = true := by kernel_rfl
theorem ze70 : zeroOf Tryd.prog 70 = .sl 0 true [] := by kernel_rfl
theorem by70 : (∀ i, Tryd.prog.info? 70 = some i → i.bytes ≤ 256) = True := eq_true (small_of (by kernel_rfl))
theorem ni70 : notInt (Tryd.prog.underlying 70) = True := eq_true (notInt_of (by kernel_rfl))
theorem sz71 : szOf Tryd.prog 71 = 3 := by kernel_rfl
theorem cz71 : Tryd.prog.cellsOf 71 = 3 := by kernel_rfl
theorem ok71 : okT Tryd.prog 71 = true := by kernel_rfl
theorem ze71 : zeroOf Tryd.prog 71 = .agg [.imm (.string ByteArray.empty), .imm (.string ByteArray.empty), .sl 0 true []] := by kernel_rfl
theorem by71 : (∀ i, Tryd.prog.info? 71 = some i → i.bytes ≤ 256) = True := eq_true (small_of (by kernel_rfl))
theorem ni71 : notInt (Tryd.prog.underlying 71) = True := eq_true (notInt_of (by kernel_rfl))
theorem sz72 : szOf Tryd.prog 72 = 3 := by kernel_rfl
theorem cz72 : Tryd.prog.cellsOf 72 = 3 := by kernel_rfl
theorem ok72 : okT Tryd.prog 72 = true := by kernel_rfl
theorem ze72 : zeroOf Tryd.prog 72 = .agg [.imm (.string ByteArray.empty), .imm (.string ByteArray.empty), .sl 0 true []] := by kernel_rfl
theorem by72 : (∀ i, Tryd.prog.info? 72 = some i → i.bytes ≤ 256) = True := eq_true (small_of (by kernel_rfl))
theorem ni72 : notInt (Tryd.prog.underlying 72) = True := eq_true (notInt_of (by kernel_rfl))
theorem sz75 : szOf Tryd.prog 75 = 3 := by kernel_rfl
theorem cz75 : Tryd.prog.cellsOf 75 = 3 := by kernel_rfl
theorem ok75 : okT Tryd.prog 75 = true := by kernel_rfl
theorem ze75 : zeroOf Tryd.prog 75 = .agg [.sl 0 true [], .sl 0 true [], .sl 0 true []] := by kernel_rfl
theorem by75 : (∀ i, Tryd.prog.info? 75 = some i → i.bytes ≤ 256) = True := eq_true (small_of (by kernel_rfl))
theorem ni75 : notInt (Tryd.prog.underlying 75) = True := eq_true (notInt_of (by kernel_rfl))
theorem sz77 : szOf Tryd.prog 77 = 4 := by kernel_rfl
theorem cz77 : Tryd.prog.cellsOf 77 = 4 := by kernel_rfl
theorem ok77 : okT Tryd.prog 77 = true := by kernel_rfl
theorem ze77 : zeroOf Tryd.prog 77 = .agg [.imm (.bool false), .sl 0 true [], .sl 0 true [], .sl 0 true []] := by kernel_rfl
theorem by77 : (∀ i, Tryd.prog.info? 77 = some i → i.bytes ≤ 256) = True := eq_true (small_of (by kernel_rfl))
theorem ni77 : notInt (Tryd.prog.underlying 77) = True := eq_true (notInt_of (by kernel_rfl))
theorem sz78 : szOf Tryd.prog 78 = 1 := by kernel_rfl
theorem cz78 : Tryd.prog.cellsOf 78 = 1 := by kernel_rfl
theorem ok78 : okT Tryd.prog 78 = true := by kernel_rfl
theorem ze78 : zeroOf Tryd.prog 78 = .sl 0 true [] := by kernel_rfl
theorem by78 : (∀ i, Tryd.prog.info? 78 = some i → i.bytes ≤ 256) = True := eq_true (small_of (by kernel_rfl))
theorem ni78 : notInt (Tryd.prog.underlying 78) = True := eq_true (notInt_of (by kernel_rfl))
theorem sz79 : szOf Tryd.prog 79 = 1 := by kernel_rfl
theorem cz79 : Tryd.prog.cellsOf 79 = 1 := by kernel_rfl
theorem ok79 : okT Tryd.prog 79 = true := by kernel_rfl
theorem ze79 : zeroOf Tryd.prog 79 = .imm (.pointer none) := by kernel_rfl
theorem by79 : (∀ i, Tryd.prog.info? 79 = some i → i.bytes ≤ 256) = True := eq_true (small_of (by kernel_rfl))
theorem ni79 : notInt (Tryd.prog.underlying 79) = True := eq_true (notInt_of (by kernel_rfl))
theorem sz80 : szOf Tryd.prog 80 = 1 := by kernel_rfl
theorem cz80 : Tryd.prog.cellsOf 80 = 1 := by kernel_rfl
theorem ok80 : okT Tryd.prog 80 = true := by kernel_rfl
theorem ze80 : zeroOf Tryd.prog 80 = .agg [.imm (.string ByteArray.empty)] := by kernel_rfl
theorem by80 : (∀ i, Tryd.prog.info? 80 = some i → i.bytes ≤ 256) = True := eq_true (small_of (by kernel_rfl))
theorem eg80 : Tryd.prog.eqGuardType Tryd.prog.depth 80 = false := by kernel_rfl
theorem sh80 : Tryd.prog.stoodInHeld 80 = false := by kernel_rfl
theorem ni80 : notInt (Tryd.prog.underlying 80) = True := eq_true (notInt_of (by kernel_rfl))
theorem sz81 : szOf Tryd.prog 81 = 1 := by kernel_rfl
theorem cz81 : Tryd.prog.cellsOf 81 = 1 := by kernel_rfl
theorem ok81 : okT Tryd.prog 81 = true := by kernel_rfl
theorem ze81 : zeroOf Tryd.prog 81 = .agg [.imm (.string ByteArray.empty)] := by kernel_rfl
theorem by81 : (∀ i, Tryd.prog.info? 81 = some i → i.bytes ≤ 256) = True := eq_true (small_of (by kernel_rfl))
theorem eg81 : Tryd.prog.eqGuardType Tryd.prog.depth 81 = false := by kernel_rfl
theorem sh81 : Tryd.prog.stoodInHeld 81 = false := by kernel_rfl
theorem ni81 : notInt (Tryd.prog.underlying 81) = True := eq_true (notInt_of (by kernel_rfl))
theorem sz85 : szOf Tryd.prog 85 = 1 := by kernel_rfl
theorem cz85 : Tryd.prog.cellsOf 85 = 1 := by kernel_rfl
theorem ok85 : okT Tryd.prog 85 = true := by kernel_rfl
theorem ze85 : zeroOf Tryd.prog 85 = .imm (.pointer none) := by kernel_rfl
theorem by85 : (∀ i, Tryd.prog.info? 85 = some i → i.bytes ≤ 256) = True := eq_true (small_of (by kernel_rfl))
theorem ni85 : notInt (Tryd.prog.underlying 85) = True := eq_true (notInt_of (by kernel_rfl))
theorem sz86 : szOf Tryd.prog 86 = 2 := by kernel_rfl
theorem cz86 : Tryd.prog.cellsOf 86 = 2 := by kernel_rfl
theorem ok86 : okT Tryd.prog 86 = true := by kernel_rfl
theorem ze86 : zeroOf Tryd.prog 86 = .agg [.imm (.pointer none), .sl 0 true []] := by kernel_rfl
theorem by86 : (∀ i, Tryd.prog.info? 86 = some i → i.bytes ≤ 256) = True := eq_true (small_of (by kernel_rfl))
theorem ni86 : notInt (Tryd.prog.underlying 86) = True := eq_true (notInt_of (by kernel_rfl))
theorem sz87 : szOf Tryd.prog 87 = 2 := by kernel_rfl
theorem cz87 : Tryd.prog.cellsOf 87 = 2 := by kernel_rfl
theorem ok87 : okT Tryd.prog 87 = true := by kernel_rfl
theorem ze87 : zeroOf Tryd.prog 87 = .agg [.imm (.pointer none), .sl 0 true []] := by kernel_rfl
theorem by87 : (∀ i, Tryd.prog.info? 87 = some i → i.bytes ≤ 256) = True := eq_true (small_of (by kernel_rfl))
theorem ni87 : notInt (Tryd.prog.underlying 87) = True := eq_true (notInt_of (by kernel_rfl))
theorem sz88 : szOf Tryd.prog 88 = 1 := by kernel_rfl
theorem cz88 : Tryd.prog.cellsOf 88 = 1 := by kernel_rfl
theorem ok88 : okT Tryd.prog 88 = true := by kernel_rfl
theorem ze88 : zeroOf Tryd.prog 88 = .imm .nilIface := by kernel_rfl
theorem by88 : (∀ i, Tryd.prog.info? 88 = some i → i.bytes ≤ 256) = True := eq_true (small_of (by kernel_rfl))
theorem ni88 : notInt (Tryd.prog.underlying 88) = True := eq_true (notInt_of (by kernel_rfl))
theorem sz89 : szOf Tryd.prog 89 = 1 := by kernel_rfl
theorem cz89 : Tryd.prog.cellsOf 89 = 1 := by kernel_rfl
theorem ok89 : okT Tryd.prog 89 = true := by kernel_rfl
theorem ze89 : zeroOf Tryd.prog 89 = .imm .nilIface := by kernel_rfl
theorem by89 : (∀ i, Tryd.prog.info? 89 = some i → i.bytes ≤ 256) = True := eq_true (small_of (by kernel_rfl))
theorem ni89 : notInt (Tryd.prog.underlying 89) = True := eq_true (notInt_of (by kernel_rfl))
theorem sz95 : szOf Tryd.prog 95 = 6 := by kernel_rfl
theorem cz95 : Tryd.prog.cellsOf 95 = 6 := by kernel_rfl
theorem ok95 : okT Tryd.prog 95 = true := by kernel_rfl
theorem ze95 : zeroOf Tryd.prog 95 = .agg [.imm (.string ByteArray.empty), .imm (.string ByteArray.empty), .imm (.bool false), .imm (.int .i64 0), .imm (.int .i64 0), .imm (.int .i64 0)] := by kernel_rfl
theorem by95 : (∀ i, Tryd.prog.info? 95 = some i → i.bytes ≤ 256) = True := eq_true (small_of (by kernel_rfl))
theorem eg95 : Tryd.prog.eqGuardType Tryd.prog.depth 95 = false := by kernel_rfl
theorem sh95 : Tryd.prog.stoodInHeld 95 = false := by kernel_rfl
theorem ni95 : notInt (Tryd.prog.underlying 95) = True := eq_true (notInt_of (by kernel_rfl))
theorem sz96 : szOf Tryd.prog 96 = 4 := by kernel_rfl
theorem cz96 : Tryd.prog.cellsOf 96 = 4 := by kernel_rfl
theorem ok96 : okT Tryd.prog 96 = true := by kernel_rfl
theorem ze96 : zeroOf Tryd.prog 96 = .agg [.imm (.string ByteArray.empty), .imm (.int .i64 0), .imm (.bool false), .imm (.int .i64 0)] := by kernel_rfl
theorem by96 : (∀ i, Tryd.prog.info? 96 = some i → i.bytes ≤ 256) = True := eq_true (small_of (by kernel_rfl))
theorem eg96 : Tryd.prog.eqGuardType Tryd.prog.depth 96 = false := by kernel_rfl
theorem sh96 : Tryd.prog.stoodInHeld 96 = false := by kernel_rfl
theorem ni96 : notInt (Tryd.prog.underlying 96) = True := eq_true (notInt_of (by kernel_rfl))
theorem sz105 : szOf Tryd.prog 105 = 1 := by kernel_rfl
theorem cz105 : Tryd.prog.cellsOf 105 = 1 := by kernel_rfl
theorem ok105 : okT Tryd.prog 105 = true := by kernel_rfl
theorem ze105 : zeroOf Tryd.prog 105 = .sl 0 true [] := by kernel_rfl
theorem by105 : (∀ i, Tryd.prog.info? 105 = some i → i.bytes ≤ 256) = True := eq_true (small_of (by kernel_rfl))
theorem ni105 : notInt (Tryd.prog.underlying 105) = True := eq_true (notInt_of (by kernel_rfl))
theorem sz120 : szOf Tryd.prog 120 = 256 := by kernel_rfl
theorem cz120 : Tryd.prog.cellsOf 120 = 256 := by kernel_rfl
theorem ok120 : okT Tryd.prog 120 = true := by kernel_rfl
theorem by120 : (∀ i, Tryd.prog.info? 120 = some i → i.bytes ≤ 256) = True := eq_true (small_of (by kernel_rfl))
theorem eg120 : Tryd.prog.eqGuardType Tryd.prog.depth 120 = false := by kernel_rfl
theorem sh120 : Tryd.prog.stoodInHeld 120 = false := by kernel_rfl
theorem ni120 : notInt (Tryd.prog.underlying 120) = True := eq_true (notInt_of (by kernel_rfl))
theorem sz121 : szOf Tryd.prog 121 = 256 := by kernel_rfl
theorem cz121 : Tryd.prog.cellsOf 121 = 256 := by kernel_rfl
theorem ok121 : okT Tryd.prog 121 = true := by kernel_rfl
theorem by121 : (∀ i, Tryd.prog.info? 121 = some i → i.bytes ≤ 256) = True := eq_true (small_of (by kernel_rfl))
theorem eg121 : Tryd.prog.eqGuardType Tryd.prog.depth 121 = false := by kernel_rfl
theorem sh121 : Tryd.prog.stoodInHeld 121 = false := by kernel_rfl
theorem ni121 : notInt (Tryd.prog.underlying 121) = True := eq_true (notInt_of (by kernel_rfl))
theorem sz125 : szOf Tryd.prog 125 = 1 := by kernel_rfl
theorem cz125 : Tryd.prog.cellsOf 125 = 1 := by kernel_rfl
theorem ok125 : okT Tryd.prog 125 = true := by kernel_rfl
theorem ze125 : zeroOf Tryd.prog 125 = .imm (.pointer none) := by kernel_rfl
theorem by125 : (∀ i, Tryd.prog.info? 125 = some i → i.bytes ≤ 256) = True := eq_true (small_of (by kernel_rfl))
theorem ni125 : notInt (Tryd.prog.underlying 125) = True := eq_true (notInt_of (by kernel_rfl))
theorem sz133 : szOf Tryd.prog 133 = 1 := by kernel_rfl
theorem cz133 : Tryd.prog.cellsOf 133 = 1 := by kernel_rfl
theorem ok133 : okT Tryd.prog 133 = true := by kernel_rfl
theorem ze133 : zeroOf Tryd.prog 133 = .imm (.int .u64 0) := by kernel_rfl
theorem by133 : (∀ i, Tryd.prog.info? 133 = some i → i.bytes ≤ 256) = True := eq_true (small_of (by kernel_rfl))
theorem sz134 : szOf Tryd.prog 134 = 1 := by kernel_rfl
theorem cz134 : Tryd.prog.cellsOf 134 = 1 := by kernel_rfl
theorem ok134 : okT Tryd.prog 134 = true := by kernel_rfl
theorem ze134 : zeroOf Tryd.prog 134 = .imm (.pointer none) := by kernel_rfl
theorem by134 : (∀ i, Tryd.prog.info? 134 = some i → i.bytes ≤ 256) = True := eq_true (small_of (by kernel_rfl))
theorem ni134 : notInt (Tryd.prog.underlying 134) = True := eq_true (notInt_of (by kernel_rfl))
theorem sz164 : szOf Tryd.prog 164 = 1 := by kernel_rfl
theorem cz164 : Tryd.prog.cellsOf 164 = 1 := by kernel_rfl
theorem ok164 : okT Tryd.prog 164 = true := by kernel_rfl
theorem ze164 : zeroOf Tryd.prog 164 = .imm (.pointer none) := by kernel_rfl
theorem by164 : (∀ i, Tryd.prog.info? 164 = some i → i.bytes ≤ 256) = True := eq_true (small_of (by kernel_rfl))
theorem ni164 : notInt (Tryd.prog.underlying 164) = True := eq_true (notInt_of (by kernel_rfl))
theorem sz169 : szOf Tryd.prog 169 = 1 := by kernel_rfl
theorem cz169 : Tryd.prog.cellsOf 169 = 1 := by kernel_rfl
theorem ok169 : okT Tryd.prog 169 = true := by kernel_rfl
theorem ze169 : zeroOf Tryd.prog 169 = .imm (.int .u64 0) := by kernel_rfl
theorem by169 : (∀ i, Tryd.prog.info? 169 = some i → i.bytes ≤ 256) = True := eq_true (small_of (by kernel_rfl))
theorem sz171 : szOf Tryd.prog 171 = 3 := by kernel_rfl
theorem cz171 : Tryd.prog.cellsOf 171 = 3 := by kernel_rfl
theorem ok171 : okT Tryd.prog 171 = true := by kernel_rfl
theorem ze171 : zeroOf Tryd.prog 171 = .agg [.imm (.int .i32 0), .imm (.int .i32 0), .imm (.int .i32 0)] := by kernel_rfl
theorem by171 : (∀ i, Tryd.prog.info? 171 = some i → i.bytes ≤ 256) = True := eq_true (small_of (by kernel_rfl))
theorem eg171 : Tryd.prog.eqGuardType Tryd.prog.depth 171 = false := by kernel_rfl
theorem sh171 : Tryd.prog.stoodInHeld 171 = false := by kernel_rfl
theorem ni171 : notInt (Tryd.prog.underlying 171) = True := eq_true (notInt_of (by kernel_rfl))
theorem sz178 : szOf Tryd.prog 178 = 256 := by kernel_rfl
theorem cz178 : Tryd.prog.cellsOf 178 = 256 := by kernel_rfl
theorem ok178 : okT Tryd.prog 178 = true := by kernel_rfl
theorem by178 : (∀ i, Tryd.prog.info? 178 = some i → i.bytes ≤ 256) = True := eq_true (small_of (by kernel_rfl))
theorem eg178 : Tryd.prog.eqGuardType Tryd.prog.depth 178 = false := by kernel_rfl
theorem sh178 : Tryd.prog.stoodInHeld 178 = false := by kernel_rfl
theorem ni178 : notInt (Tryd.prog.underlying 178) = True := eq_true (notInt_of (by kernel_rfl))
theorem sz179 : szOf Tryd.prog 179 = 2 := by kernel_rfl
theorem cz179 : Tryd.prog.cellsOf 179 = 2 := by kernel_rfl
theorem ok179 : okT Tryd.prog 179 = true := by kernel_rfl
theorem ze179 : zeroOf Tryd.prog 179 = .agg [.imm (.int .u8 0), .imm (.int .u8 0)] := by kernel_rfl
theorem by179 : (∀ i, Tryd.prog.info? 179 = some i → i.bytes ≤ 256) = True := eq_true (small_of (by kernel_rfl))
theorem eg179 : Tryd.prog.eqGuardType Tryd.prog.depth 179 = false := by kernel_rfl
theorem sh179 : Tryd.prog.stoodInHeld 179 = false := by kernel_rfl
theorem ni179 : notInt (Tryd.prog.underlying 179) = True := eq_true (notInt_of (by kernel_rfl))
theorem sz180 : szOf Tryd.prog 180 = 2 := by kernel_rfl
theorem cz180 : Tryd.prog.cellsOf 180 = 2 := by kernel_rfl
theorem ok180 : okT Tryd.prog 180 = true := by kernel_rfl
theorem ze180 : zeroOf Tryd.prog 180 = .agg [.imm (.int .u8 0), .imm (.int .u8 0)] := by kernel_rfl
theorem by180 : (∀ i, Tryd.prog.info? 180 = some i → i.bytes ≤ 256) = True := eq_true (small_of (by kernel_rfl))
theorem eg180 : Tryd.prog.eqGuardType Tryd.prog.depth 180 = false := by kernel_rfl
theorem sh180 : Tryd.prog.stoodInHeld 180 = false := by kernel_rfl
theorem ni180 : notInt (Tryd.prog.underlying 180) = True := eq_true (notInt_of (by kernel_rfl))
theorem sz181 : szOf Tryd.prog 181 = 32 := by kernel_rfl
theorem cz181 : Tryd.prog.cellsOf 181 = 32 := by kernel_rfl
theorem ok181 : okT Tryd.prog 181 = true := by kernel_rfl
theorem ze181 : zeroOf Tryd.prog 181 = .agg [.imm (.int .u8 0), .imm (.int .u8 0), .imm (.int .u8 0), .imm (.int .u8 0), .imm (.int .u8 0), .imm (.int .u8 0), .imm (.int .u8 0), .imm (.int .u8 0), .imm (.int .u8 0), .imm (.int .u8 0), .imm (.int .u8 0), .imm (.int .u8 0), .imm (.int .u8 0), .imm (.int .u8 0), .imm (.int .u8 0), .imm (.int .u8 0), .imm (.int .u8 0), .imm (.int .u8 0), .imm (.int .u8 0), .imm (.int .u8 0), .imm (.int .u8 0), .imm (.int .u8 0), .imm (.int .u8 0), .imm (.int .u8 0), .imm (.int .u8 0), .imm (.int .u8 0), .imm (.int .u8 0), .imm (.int .u8 0), .imm (.int .u8 0), .imm (.int .u8 0), .imm (.int .u8 0), .imm (.int .u8 0)] := by kernel_rfl
theorem by181 : (∀ i, Tryd.prog.info? 181 = some i → i.bytes ≤ 256) = True := eq_true (small_of (by kernel_rfl))
theorem eg181 : Tryd.prog.eqGuardType Tryd.prog.depth 181 = false := by kernel_rfl
theorem sh181 : Tryd.prog.stoodInHeld 181 = false := by kernel_rfl
theorem ni181 : notInt (Tryd.prog.underlying 181) = True := eq_true (notInt_of (by kernel_rfl))
theorem sz184 : szOf Tryd.prog 184 = 1 := by kernel_rfl
theorem cz184 : Tryd.prog.cellsOf 184 = 1 := by kernel_rfl
theorem ok184 : okT Tryd.prog 184 = true := by kernel_rfl
theorem ze184 : zeroOf Tryd.prog 184 = .imm (.int .u32 0) := by kernel_rfl
theorem by184 : (∀ i, Tryd.prog.info? 184 = some i → i.bytes ≤ 256) = True := eq_true (small_of (by kernel_rfl))
theorem sz187 : szOf Tryd.prog 187 = 4 := by kernel_rfl
theorem cz187 : Tryd.prog.cellsOf 187 = 4 := by kernel_rfl
theorem ok187 : okT Tryd.prog 187 = true := by kernel_rfl
theorem ze187 : zeroOf Tryd.prog 187 = .agg [.imm (.pointer none), .imm (.pointer none), .imm (.pointer none), .imm (.string ByteArray.empty)] := by kernel_rfl
theorem by187 : (∀ i, Tryd.prog.info? 187 = some i → i.bytes ≤ 256) = True := eq_true (small_of (by kernel_rfl))
theorem ni187 : notInt (Tryd.prog.underlying 187) = True := eq_true (notInt_of (by kernel_rfl))
theorem sz188 : szOf Tryd.prog 188 = 4 := by kernel_rfl
theorem cz188 : Tryd.prog.cellsOf 188 = 4 := by kernel_rfl
theorem ok188 : okT Tryd.prog 188 = true := by kernel_rfl
theorem ze188 : zeroOf Tryd.prog 188 = .agg [.imm (.pointer none), .imm (.pointer none), .imm (.pointer none), .imm (.string ByteArray.empty)] := by kernel_rfl
theorem by188 : (∀ i, Tryd.prog.info? 188 = some i → i.bytes ≤ 256) = True := eq_true (small_of (by kernel_rfl))
theorem ni188 : notInt (Tryd.prog.underlying 188) = True := eq_true (notInt_of (by kernel_rfl))
theorem sz189 : szOf Tryd.prog 189 = 0 := by kernel_rfl
theorem cz189 : Tryd.prog.cellsOf 189 = 0 := by kernel_rfl
theorem ok189 : okT Tryd.prog 189 = true := by kernel_rfl
theorem ze189 : zeroOf Tryd.prog 189 = .agg [] := by kernel_rfl
theorem by189 : (∀ i, Tryd.prog.info? 189 = some i → i.bytes ≤ 256) = True := eq_true (small_of (by kernel_rfl))
theorem ni189 : notInt (Tryd.prog.underlying 189) = True := eq_true (notInt_of (by kernel_rfl))
theorem sz190 : szOf Tryd.prog 190 = 0 := by kernel_rfl
theorem cz190 : Tryd.prog.cellsOf 190 = 0 := by kernel_rfl
theorem ok190 : okT Tryd.prog 190 = true := by kernel_rfl
theorem ze190 : zeroOf Tryd.prog 190 = .agg [] := by kernel_rfl
theorem by190 : (∀ i, Tryd.prog.info? 190 = some i → i.bytes ≤ 256) = True := eq_true (small_of (by kernel_rfl))
theorem ni190 : notInt (Tryd.prog.underlying 190) = True := eq_true (notInt_of (by kernel_rfl))
theorem sz191 : szOf Tryd.prog 191 = 0 := by kernel_rfl
theorem cz191 : Tryd.prog.cellsOf 191 = 0 := by kernel_rfl
theorem ok191 : okT Tryd.prog 191 = true := by kernel_rfl
theorem ze191 : zeroOf Tryd.prog 191 = .agg [] := by kernel_rfl
theorem by191 : (∀ i, Tryd.prog.info? 191 = some i → i.bytes ≤ 256) = True := eq_true (small_of (by kernel_rfl))
theorem ni191 : notInt (Tryd.prog.underlying 191) = True := eq_true (notInt_of (by kernel_rfl))
theorem sz193 : szOf Tryd.prog 193 = 1 := by kernel_rfl
theorem cz193 : Tryd.prog.cellsOf 193 = 1 := by kernel_rfl
theorem ok193 : okT Tryd.prog 193 = true := by kernel_rfl
theorem ze193 : zeroOf Tryd.prog 193 = .imm (.int .u8 0) := by kernel_rfl
theorem by193 : (∀ i, Tryd.prog.info? 193 = some i → i.bytes ≤ 256) = True := eq_true (small_of (by kernel_rfl))
theorem sz194 : szOf Tryd.prog 194 = 1 := by kernel_rfl
theorem cz194 : Tryd.prog.cellsOf 194 = 1 := by kernel_rfl
theorem ok194 : okT Tryd.prog 194 = true := by kernel_rfl
theorem ze194 : zeroOf Tryd.prog 194 = .imm (.int .u8 0) := by kernel_rfl
theorem by194 : (∀ i, Tryd.prog.info? 194 = some i → i.bytes ≤ 256) = True := eq_true (small_of (by kernel_rfl))
theorem sz196 : szOf Tryd.prog 196 = 1 := by kernel_rfl
theorem cz196 : Tryd.prog.cellsOf 196 = 1 := by kernel_rfl
theorem ok196 : okT Tryd.prog 196 = true := by kernel_rfl
theorem ze196 : zeroOf Tryd.prog 196 = .imm (.int .i32 0) := by kernel_rfl
theorem by196 : (∀ i, Tryd.prog.info? 196 = some i → i.bytes ≤ 256) = True := eq_true (small_of (by kernel_rfl))
theorem sz197 : szOf Tryd.prog 197 = 1 := by kernel_rfl
theorem cz197 : Tryd.prog.cellsOf 197 = 1 := by kernel_rfl
theorem ok197 : okT Tryd.prog 197 = true := by kernel_rfl
theorem ze197 : zeroOf Tryd.prog 197 = .imm (.int .i32 0) := by kernel_rfl
theorem by197 : (∀ i, Tryd.prog.info? 197 = some i → i.bytes ≤ 256) = True := eq_true (small_of (by kernel_rfl))
theorem sz198 : szOf Tryd.prog 198 = 11 := by kernel_rfl
theorem cz198 : Tryd.prog.cellsOf 198 = 11 := by kernel_rfl
theorem ok198 : okT Tryd.prog 198 = true := by kernel_rfl
theorem ze198 : zeroOf Tryd.prog 198 = .agg [.imm (.int .u64 0), .imm (.int .u64 0), .imm (.int .u32 0), .imm (.int .u8 0), .imm (.int .u8 0), .imm (.int .u8 0), .imm (.int .u8 0), .imm .nilFunc, .imm (.pointer none), .imm (.int .i32 0), .imm (.int .i32 0)] := by kernel_rfl
theorem by198 : (∀ i, Tryd.prog.info? 198 = some i → i.bytes ≤ 256) = True := eq_true (small_of (by kernel_rfl))
theorem ni198 : notInt (Tryd.prog.underlying 198) = True := eq_true (notInt_of (by kernel_rfl))
theorem sz199 : szOf Tryd.prog 199 = 11 := by kernel_rfl
theorem cz199 : Tryd.prog.cellsOf 199 = 11 := by kernel_rfl
theorem ok199 : okT Tryd.prog 199 = true := by kernel_rfl
theorem ze199 : zeroOf Tryd.prog 199 = .agg [.imm (.int .u64 0), .imm (.int .u64 0), .imm (.int .u32 0), .imm (.int .u8 0), .imm (.int .u8 0), .imm (.int .u8 0), .imm (.int .u8 0), .imm .nilFunc, .imm (.pointer none), .imm (.int .i32 0), .imm (.int .i32 0)] := by kernel_rfl
theorem by199 : (∀ i, Tryd.prog.info? 199 = some i → i.bytes ≤ 256) = True := eq_true (small_of (by kernel_rfl))
theorem ni199 : notInt (Tryd.prog.underlying 199) = True := eq_true (notInt_of (by kernel_rfl))
theorem rs0 : Tryd.f0.results.toList = [] := by kernel_rfl
theorem rs1 : Tryd.f1.results.toList = [] := by kernel_rfl
theorem rs2 : Tryd.f2.results.toList = [] := by kernel_rfl
theorem rs3 : Tryd.f3.results.toList = [.tmp 6] := by kernel_rfl
theorem rs4 : Tryd.f4.results.toList = [.tmp 4] := by kernel_rfl
theorem rs5 : Tryd.f5.results.toList = [.tmp 6] := by kernel_rfl
theorem rs6 : Tryd.f6.results.toList = [.tmp 2] := by kernel_rfl
theorem rs7 : Tryd.f7.results.toList = [.tmp 6] := by kernel_rfl
theorem rs8 : Tryd.f8.results.toList = [.tmp 2] := by kernel_rfl
theorem rs9 : Tryd.f9.results.toList = [.tmp 2] := by kernel_rfl
theorem rs10 : Tryd.f10.results.toList = [.tmp 4] := by kernel_rfl
theorem rs11 : Tryd.f11.results.toList = [.tmp 2] := by kernel_rfl
theorem rs12 : Tryd.f12.results.toList = [.tmp 8] := by kernel_rfl
theorem rs13 : Tryd.f13.results.toList = [.tmp 8] := by kernel_rfl
theorem rs14 : Tryd.f14.results.toList = [.tmp 2] := by kernel_rfl
theorem rs15 : Tryd.f15.results.toList = [.tmp 4] := by kernel_rfl
theorem rs16 : Tryd.f16.results.toList = [.tmp 2, .tmp 3] := by kernel_rfl
theorem rs17 : Tryd.f17.results.toList = [.tmp 2, .tmp 3] := by kernel_rfl
theorem rs18 : Tryd.f18.results.toList = [.tmp 2] := by kernel_rfl
theorem rs19 : Tryd.f19.results.toList = [.tmp 2] := by kernel_rfl
theorem rs20 : Tryd.f20.results.toList = [.tmp 2, .tmp 3] := by kernel_rfl
theorem rs21 : Tryd.f21.results.toList = [.tmp 2, .tmp 3] := by kernel_rfl
theorem rs22 : Tryd.f22.results.toList = [.tmp 8] := by kernel_rfl
theorem rs23 : Tryd.f23.results.toList = [.tmp 8] := by kernel_rfl
theorem rs24 : Tryd.f24.results.toList = [.tmp 2] := by kernel_rfl
theorem rs25 : Tryd.f25.results.toList = [.tmp 2, .tmp 3] := by kernel_rfl
theorem rs26 : Tryd.f26.results.toList = [.tmp 4] := by kernel_rfl
theorem rs27 : Tryd.f27.results.toList = [.tmp 2] := by kernel_rfl
theorem rs28 : Tryd.f28.results.toList = [.tmp 2, .tmp 3] := by kernel_rfl
theorem rs29 : Tryd.f29.results.toList = [.cell 2 72] := by kernel_rfl
theorem rs30 : Tryd.f30.results.toList = [.tmp 4] := by kernel_rfl
theorem rs31 : Tryd.f31.results.toList = [.tmp 4] := by kernel_rfl
theorem rs32 : Tryd.f32.results.toList = [.tmp 4] := by kernel_rfl
theorem rs33 : Tryd.f33.results.toList = [.tmp 2, .tmp 3] := by kernel_rfl
theorem rs34 : Tryd.f34.results.toList = [.tmp 2, .tmp 3, .tmp 4] := by kernel_rfl
theorem rs35 : Tryd.f35.results.toList = [.tmp 4] := by kernel_rfl
theorem rs36 : Tryd.f36.results.toList = [.tmp 2] := by kernel_rfl
theorem rs37 : Tryd.f37.results.toList = [.tmp 4, .tmp 5] := by kernel_rfl
theorem rs38 : Tryd.f38.results.toList = [.tmp 2] := by kernel_rfl
theorem rs39 : Tryd.f39.results.toList = [.tmp 2] := by kernel_rfl
theorem rs40 : Tryd.f40.results.toList = [.tmp 2] := by kernel_rfl
theorem rs41 : Tryd.f41.results.toList = [.tmp 2] := by kernel_rfl
theorem rs42 : Tryd.f42.results.toList = [.tmp 2] := by kernel_rfl
theorem rs43 : Tryd.f43.results.toList = [.tmp 7] := by kernel_rfl
theorem rs44 : Tryd.f44.results.toList = [.tmp 4] := by kernel_rfl
theorem rs45 : Tryd.f45.results.toList = [.tmp 6] := by kernel_rfl
theorem rs46 : Tryd.f46.results.toList = [.tmp 4] := by kernel_rfl
theorem rs47 : Tryd.f47.results.toList = [.tmp 6] := by kernel_rfl
theorem rs48 : Tryd.f48.results.toList = [.tmp 2] := by kernel_rfl
theorem rs49 : Tryd.f49.results.toList = [.tmp 2] := by kernel_rfl
theorem rs50 : Tryd.f50.results.toList = [.tmp 6] := by kernel_rfl
theorem rs51 : Tryd.f51.results.toList = [.tmp 2] := by kernel_rfl
theorem rs52 : Tryd.f52.results.toList = [.tmp 2] := by kernel_rfl
theorem rs53 : Tryd.f53.results.toList = [.tmp 4] := by kernel_rfl
theorem rs54 : Tryd.f54.results.toList = [.cell 2 108, .tmp 3] := by kernel_rfl
theorem rs55 : Tryd.f55.results.toList = [.tmp 4] := by kernel_rfl
theorem rs56 : Tryd.f56.results.toList = [.tmp 4] := by kernel_rfl
theorem rs57 : Tryd.f57.results.toList = [.cell 2 34, .tmp 3] := by kernel_rfl
theorem rs58 : Tryd.f58.results.toList = [.tmp 4] := by kernel_rfl
theorem rs59 : Tryd.f59.results.toList = [.tmp 2] := by kernel_rfl
theorem rs60 : Tryd.f60.results.toList = [.tmp 3] := by kernel_rfl
theorem rs61 : Tryd.f61.results.toList = [.cell 2 56] := by kernel_rfl
theorem rs62 : Tryd.f62.results.toList = [.tmp 4] := by kernel_rfl
theorem rs63 : Tryd.f63.results.toList = [.cell 2 72] := by kernel_rfl
theorem rs64 : Tryd.f64.results.toList = [.tmp 4] := by kernel_rfl
theorem rs65 : Tryd.f65.results.toList = [.tmp 4] := by kernel_rfl
theorem rs66 : Tryd.f66.results.toList = [.cell 2 121, .tmp 3] := by kernel_rfl
theorem rs67 : Tryd.f67.results.toList = [.tmp 4] := by kernel_rfl
theorem rs68 : Tryd.f68.results.toList = [.tmp 4] := by kernel_rfl
theorem rs69 : Tryd.f69.results.toList = [.tmp 4] := by kernel_rfl
theorem rs70 : Tryd.f70.results.toList = [.tmp 4] := by kernel_rfl
theorem rs71 : Tryd.f71.results.toList = [.tmp 4] := by kernel_rfl
theorem rs72 : Tryd.f72.results.toList = [.tmp 2, .tmp 3] := by kernel_rfl
theorem rs73 : Tryd.f73.results.toList = [.tmp 4, .tmp 5] := by kernel_rfl
theorem rs74 : Tryd.f74.results.toList = [.tmp 4] := by kernel_rfl
theorem rs75 : Tryd.f75.results.toList = [.tmp 2, .tmp 3] := by kernel_rfl
theorem rs76 : Tryd.f76.results.toList = [.tmp 2, .tmp 3] := by kernel_rfl
theorem rs77 : Tryd.f77.results.toList = [] := by kernel_rfl
theorem rs78 : Tryd.f78.results.toList = [.tmp 4] := by kernel_rfl
theorem rs79 : Tryd.f79.results.toList = [.tmp 2] := by kernel_rfl
theorem rs80 : Tryd.f80.results.toList = [.tmp 4] := by kernel_rfl
theorem rs81 : Tryd.f81.results.toList = [.tmp 2] := by kernel_rfl
theorem rs82 : Tryd.f82.results.toList = [.tmp 2] := by kernel_rfl
theorem rs83 : Tryd.f83.results.toList = [] := by kernel_rfl
theorem rs84 : Tryd.f84.results.toList = [.cell 4 108, .tmp 5] := by kernel_rfl
theorem rs85 : Tryd.f85.results.toList = [] := by kernel_rfl
theorem rs86 : Tryd.f86.results.toList = [.tmp 2, .tmp 3] := by kernel_rfl
theorem rs87 : Tryd.f87.results.toList = [.tmp 2, .tmp 3] := by kernel_rfl
theorem rs88 : Tryd.f88.results.toList = [.tmp 2] := by kernel_rfl
theorem rs89 : Tryd.f89.results.toList = [.tmp 2] := by kernel_rfl
theorem rs90 : Tryd.f90.results.toList = [.tmp 2] := by kernel_rfl
theorem rs91 : Tryd.f91.results.toList = [.tmp 4] := by kernel_rfl
theorem rs92 : Tryd.f92.results.toList = [.tmp 2] := by kernel_rfl
theorem rs93 : Tryd.f93.results.toList = [.tmp 3] := by kernel_rfl
theorem rs94 : Tryd.f94.results.toList = [.tmp 4, .tmp 5] := by kernel_rfl
theorem rs95 : Tryd.f95.results.toList = [.tmp 5] := by kernel_rfl
theorem rs96 : Tryd.f96.results.toList = [.cell 4 72, .tmp 5] := by kernel_rfl
theorem rs97 : Tryd.f97.results.toList = [.tmp 2, .tmp 3] := by kernel_rfl
theorem rs98 : Tryd.f98.results.toList = [.tmp 6] := by kernel_rfl
theorem rs99 : Tryd.f99.results.toList = [.cell 4 72] := by kernel_rfl
theorem rs100 : Tryd.f100.results.toList = [] := by kernel_rfl
theorem rs101 : Tryd.f101.results.toList = [.tmp 2] := by kernel_rfl
theorem rs102 : Tryd.f102.results.toList = [.tmp 4] := by kernel_rfl
theorem rs103 : Tryd.f103.results.toList = [.tmp 2, .tmp 3] := by kernel_rfl
theorem rs104 : Tryd.f104.results.toList = [.tmp 4] := by kernel_rfl
theorem rs105 : Tryd.f105.results.toList = [.tmp 2, .tmp 3] := by kernel_rfl
theorem rs106 : Tryd.f106.results.toList = [.tmp 4, .tmp 5] := by kernel_rfl
theorem rs107 : Tryd.f107.results.toList = [.tmp 2] := by kernel_rfl
theorem rs108 : Tryd.f108.results.toList = [.tmp 2] := by kernel_rfl
theorem rs109 : Tryd.f109.results.toList = [.tmp 2] := by kernel_rfl
theorem rs110 : Tryd.f110.results.toList = [.tmp 2] := by kernel_rfl
theorem rs111 : Tryd.f111.results.toList = [.tmp 2] := by kernel_rfl
theorem rs112 : Tryd.f112.results.toList = [.tmp 2, .tmp 3] := by kernel_rfl
theorem rs113 : Tryd.f113.results.toList = [.tmp 4] := by kernel_rfl
theorem rs114 : Tryd.f114.results.toList = [.tmp 4] := by kernel_rfl
theorem rs115 : Tryd.f115.results.toList = [.tmp 2, .tmp 3] := by kernel_rfl
theorem rs116 : Tryd.f116.results.toList = [.tmp 2] := by kernel_rfl
theorem rs117 : Tryd.f117.results.toList = [] := by kernel_rfl
theorem rs118 : Tryd.f118.results.toList = [.tmp 4] := by kernel_rfl
theorem rs119 : Tryd.f119.results.toList = [.tmp 2] := by kernel_rfl
theorem rs120 : Tryd.f120.results.toList = [] := by kernel_rfl
theorem rs121 : Tryd.f121.results.toList = [.cell 4 108, .tmp 5] := by kernel_rfl
theorem rs122 : Tryd.f122.results.toList = [.cell 4 108, .tmp 5] := by kernel_rfl
theorem rs123 : Tryd.f123.results.toList = [.cell 2 108, .tmp 3] := by kernel_rfl
theorem rs124 : Tryd.f124.results.toList = [.tmp 4] := by kernel_rfl
theorem rs125 : Tryd.f125.results.toList = [.tmp 4] := by kernel_rfl
theorem rs126 : Tryd.f126.results.toList = [.tmp 2] := by kernel_rfl
theorem rs127 : Tryd.f127.results.toList = [.tmp 2] := by kernel_rfl
theorem rs128 : Tryd.f128.results.toList = [.tmp 2, .tmp 3] := by kernel_rfl
theorem rs129 : Tryd.f129.results.toList = [.tmp 2] := by kernel_rfl
theorem rs130 : Tryd.f130.results.toList = [.tmp 2] := by kernel_rfl
theorem rs131 : Tryd.f131.results.toList = [.tmp 4] := by kernel_rfl
theorem rs132 : Tryd.f132.results.toList = [.tmp 2, .tmp 3] := by kernel_rfl
theorem rs133 : Tryd.f133.results.toList = [.tmp 4] := by kernel_rfl
theorem rs134 : Tryd.f134.results.toList = [.tmp 2] := by kernel_rfl
theorem rs135 : Tryd.f135.results.toList = [.tmp 4, .tmp 5] := by kernel_rfl
theorem rs136 : Tryd.f136.results.toList = [.tmp 2, .tmp 3] := by kernel_rfl
theorem rs137 : Tryd.f137.results.toList = [.tmp 2] := by kernel_rfl
theorem rs138 : Tryd.f138.results.toList = [.tmp 4] := by kernel_rfl
theorem rs139 : Tryd.f139.results.toList = [.tmp 2] := by kernel_rfl
theorem rs140 : Tryd.f140.results.toList = [.tmp 2] := by kernel_rfl
theorem rs141 : Tryd.f141.results.toList = [.tmp 2] := by kernel_rfl
theorem rs142 : Tryd.f142.results.toList = [] := by kernel_rfl
theorem rs143 : Tryd.f143.results.toList = [.tmp 6] := by kernel_rfl
theorem rs144 : Tryd.f144.results.toList = [.tmp 3] := by kernel_rfl
theorem rs145 : Tryd.f145.results.toList = [.tmp 3] := by kernel_rfl
theorem rs146 : Tryd.f146.results.toList = [.tmp 5] := by kernel_rfl
theorem rs147 : Tryd.f147.results.toList = [.tmp 2] := by kernel_rfl
theorem rs148 : Tryd.f148.results.toList = [.tmp 4, .tmp 5, .tmp 6] := by kernel_rfl
theorem rs149 : Tryd.f149.results.toList = [.tmp 2, .tmp 3] := by kernel_rfl
theorem rs150 : Tryd.f150.results.toList = [.tmp 4] := by kernel_rfl
theorem rs151 : Tryd.f151.results.toList = [.tmp 2] := by kernel_rfl
theorem rs152 : Tryd.f152.results.toList = [.tmp 2] := by kernel_rfl
theorem rs153 : Tryd.f153.results.toList = [] := by kernel_rfl
theorem rs154 : Tryd.f154.results.toList = [.tmp 2, .tmp 3] := by kernel_rfl
theorem rs155 : Tryd.f155.results.toList = [] := by kernel_rfl
theorem rs156 : Tryd.f156.results.toList = [.tmp 4, .tmp 5, .tmp 6] := by kernel_rfl
theorem rs157 : Tryd.f157.results.toList = [.tmp 4] := by kernel_rfl
theorem rs158 : Tryd.f158.results.toList = [.tmp 4] := by kernel_rfl
theorem rs159 : Tryd.f159.results.toList = [.tmp 2, .tmp 3] := by kernel_rfl
theorem rs160 : Tryd.f160.results.toList = [] := by kernel_rfl
theorem rs161 : Tryd.f161.results.toList = [] := by kernel_rfl
theorem rs162 : Tryd.f162.results.toList = [] := by kernel_rfl
theorem rs163 : Tryd.f163.results.toList = [] := by kernel_rfl
theorem rs164 : Tryd.f164.results.toList = [] := by kernel_rfl
theorem rs165 : Tryd.f165.results.toList = [] := by kernel_rfl
theorem rs166 : Tryd.f166.results.toList = [] := by kernel_rfl
theorem rs167 : Tryd.f167.results.toList = [] := by kernel_rfl
theorem rs168 : Tryd.f168.results.toList = [] := by kernel_rfl
theorem rs169 : Tryd.f169.results.toList = [] := by kernel_rfl
theorem rs170 : Tryd.f170.results.toList = [] := by kernel_rfl
theorem rs171 : Tryd.f171.results.toList = [] := by kernel_rfl
theorem rs172 : Tryd.f172.results.toList = [] := by kernel_rfl
theorem rs173 : Tryd.f173.results.toList = [] := by kernel_rfl
theorem rs174 : Tryd.f174.results.toList = [] := by kernel_rfl
theorem rs175 : Tryd.f175.results.toList = [] := by kernel_rfl
theorem rs176 : Tryd.f176.results.toList = [] := by kernel_rfl
theorem rs177 : Tryd.f177.results.toList = [] := by kernel_rfl
theorem rs178 : Tryd.f178.results.toList = [] := by kernel_rfl
theorem rs179 : Tryd.f179.results.toList = [] := by kernel_rfl
theorem rs180 : Tryd.f180.results.toList = [] := by kernel_rfl
theorem rs181 : Tryd.f181.results.toList = [] := by kernel_rfl
theorem rs182 : Tryd.f182.results.toList = [] := by kernel_rfl
end Go.Proofs.YtjkfobmfddfjhaaDoorX

/- The laws that a run goes by. -/
namespace Go.Proofs.YtjkfobmfddfjhaaDoorX
open Go Go.RowKit Go.Proofs
attribute [go_sem ↓] stepsK_call drawK_call opW binXW eqW eqFs eqEs binV intW strW fieldW indexW extractW unW loadW loadP fieldAddrW indexAddrW endsW sliceW buildSliceW makeW convertW storeW newsW appendW elemsW nilW lenW min2W max2W builtinW ifaceW partW boolW_true boolW_false getD_j16 set_j16 rootsP
attribute [go_sem] endK_q endK_seq endK_seq_exit endK_seq_ret endK_blk endK_blk_ret endK_blk_exit roundsK_succ endK_lp endK_lp_exit endK_lp_ret runK_skip runK_exit runK_ret runK_seq runK_block runK_region runK_draw stepsK_nil callK callE stepsK_cons drawK_nil drawK_cons rootsK_nil rootsK_cons loopQ_normal loopQ_exit loopQ_ret loopC_normal loopC_exit loopC_ret loopK_normal loopK_exit loopK_ret St.keep keepL St.gc gcW deadK reachL refsT refsL refsO dropL Int.toNat_natCast St.cut List.range'_zero List.range'_succ lookS_at liteL dstsL gL St.is evalT ofVal ofVals St.after St.put St.upd
attribute [go_sem] St.eff quietE eOp effB trims trim setCells fillT fillE patchT isJunk leafT T.cells oneT RetQ resW retT St.lockAll Own.lockAll dsnap dsnapL snap closedT closedL rootsOf rootsO rootsA rootOf St.frzT St.frzL St.frz kill killL Own.kill aggD List.getD_cons_zero List.getD_cons_succ List.getD_nil List.set_cons_zero List.set_cons_succ List.set_nil List.flatMap_cons List.flatMap_nil List.append_nil List.nil_append List.cons_append List.map_cons List.map_nil List.filterMap_cons List.filterMap_nil List.find?_cons List.find?_nil List.getElem?_cons_zero List.getElem?_cons_succ List.getElem?_nil List.length_cons List.length_nil List.replicate List.contains_cons List.contains_nil
attribute [go_sem] List.take_zero List.drop_zero List.take_succ_cons List.drop_succ_cons List.all_cons List.all_nil List.size_toArray List.getElem?_toArray Array.toList_map List.map_toArray Option.some_beq_some Option.none_beq_some Option.some_beq_none Option.map_some Option.map_none Option.bind_some Option.bind_none Option.some.injEq ne_eq not_false_eq_true not_true_eq_false true_and and_true and_false false_and Bool.false_eq_true Bool.true_eq_false forall_const false_imp_iff true_imp_iff imp_self beq_self_eq_true or_true true_or or_false false_or if_true if_false ite_true ite_false Bool.or_true Bool.true_or Bool.and_true Bool.true_and Bool.false_or Bool.or_false Bool.false_and Bool.and_false Bool.not_true Bool.not_false decide_true decide_false Nat.lt_irrefl Nat.le_refl Nat.zero_add Nat.add_zero Nat.zero_mul Nat.mul_one Nat.mul_zero Nat.zero_le
attribute [go_sem] gt_iff_lt ge_iff_le Int.cast_ofNat_Int Option.isNone_some Option.isNone_none Option.isSome_some Option.isSome_none Nat.zero_max Nat.max_zero Nat.max_self List.take_length List.length_append List.length_map
attribute [go_sem] rs0 rs1 rs2 rs3 rs4 rs5 rs6 rs7 rs8 rs9 rs10 rs11 rs12 rs13 rs14 rs15 rs16 rs17 rs18 rs19 rs20 rs21 rs22 rs23 rs24 rs25 rs26 rs27 rs28 rs29 rs30 rs31 rs32 rs33 rs34 rs35 rs36 rs37 rs38 rs39 rs40 rs41 rs42 rs43 rs44 rs45 rs46 rs47 rs48 rs49 rs50 rs51 rs52 rs53 rs54 rs55 rs56 rs57 rs58 rs59
attribute [go_sem] rs60 rs61 rs62 rs63 rs64 rs65 rs66 rs67 rs68 rs69 rs70 rs71 rs72 rs73 rs74 rs75 rs76 rs77 rs78 rs79 rs80 rs81 rs82 rs83 rs84 rs85 rs86 rs87 rs88 rs89 rs90 rs91 rs92 rs93 rs94 rs95 rs96 rs97 rs98 rs99 rs100 rs101 rs102 rs103 rs104 rs105 rs106 rs107 rs108 rs109 rs110 rs111 rs112 rs113 rs114 rs115 rs116 rs117 rs118 rs119
attribute [go_sem] rs120 rs121 rs122 rs123 rs124 rs125 rs126 rs127 rs128 rs129 rs130 rs131 rs132 rs133 rs134 rs135 rs136 rs137 rs138 rs139 rs140 rs141 rs142 rs143 rs144 rs145 rs146 rs147 rs148 rs149 rs150 rs151 rs152 rs153 rs154 rs155 rs156 rs157 rs158 rs159 rs160 rs161 rs162 rs163 rs164 rs165 rs166 rs167 rs168 rs169 rs170 rs171 rs172 rs173 rs174 rs175 rs176 rs177 rs178 rs179
attribute [go_sem] rs180 rs181 rs182 Tryd.underlying0 Tryd.underlying1 Tryd.underlying2 sz2 cz2 ok2 ze2 by2 Tryd.underlying3 sz3 cz3 ok3 ze3 by3 Tryd.underlying4 sz4 cz4 ok4 ze4 by4 ni4 Tryd.underlying5 sz5 cz5 ok5 ze5 by5 Tryd.underlying6 sz6 cz6 ok6 ze6 by6 Tryd.underlying7 sz7 cz7 ok7 ze7 by7 ni7 Tryd.underlying8 sz8 cz8 ok8 ze8 by8 ni8 Tryd.underlying9 sz9 cz9 ok9 ze9 by9 ni9 Tryd.underlying10 sz10 cz10
attribute [go_sem] ok10 ze10 by10 ni10 Tryd.underlying11 sz11 cz11 ok11 ze11 by11 ni11 Tryd.underlying12 sz12 cz12 ok12 ze12 by12 Tryd.underlying13 sz13 cz13 ok13 ze13 by13 ni13 Tryd.underlying14 sz14 cz14 ok14 ze14 by14 ni14 Tryd.underlying15 sz15 cz15 ok15 ze15 by15 ni15 Tryd.underlying16 sz16 cz16 ok16 ze16 by16 ni16 Tryd.underlying17 sz17 cz17 ok17 ze17 by17 ni17 Tryd.underlying18 sz18 cz18 ok18 ze18 by18 ni18 Tryd.underlying19
attribute [go_sem] sz19 cz19 ok19 ze19 by19 ni19 Tryd.underlying20 sz20 cz20 ok20 ze20 by20 ni20 Tryd.underlying21 sz21 cz21 ok21 ze21 by21 Tryd.underlying22 Tryd.underlying23 Tryd.underlying24 sz24 cz24 ok24 ze24 by24 ni24 Tryd.underlying25 sz25 cz25 ok25 ze25 by25 ni25 eg25 sh25 Tryd.underlying26 Tryd.underlying27 Tryd.underlying28 Tryd.underlying29 sz29 cz29 ok29 ze29 by29 ni29 Tryd.underlying30 Tryd.underlying31 Tryd.underlying32 sz32 cz32 ok32 ze32 by32 ni32 Tryd.underlying33 sz33 cz33 ok33
attribute [go_sem] ze33 by33 ni33 Tryd.underlying34 sz34 cz34 ok34 ze34 by34 ni34 Tryd.underlying35 Tryd.underlying36 Tryd.underlying37 Tryd.underlying38 Tryd.underlying39 Tryd.underlying40 sz40 cz40 ok40 ze40 by40 ni40 Tryd.underlying41 sz41 cz41 ok41 ze41 by41 ni41 Tryd.underlying42 sz42 cz42 ok42 ze42 by42 ni42 Tryd.underlying43 sz43 cz43 ok43 ze43 by43 ni43 Tryd.underlying44 sz44 cz44 ok44 ze44 by44 ni44 Tryd.underlying45 sz45 cz45 ok45 ze45 by45 ni45 Tryd.underlying46 Tryd.underlying47 Tryd.underlying48
attribute [go_sem] sz48 cz48 ok48 ze48 by48 ni48 Tryd.underlying49 Tryd.underlying50 Tryd.underlying51 sz51 cz51 ok51 ze51 by51 ni51 Tryd.underlying52 Tryd.underlying53 sz53 cz53 ok53 ze53 by53 ni53 eg53 sh53 Tryd.underlying54 sz54 cz54 ok54 ze54 by54 ni54 eg54 sh54 Tryd.underlying55 sz55 cz55 ok55 ze55 by55 ni55 eg55 sh55 Tryd.underlying56 sz56 cz56 ok56 ze56 by56 ni56 eg56 sh56 Tryd.underlying57 sz57 cz57 ok57 ze57 by57 ni57 eg57
attribute [go_sem] sh57 Tryd.underlying58 sz58 cz58 ok58 ze58 by58 ni58 eg58 sh58 Tryd.underlying59 Tryd.underlying60 sz60 cz60 ok60 ze60 by60 ni60 Tryd.underlying61 Tryd.underlying62 sz62 cz62 ok62 ze62 by62 Tryd.underlying63 Tryd.underlying64 Tryd.underlying65 Tryd.underlying66 Tryd.underlying67 Tryd.underlying68 Tryd.underlying69 Tryd.underlying70 sz70 cz70 ok70 ze70 by70 ni70 Tryd.underlying71 sz71 cz71 ok71 ze71 by71 ni71 Tryd.underlying72 sz72 cz72 ok72 ze72 by72 ni72 Tryd.underlying73 Tryd.underlying74 Tryd.underlying75 sz75 cz75 ok75 ze75
attribute [go_sem] by75 ni75 Tryd.underlying76 Tryd.underlying77 sz77 cz77 ok77 ze77 by77 ni77 Tryd.underlying78 sz78 cz78 ok78 ze78 by78 ni78 Tryd.underlying79 sz79 cz79 ok79 ze79 by79 ni79 Tryd.underlying80 sz80 cz80 ok80 ze80 by80 ni80 eg80 sh80 Tryd.underlying81 sz81 cz81 ok81 ze81 by81 ni81 eg81 sh81 Tryd.underlying82 Tryd.underlying83 Tryd.underlying84 Tryd.underlying85 sz85 cz85 ok85 ze85 by85 ni85 Tryd.underlying86 sz86 cz86 ok86 ze86 by86 ni86 Tryd.underlying87
attribute [go_sem] sz87 cz87 ok87 ze87 by87 ni87 Tryd.underlying88 sz88 cz88 ok88 ze88 by88 ni88 Tryd.underlying89 sz89 cz89 ok89 ze89 by89 ni89 Tryd.underlying90 Tryd.underlying91 Tryd.underlying92 Tryd.underlying93 Tryd.underlying94 Tryd.underlying95 sz95 cz95 ok95 ze95 by95 ni95 eg95 sh95 Tryd.underlying96 sz96 cz96 ok96 ze96 by96 ni96 eg96 sh96 Tryd.underlying97 Tryd.underlying98 Tryd.underlying99 Tryd.underlying100 Tryd.underlying101 Tryd.underlying102 Tryd.underlying103 Tryd.underlying104 Tryd.underlying105 sz105 cz105 ok105 ze105 by105 ni105 Tryd.underlying106 Tryd.underlying107
attribute [go_sem] Tryd.underlying108 Tryd.underlying109 Tryd.underlying110 Tryd.underlying111 Tryd.underlying112 Tryd.underlying113 Tryd.underlying114 Tryd.underlying115 Tryd.underlying116 Tryd.underlying117 Tryd.underlying118 Tryd.underlying119 Tryd.underlying120 sz120 cz120 ok120 by120 ni120 eg120 sh120 Tryd.underlying121 sz121 cz121 ok121 by121 ni121 eg121 sh121 Tryd.underlying122 Tryd.underlying123 Tryd.underlying124 Tryd.underlying125 sz125 cz125 ok125 ze125 by125 ni125 Tryd.underlying126 Tryd.underlying127 Tryd.underlying128 Tryd.underlying129 Tryd.underlying130 Tryd.underlying131 Tryd.underlying132 Tryd.underlying133 sz133 cz133 ok133 ze133 by133 Tryd.underlying134 sz134 cz134 ok134 ze134 by134 ni134 Tryd.underlying135 Tryd.underlying136
attribute [go_sem] Tryd.underlying137 Tryd.underlying138 Tryd.underlying139 Tryd.underlying140 Tryd.underlying141 Tryd.underlying142 Tryd.underlying143 Tryd.underlying144 Tryd.underlying145 Tryd.underlying146 Tryd.underlying147 Tryd.underlying148 Tryd.underlying149 Tryd.underlying150 Tryd.underlying151 Tryd.underlying152 Tryd.underlying153 Tryd.underlying154 Tryd.underlying155 Tryd.underlying156 Tryd.underlying157 Tryd.underlying158 Tryd.underlying159 Tryd.underlying160 Tryd.underlying161 Tryd.underlying162 Tryd.underlying163 Tryd.underlying164 sz164 cz164 ok164 ze164 by164 ni164 Tryd.underlying165 Tryd.underlying166 Tryd.underlying167 Tryd.underlying168 Tryd.underlying169 sz169 cz169 ok169 ze169 by169 Tryd.underlying170 Tryd.underlying171 sz171 cz171 ok171 ze171 by171 ni171 eg171 sh171 Tryd.underlying172 Tryd.underlying173 Tryd.underlying174 Tryd.underlying175 Tryd.underlying176 Tryd.underlying177
attribute [go_sem] Tryd.underlying178 sz178 cz178 ok178 by178 ni178 eg178 sh178 Tryd.underlying179 sz179 cz179 ok179 ze179 by179 ni179 eg179 sh179 Tryd.underlying180 sz180 cz180 ok180 ze180 by180 ni180 eg180 sh180 Tryd.underlying181 sz181 cz181 ok181 ze181 by181 ni181 eg181 sh181 Tryd.underlying182 Tryd.underlying183 Tryd.underlying184 sz184 cz184 ok184 ze184 by184 Tryd.underlying185 Tryd.underlying186 Tryd.underlying187 sz187 cz187 ok187 ze187 by187 ni187 Tryd.underlying188 sz188 cz188 ok188 ze188 by188 ni188 Tryd.underlying189
attribute [go_sem] sz189 cz189 ok189 ze189 by189 ni189 Tryd.underlying190 sz190 cz190 ok190 ze190 by190 ni190 Tryd.underlying191 sz191 cz191 ok191 ze191 by191 ni191 Tryd.underlying192 Tryd.underlying193 sz193 cz193 ok193 ze193 by193 Tryd.underlying194 sz194 cz194 ok194 ze194 by194 Tryd.underlying195 Tryd.underlying196 sz196 cz196 ok196 ze196 by196 Tryd.underlying197 sz197 cz197 ok197 ze197 by197 Tryd.underlying198 sz198 cz198 ok198 ze198 by198 ni198 Tryd.underlying199 sz199 cz199 ok199 ze199 by199 ni199
end Go.Proofs.YtjkfobmfddfjhaaDoorX

/- Words for what functions answer. -/
set_option linter.unusedVariables false
namespace Go.Proofs.YtjkfobmfddfjhaaDoorX
open Go Go.RowKit Go.Proofs
abbrev i32 (n : Int) : T := .imm (.int .i32 n)
abbrev i64 (n : Int) : T := .imm (.int .i64 n)
abbrev u8 (n : Int) : T := .imm (.int .u8 n)
abbrev u32 (n : Int) : T := .imm (.int .u32 n)
abbrev u64 (n : Int) : T := .imm (.int .u64 n)
abbrev tb (b : Bool) : T := .imm (.bool b)
abbrev ts (s : ByteArray) : T := .imm (.string s)
theorem tb_eq {a b : Bool} (h : a = b) : T.imm (.bool a) = .imm (.bool b) := by rw [h]
theorem tb_iff {p : Prop} [Decidable p] {b : Bool} (h : b = true ↔ p) : T.imm (.bool b) = .imm (.bool (decide p)) := by
  refine tb_eq ?_
  cases b with
  | true => exact (decide_eq_true (h.1 rfl)).symm
  | false => exact (decide_eq_false fun hp => Bool.noConfusion (h.2 hp)).symm
theorem imm_eq {k : IntKind} {a b : Int} (h : a = b) : T.imm (.int k a) = .imm (.int k b) := by rw [h]
theorem str_eq {a b : ByteArray} (h : a = b) : T.imm (.string a) = .imm (.string b) := by rw [h]
theorem sl_eq {sz : Nat} {f : Bool} {a b : List T} (h : a = b) : T.sl sz f a = .sl sz f b := by rw [h]
theorem boolW_mk {b : Bool} {A B : Prop} (h1 : b = true → A) (h2 : b = false → B) : boolW b A B := ⟨h1, h2⟩
theorem boolD_mk {p : Prop} [Decidable p] {A B : Prop} (h1 : p → A) (h2 : ¬ p → B) : boolW (decide p) A B := ⟨fun h => h1 (of_decide_eq_true h), fun h => h2 (of_decide_eq_false h)⟩
theorem wf_of {k : IntKind} {n : Int} (h : (Lit.int k n).wf = true) : k.min ≤ n ∧ n ≤ k.max := by
  simpa [Lit.wf] using h
theorem wf_i32 {n : Int} (h : (Lit.int .i32 n).wf = true) : -2147483648 ≤ n ∧ n ≤ 2147483647 := wf_of h
theorem wf_i64 {n : Int} (h : (Lit.int .i64 n).wf = true) : -9223372036854775808 ≤ n ∧ n ≤ 9223372036854775807 := wf_of h
theorem wf_u8 {n : Int} (h : (Lit.int .u8 n).wf = true) : 0 ≤ n ∧ n ≤ 255 := wf_of h
theorem wf_u32 {n : Int} (h : (Lit.int .u32 n).wf = true) : 0 ≤ n ∧ n ≤ 4294967295 := wf_of h
theorem wf_u64 {n : Int} (h : (Lit.int .u64 n).wf = true) : 0 ≤ n ∧ n ≤ 18446744073709551615 := wf_of h
end Go.Proofs.YtjkfobmfddfjhaaDoorX

/- Bits of numbers that are not below zero. -/
set_option linter.unusedVariables false
namespace Go.Proofs.YtjkfobmfddfjhaaDoorX
open Go Go.RowKit Go.Proofs
theorem ofInt_nat (w : Nat) (n : Nat) (h : n < 2 ^ w) : (BitVec.ofInt w (n : Int)).toNat = n := by
  rw [BitVec.ofInt_natCast, BitVec.toNat_ofNat, Nat.mod_eq_of_lt h]
theorem or_low (i a b : Nat) (ha : a % 2 ^ i = 0) (hb : b < 2 ^ i) : a ||| b = a + b := by
  obtain ⟨q, rfl⟩ : ∃ q, a = 2 ^ i * q := ⟨a / 2 ^ i, by have := Nat.div_add_mod a (2 ^ i); omega⟩
  exact (Nat.two_pow_add_eq_or_of_lt hb q).symm
/-- Bits beside others are a sum. -/
theorem or_add (w i : Nat) (x y : Int) (hx : 0 ≤ x) (hxw : x < 2 ^ w) (hd : x % 2 ^ i = 0) (hy : 0 ≤ y) (hyi : y < 2 ^ i) (hiw : i ≤ w) : ((BitVec.ofInt w x ||| BitVec.ofInt w y).toNat : Int) = x + y := by
  obtain ⟨a, rfl⟩ := Int.eq_ofNat_of_zero_le hx
  obtain ⟨b, rfl⟩ := Int.eq_ofNat_of_zero_le hy
  have e : ((2 : Int) ^ i) = ((2 ^ i : Nat) : Int) := by simp
  have e' : ((2 : Int) ^ w) = ((2 ^ w : Nat) : Int) := by simp
  rw [e] at hd hyi
  rw [e'] at hxw
  have hle : 2 ^ i ≤ 2 ^ w := Nat.pow_le_pow_right (by omega) hiw
  rw [BitVec.toNat_or, ofInt_nat w a (by omega), ofInt_nat w b (by omega), or_low i a b (by omega) (by omega)]
  omega
theorem and_low (w i : Nat) (x : Int) (hx : 0 ≤ x) (hxw : x < 2 ^ w) (hiw : i ≤ w) (m : Int) (hm : m = 2 ^ i - 1) : ((BitVec.ofInt w x &&& BitVec.ofInt w m).toNat : Int) = x % 2 ^ i := by
  obtain ⟨a, rfl⟩ := Int.eq_ofNat_of_zero_le hx
  have e : ((2 : Int) ^ i) = ((2 ^ i : Nat) : Int) := by simp
  have e' : ((2 : Int) ^ w) = ((2 ^ w : Nat) : Int) := by simp
  rw [e'] at hxw
  have hle : 2 ^ i ≤ 2 ^ w := Nat.pow_le_pow_right (by omega) hiw
  have hp : 0 < 2 ^ i := Nat.two_pow_pos i
  have hm' : m = ((2 ^ i - 1 : Nat) : Int) := by omega
  subst hm'
  rw [BitVec.toNat_and, ofInt_nat w a (by omega), ofInt_nat w _ (by omega), Nat.and_two_pow_sub_one_eq_mod, e]
  omega
theorem bOr_add (k : IntKind) (i : Nat) (x y : Int) (hx : 0 ≤ x) (hxw : x < 2 ^ k.bits) (hd : x % 2 ^ i = 0) (hy : 0 ≤ y) (hyi : y < 2 ^ i) (hiw : i ≤ k.bits) : bOr k x y = x + y := or_add k.bits i x y hx hxw hd hy hyi hiw
theorem bAnd_low (k : IntKind) (i : Nat) (x : Int) (hx : 0 ≤ x) (hxw : x < 2 ^ k.bits) (hiw : i ≤ k.bits) (m : Int) (hm : m = 2 ^ i - 1) : bAnd k x m = x % 2 ^ i := and_low k.bits i x hx hxw hiw m hm
theorem bShr_div (k : IntKind) (x : Int) (n : Nat) (m : Int) (h : (2 : Int) ^ min n k.bits = m) (hm : 0 ≤ m) : bShr k x n = x / m := by unfold bShr; rw [h, Int.fdiv_eq_ediv_of_nonneg _ hm]
end Go.Proofs.YtjkfobmfddfjhaaDoorX

set_option linter.unusedVariables false
set_option linter.unusedSimpArgs false
namespace Go.Proofs.YtjkfobmfddfjhaaDoorX
open Go Go.RowKit Go.Proofs
set_option maxRecDepth 100000
def eT33 (x : (Bool) × (List (List UInt8)) × (List (List UInt8)) × (List (List UInt8))) : T := .agg [.imm (.bool x.1), .sl 1 false (List.map eS x.2.1), .sl 1 false (List.map eS x.2.2.1), .sl 1 false (List.map eS x.2.2.2)]
theorem eT33_def (x : (Bool) × (List (List UInt8)) × (List (List UInt8)) × (List (List UInt8))) : eT33 x = .agg [.imm (.bool x.1), .sl 1 false (List.map eS x.2.1), .sl 1 false (List.map eS x.2.2.1), .sl 1 false (List.map eS x.2.2.2)] := rfl
attribute [go_sem] eT33_def
theorem app_T33 (l : List ((Bool) × (List (List UInt8)) × (List (List UInt8)) × (List (List UInt8)))) (y0 : Bool) (y1 : List (List UInt8)) (y2 : List (List UInt8)) (y3 : List (List UInt8)) (r : List T) : List.map eT33 l ++ (T.agg [.imm (.bool y0), .sl 1 false (List.map eS y1), .sl 1 false (List.map eS y2), .sl 1 false (List.map eS y3)] :: r) = List.map eT33 (l ++ [(y0, y1, y2, y3)]) ++ r := by simp [eT33]
theorem set_T33 (l : List ((Bool) × (List (List UInt8)) × (List (List UInt8)) × (List (List UInt8)))) (i : Nat) (y0 : Bool) (y1 : List (List UInt8)) (y2 : List (List UInt8)) (y3 : List (List UInt8)) : (List.map eT33 l).set i (T.agg [.imm (.bool y0), .sl 1 false (List.map eS y1), .sl 1 false (List.map eS y2), .sl 1 false (List.map eS y3)]) = List.map eT33 (l.set i (y0, y1, y2, y3)) := by rw [List.map_set]; rfl
attribute [go_sem] app_T33 set_T33
end Go.Proofs.YtjkfobmfddfjhaaDoorX

set_option linter.unusedVariables false
set_option linter.unusedSimpArgs false
namespace Go.Proofs.YtjkfobmfddfjhaaDoorX
open Go Go.RowKit Go.Proofs
set_option maxRecDepth 100000
attribute [local go_sem ↓] stepsK_build stepsK_build0 stepsK_bs stepsK_bs0 appendS
attribute [local go_sem] String.reduceEq String.reduceNe reduceCtorEq Int.reduceEq Nat.reduceAdd Nat.reduceSub Nat.reduceMul Nat.reduceLT Nat.reduceLeDiff Nat.reduceEqDiff Nat.reduceBEq Int.reduceToNat Int.reduceLT Int.reduceLE Int.reduceGT Int.reduceGE Int.reduceAdd Int.reduceSub Int.reduceMul Int.reduceNeg Int.reduceBEq Int.reduceBNe Int.reducePow Int.reduceDiv Int.reduceMod Int.reduceTDiv Int.reduceTMod Int.reduceNatCast
/-! ### shadowboxlaw42.size -/
def F11_S4 (a0 : List ((Bool) × (List (List UInt8)) × (List (List UInt8)) × (List (List UInt8)))) (x2 : Int) (x24 : Int) (x25 : Int) : St := ⟨[.sl 4 false (List.map eT33 a0), .junk, .junk, .imm (.int .i64 x24), .imm (.int .i64 x2), .imm (.int .i64 (2 : Int)), .sl 1 false (List.map eS ((a0.getD x2.toNat default).2.2.2)), .imm (.int .i64 x25), .junk, .junk, .junk, .junk, .junk, .junk, .junk, .junk, .junk, .junk, .junk, .junk, .junk, .junk, .junk, .junk, .junk, .junk, .junk, .junk, .junk, .junk, .junk, .junk, .junk, .junk, .junk, .junk, .junk, .junk, .junk, .junk, .junk, .junk, .junk, .junk, .junk, .junk, .junk, .junk, .junk, .junk, .junk, .junk, .junk, .junk, .junk, .junk, .junk, .junk, .junk, .junk, .junk, .junk], []⟩
def F11_S5 (a0 : List ((Bool) × (List (List UInt8)) × (List (List UInt8)) × (List (List UInt8)))) (x2 : Int) (x32 : Int) (x33 : Int) : St := ⟨[.sl 4 false (List.map eT33 a0), .junk, .junk, .imm (.int .i64 x32), .imm (.int .i64 x2), .imm (.int .i64 (2 : Int)), .sl 1 false (List.map eS ((a0.getD x2.toNat default).2.2.2)), .imm (.int .i64 x33), .junk, .junk, .junk, .junk, .junk, .junk, .junk, .junk, .junk, .junk, .junk, .junk, .junk, .junk, .junk, .junk, .junk, .junk, .junk, .junk, .junk, .junk, .junk, .junk, .junk, .junk, .junk, .junk, .junk, .junk, .junk, .junk, .junk, .junk, .junk, .junk, .junk, .junk, .junk, .junk, .junk, .junk, .junk, .junk, .junk, .junk, .junk, .junk, .junk, .junk, .junk, .junk, .junk, .junk], []⟩
def F11_S3 (a0 : List ((Bool) × (List (List UInt8)) × (List (List UInt8)) × (List (List UInt8)))) (x2 : Int) (x16 : Int) (x17 : Int) : St := ⟨[.sl 4 false (List.map eT33 a0), .junk, .junk, .imm (.int .i64 x16), .imm (.int .i64 x2), .imm (.int .i64 (1 : Int)), .sl 1 false (List.map eS ((a0.getD x2.toNat default).2.2.1)), .imm (.int .i64 x17), .junk, .junk, .junk, .junk, .junk, .junk, .junk, .junk, .junk, .junk, .junk, .junk, .junk, .junk, .junk, .junk, .junk, .junk, .junk, .junk, .junk, .junk, .junk, .junk, .junk, .junk, .junk, .junk, .junk, .junk, .junk, .junk, .junk, .junk, .junk, .junk, .junk, .junk, .junk, .junk, .junk, .junk, .junk, .junk, .junk, .junk, .junk, .junk, .junk, .junk, .junk, .junk, .junk, .junk], []⟩
def F11_S7 (a0 : List ((Bool) × (List (List UInt8)) × (List (List UInt8)) × (List (List UInt8)))) (x2 : Int) (x48 : Int) (x49 : Int) : St := ⟨[.sl 4 false (List.map eT33 a0), .junk, .junk, .imm (.int .i64 x48), .imm (.int .i64 x2), .imm (.int .i64 (2 : Int)), .sl 1 false (List.map eS ((a0.getD x2.toNat default).2.2.2)), .imm (.int .i64 x49), .junk, .junk, .junk, .junk, .junk, .junk, .junk, .junk, .junk, .junk, .junk, .junk, .junk, .junk, .junk, .junk, .junk, .junk, .junk, .junk, .junk, .junk, .junk, .junk, .junk, .junk, .junk, .junk, .junk, .junk, .junk, .junk, .junk, .junk, .junk, .junk, .junk, .junk, .junk, .junk, .junk, .junk, .junk, .junk, .junk, .junk, .junk, .junk, .junk, .junk, .junk, .junk, .junk, .junk], []⟩
def F11_S8 (a0 : List ((Bool) × (List (List UInt8)) × (List (List UInt8)) × (List (List UInt8)))) (x2 : Int) (x56 : Int) (x57 : Int) : St := ⟨[.sl 4 false (List.map eT33 a0), .junk, .junk, .imm (.int .i64 x56), .imm (.int .i64 x2), .imm (.int .i64 (2 : Int)), .sl 1 false (List.map eS ((a0.getD x2.toNat default).2.2.2)), .imm (.int .i64 x57), .junk, .junk, .junk, .junk, .junk, .junk, .junk, .junk, .junk, .junk, .junk, .junk, .junk, .junk, .junk, .junk, .junk, .junk, .junk, .junk, .junk, .junk, .junk, .junk, .junk, .junk, .junk, .junk, .junk, .junk, .junk, .junk, .junk, .junk, .junk, .junk, .junk, .junk, .junk, .junk, .junk, .junk, .junk, .junk, .junk, .junk, .junk, .junk, .junk, .junk, .junk, .junk, .junk, .junk], []⟩
def F11_S6 (a0 : List ((Bool) × (List (List UInt8)) × (List (List UInt8)) × (List (List UInt8)))) (x2 : Int) (x40 : Int) (x41 : Int) : St := ⟨[.sl 4 false (List.map eT33 a0), .junk, .junk, .imm (.int .i64 x40), .imm (.int .i64 x2), .imm (.int .i64 (1 : Int)), .sl 1 false (List.map eS ((a0.getD x2.toNat default).2.2.1)), .imm (.int .i64 x41), .junk, .junk, .junk, .junk, .junk, .junk, .junk, .junk, .junk, .junk, .junk, .junk, .junk, .junk, .junk, .junk, .junk, .junk, .junk, .junk, .junk, .junk, .junk, .junk, .junk, .junk, .junk, .junk, .junk, .junk, .junk, .junk, .junk, .junk, .junk, .junk, .junk, .junk, .junk, .junk, .junk, .junk, .junk, .junk, .junk, .junk, .junk, .junk, .junk, .junk, .junk, .junk, .junk, .junk], []⟩
def F11_S2 (a0 : List ((Bool) × (List (List UInt8)) × (List (List UInt8)) × (List (List UInt8)))) (x2 : Int) (x8 : Int) (x9 : Int) : St := ⟨[.sl 4 false (List.map eT33 a0), .junk, .junk, .imm (.int .i64 x8), .imm (.int .i64 x2), .imm (.int .i64 (0 : Int)), .sl 1 false (List.map eS ((a0.getD x2.toNat default).2.1)), .imm (.int .i64 x9), .junk, .junk, .junk, .junk, .junk, .junk, .junk, .junk, .junk, .junk, .junk, .junk, .junk, .junk, .junk, .junk, .junk, .junk, .junk, .junk, .junk, .junk, .junk, .junk, .junk, .junk, .junk, .junk, .junk, .junk, .junk, .junk, .junk, .junk, .junk, .junk, .junk, .junk, .junk, .junk, .junk, .junk, .junk, .junk, .junk, .junk, .junk, .junk, .junk, .junk, .junk, .junk, .junk, .junk], []⟩
def F11_S1 (a0 : List ((Bool) × (List (List UInt8)) × (List (List UInt8)) × (List (List UInt8)))) (x1 : Int) (x2 : Int) : St := ⟨[.sl 4 false (List.map eT33 a0), .junk, .junk, .imm (.int .i64 x1), .imm (.int .i64 x2), .junk, .junk, .junk, .junk, .junk, .junk, .junk, .junk, .junk, .junk, .junk, .junk, .junk, .junk, .junk, .junk, .junk, .junk, .junk, .junk, .junk, .junk, .junk, .junk, .junk, .junk, .junk, .junk, .junk, .junk, .junk, .junk, .junk, .junk, .junk, .junk, .junk, .junk, .junk, .junk, .junk, .junk, .junk, .junk, .junk, .junk, .junk, .junk, .junk, .junk, .junk, .junk, .junk, .junk, .junk, .junk, .junk], []⟩
mutual
def F11_L4 : Nat → (List ((Bool) × (List (List UInt8)) × (List (List UInt8)) × (List (List UInt8)))) → (Int) → (Int) → (Int) → Option (Int)
  | 0, _, _, _, _ => none
  | m4 + 1, a0, x2, x24, x25 => iteB (decide (x25 < (((a0.getD x2.toNat default).2.2.2).length : Int))) (iteB (decide (x24 < (3000 : Int))) (grd (0 ≤ x25 ∧ x25 < (((a0.getD x2.toNat default).2.2.2).length : Int)) (F11_L4 m4 a0 x2 (IntKind.wrap .i64 ((IntKind.wrap .i64 (x24 + (5 : Int))) + (if (3000 : Int) < ((((a0.getD x2.toNat default).2.2.2).getD x25.toNat default).length : Int) then (3000 : Int) else ((((a0.getD x2.toNat default).2.2.2).getD x25.toNat default).length : Int)))) (IntKind.wrap .i64 (x25 + (1 : Int))))) (F11_L1 m4 a0 (IntKind.wrap .i64 (x24 + (20 : Int))) (IntKind.wrap .i64 (x2 + (1 : Int))))) (F11_L1 m4 a0 (IntKind.wrap .i64 (x24 + (20 : Int))) (IntKind.wrap .i64 (x2 + (1 : Int))))
def F11_L5 : Nat → (List ((Bool) × (List (List UInt8)) × (List (List UInt8)) × (List (List UInt8)))) → (Int) → (Int) → (Int) → Option (Int)
  | 0, _, _, _, _ => none
  | m5 + 1, a0, x2, x32, x33 => iteB (decide (x33 < (((a0.getD x2.toNat default).2.2.2).length : Int))) (iteB (decide (x32 < (3000 : Int))) (grd (0 ≤ x33 ∧ x33 < (((a0.getD x2.toNat default).2.2.2).length : Int)) (F11_L5 m5 a0 x2 (IntKind.wrap .i64 ((IntKind.wrap .i64 (x32 + (5 : Int))) + (if (3000 : Int) < ((((a0.getD x2.toNat default).2.2.2).getD x33.toNat default).length : Int) then (3000 : Int) else ((((a0.getD x2.toNat default).2.2.2).getD x33.toNat default).length : Int)))) (IntKind.wrap .i64 (x33 + (1 : Int))))) (F11_L1 m5 a0 (IntKind.wrap .i64 (x32 + (20 : Int))) (IntKind.wrap .i64 (x2 + (1 : Int))))) (F11_L1 m5 a0 (IntKind.wrap .i64 (x32 + (20 : Int))) (IntKind.wrap .i64 (x2 + (1 : Int))))
def F11_L3 : Nat → (List ((Bool) × (List (List UInt8)) × (List (List UInt8)) × (List (List UInt8)))) → (Int) → (Int) → (Int) → Option (Int)
  | 0, _, _, _, _ => none
  | m3 + 1, a0, x2, x16, x17 => iteB (decide (x17 < (((a0.getD x2.toNat default).2.2.1).length : Int))) (iteB (decide (x16 < (3000 : Int))) (grd (0 ≤ x17 ∧ x17 < (((a0.getD x2.toNat default).2.2.1).length : Int)) (F11_L3 m3 a0 x2 (IntKind.wrap .i64 ((IntKind.wrap .i64 (x16 + (5 : Int))) + (if (3000 : Int) < ((((a0.getD x2.toNat default).2.2.1).getD x17.toNat default).length : Int) then (3000 : Int) else ((((a0.getD x2.toNat default).2.2.1).getD x17.toNat default).length : Int)))) (IntKind.wrap .i64 (x17 + (1 : Int))))) (grd (0 ≤ x2 ∧ x2 < (a0.length : Int)) (grd (0 ≤ x2 ∧ x2 < (a0.length : Int)) (grd (0 ≤ x2 ∧ x2 < (a0.length : Int)) (F11_L4 m3 a0 x2 x16 (0 : Int)))))) (grd (0 ≤ x2 ∧ x2 < (a0.length : Int)) (grd (0 ≤ x2 ∧ x2 < (a0.length : Int)) (grd (0 ≤ x2 ∧ x2 < (a0.length : Int)) (F11_L5 m3 a0 x2 x16 (0 : Int)))))
def F11_L7 : Nat → (List ((Bool) × (List (List UInt8)) × (List (List UInt8)) × (List (List UInt8)))) → (Int) → (Int) → (Int) → Option (Int)
  | 0, _, _, _, _ => none
  | m7 + 1, a0, x2, x48, x49 => iteB (decide (x49 < (((a0.getD x2.toNat default).2.2.2).length : Int))) (iteB (decide (x48 < (3000 : Int))) (grd (0 ≤ x49 ∧ x49 < (((a0.getD x2.toNat default).2.2.2).length : Int)) (F11_L7 m7 a0 x2 (IntKind.wrap .i64 ((IntKind.wrap .i64 (x48 + (5 : Int))) + (if (3000 : Int) < ((((a0.getD x2.toNat default).2.2.2).getD x49.toNat default).length : Int) then (3000 : Int) else ((((a0.getD x2.toNat default).2.2.2).getD x49.toNat default).length : Int)))) (IntKind.wrap .i64 (x49 + (1 : Int))))) (F11_L1 m7 a0 (IntKind.wrap .i64 (x48 + (20 : Int))) (IntKind.wrap .i64 (x2 + (1 : Int))))) (F11_L1 m7 a0 (IntKind.wrap .i64 (x48 + (20 : Int))) (IntKind.wrap .i64 (x2 + (1 : Int))))
def F11_L8 : Nat → (List ((Bool) × (List (List UInt8)) × (List (List UInt8)) × (List (List UInt8)))) → (Int) → (Int) → (Int) → Option (Int)
  | 0, _, _, _, _ => none
  | m8 + 1, a0, x2, x56, x57 => iteB (decide (x57 < (((a0.getD x2.toNat default).2.2.2).length : Int))) (iteB (decide (x56 < (3000 : Int))) (grd (0 ≤ x57 ∧ x57 < (((a0.getD x2.toNat default).2.2.2).length : Int)) (F11_L8 m8 a0 x2 (IntKind.wrap .i64 ((IntKind.wrap .i64 (x56 + (5 : Int))) + (if (3000 : Int) < ((((a0.getD x2.toNat default).2.2.2).getD x57.toNat default).length : Int) then (3000 : Int) else ((((a0.getD x2.toNat default).2.2.2).getD x57.toNat default).length : Int)))) (IntKind.wrap .i64 (x57 + (1 : Int))))) (F11_L1 m8 a0 (IntKind.wrap .i64 (x56 + (20 : Int))) (IntKind.wrap .i64 (x2 + (1 : Int))))) (F11_L1 m8 a0 (IntKind.wrap .i64 (x56 + (20 : Int))) (IntKind.wrap .i64 (x2 + (1 : Int))))
def F11_L6 : Nat → (List ((Bool) × (List (List UInt8)) × (List (List UInt8)) × (List (List UInt8)))) → (Int) → (Int) → (Int) → Option (Int)
  | 0, _, _, _, _ => none
  | m6 + 1, a0, x2, x40, x41 => iteB (decide (x41 < (((a0.getD x2.toNat default).2.2.1).length : Int))) (iteB (decide (x40 < (3000 : Int))) (grd (0 ≤ x41 ∧ x41 < (((a0.getD x2.toNat default).2.2.1).length : Int)) (F11_L6 m6 a0 x2 (IntKind.wrap .i64 ((IntKind.wrap .i64 (x40 + (5 : Int))) + (if (3000 : Int) < ((((a0.getD x2.toNat default).2.2.1).getD x41.toNat default).length : Int) then (3000 : Int) else ((((a0.getD x2.toNat default).2.2.1).getD x41.toNat default).length : Int)))) (IntKind.wrap .i64 (x41 + (1 : Int))))) (grd (0 ≤ x2 ∧ x2 < (a0.length : Int)) (grd (0 ≤ x2 ∧ x2 < (a0.length : Int)) (grd (0 ≤ x2 ∧ x2 < (a0.length : Int)) (F11_L7 m6 a0 x2 x40 (0 : Int)))))) (grd (0 ≤ x2 ∧ x2 < (a0.length : Int)) (grd (0 ≤ x2 ∧ x2 < (a0.length : Int)) (grd (0 ≤ x2 ∧ x2 < (a0.length : Int)) (F11_L8 m6 a0 x2 x40 (0 : Int)))))
def F11_L2 : Nat → (List ((Bool) × (List (List UInt8)) × (List (List UInt8)) × (List (List UInt8)))) → (Int) → (Int) → (Int) → Option (Int)
  | 0, _, _, _, _ => none
  | m2 + 1, a0, x2, x8, x9 => iteB (decide (x9 < (((a0.getD x2.toNat default).2.1).length : Int))) (iteB (decide (x8 < (3000 : Int))) (grd (0 ≤ x9 ∧ x9 < (((a0.getD x2.toNat default).2.1).length : Int)) (F11_L2 m2 a0 x2 (IntKind.wrap .i64 ((IntKind.wrap .i64 (x8 + (5 : Int))) + (if (3000 : Int) < ((((a0.getD x2.toNat default).2.1).getD x9.toNat default).length : Int) then (3000 : Int) else ((((a0.getD x2.toNat default).2.1).getD x9.toNat default).length : Int)))) (IntKind.wrap .i64 (x9 + (1 : Int))))) (grd (0 ≤ x2 ∧ x2 < (a0.length : Int)) (grd (0 ≤ x2 ∧ x2 < (a0.length : Int)) (grd (0 ≤ x2 ∧ x2 < (a0.length : Int)) (F11_L3 m2 a0 x2 x8 (0 : Int)))))) (grd (0 ≤ x2 ∧ x2 < (a0.length : Int)) (grd (0 ≤ x2 ∧ x2 < (a0.length : Int)) (grd (0 ≤ x2 ∧ x2 < (a0.length : Int)) (F11_L6 m2 a0 x2 x8 (0 : Int)))))
def F11_L1 : Nat → (List ((Bool) × (List (List UInt8)) × (List (List UInt8)) × (List (List UInt8)))) → (Int) → (Int) → Option (Int)
  | 0, _, _, _ => none
  | m1 + 1, a0, x1, x2 => iteB (decide (x2 < (a0.length : Int))) (iteB (decide (x1 < (3000 : Int))) (grd (0 ≤ x2 ∧ x2 < (a0.length : Int)) (grd (0 ≤ x2 ∧ x2 < (a0.length : Int)) (grd (0 ≤ x2 ∧ x2 < (a0.length : Int)) (F11_L2 m1 a0 x2 x1 (0 : Int))))) (some x1)) (some x1)
end
def F11 (n : Nat) (a0 : List ((Bool) × (List (List UInt8)) × (List (List UInt8)) × (List (List UInt8)))) : Option (Int) := F11_L1 n a0 (0 : Int) (0 : Int)
set_option maxHeartbeats 4000000 in
theorem F11_ok : ∀ (n : Nat) (a0 : List ((Bool) × (List (List UInt8)) × (List (List UInt8)) × (List (List UInt8)))) (r : Int), F11 n a0 = some r → FnC Tryd.prog 11 [.sl 4 false (List.map eT33 a0)] (.imm (.int .i64 r))
  | n, a0, r, h => by
    unfold F11 at h
    refine FnC.goX mixed Tryd.func11 (by kernel_rfl) rfl ?_
    simp only [Tryd.ntmps11, List.length_cons, List.length_nil, List.replicate, List.cons_append, List.nil_append, Nat.reduceAdd, Nat.reduceSub]
    refine runX_seq ?_
    refine runX_regionC fun C hC => ?_
    try simp -implicitDefEqProofs (maxSteps := 4000000) (disch := first | omega | decide | (simp only [go_sem]; omega)) only [go_sem, ↓reduceIte]
    repeat (with_reducible refine And.intro (by first | assumption | omega | (simp; done) | (simp; omega)) ?_)
    refine toEnd hC ?_
    refine endX_seq ?_
    refine runX_seq ?_
    refine runX_regionC fun C hC => ?_
    try simp -implicitDefEqProofs (maxSteps := 4000000) (disch := first | omega | decide | (simp only [go_sem]; omega)) only [go_sem, ↓reduceIte]
    repeat (with_reducible refine And.intro (by first | assumption | omega | (simp; done) | (simp; omega)) ?_)
    refine toEnd hC ?_
    refine endX_seq ?_
    refine runX_seq ?_
    refine runX_seq ?_
    refine runX_regionC fun C hC => ?_
    try simp -implicitDefEqProofs (maxSteps := 4000000) (disch := first | omega | decide | (simp only [go_sem]; omega)) only [go_sem, ↓reduceIte]
    repeat (with_reducible refine And.intro (by first | assumption | omega | (simp; done) | (simp; omega)) ?_)
    refine toEnd hC ?_
    refine endX_seq ?_
    refine runX_block ?_
    refine runX_loop [0, 3, 4] (fun m S => ∃ (x1 : Int) (x2 : Int), S = F11_S1 a0 x1 x2 ∧ m ≤ n ∧ F11_L1 m a0 x1 x2 = some r) n ⟨F11_S1 a0 (0 : Int) (0 : Int), ?_, (0 : Int), (0 : Int), rfl, Nat.le_refl _, h⟩ ?_
    · simp only [F11_S1]
      (try simp -implicitDefEqProofs (maxSteps := 4000000) (disch := first | omega | decide | (simp only [go_sem]; omega)) only [go_sem, ↓reduceIte])
      first | exact leS_refl _ | (refine leS_le ?_ ?_ <;> first | exact leL_refl _ | exact leOs_refl _ | (repeat (first | exact leL_refl _ | refine leL_cons (by first | exact leT_refl _ | exact leT_virt | exact leT_junk _ | exact leT_sl | exact leT_sln | exact leT_nil) ?_)))
    · clear h
      rintro m1 S ⟨x1, x2, rfl, hm1, h⟩
      cases m1 with
      | zero => first | cases (show (none : Option _) = some _ from h) | (rw [F11_L1] at h; cases h)
      | succ m1 =>
        rw [F11_L1] at h
        simp only [F11_S1]
        refine runX_seq ?_
        refine runX_seq ?_
        refine runX_regionC fun C hC => ?_
        try simp -implicitDefEqProofs (maxSteps := 4000000) (disch := first | omega | decide | (simp only [go_sem]; omega)) only [go_sem, ↓reduceIte]
        repeat (with_reducible refine And.intro (by first | assumption | omega | (simp; done) | (simp; omega)) ?_)
        rcases iteB_some h with ⟨c3, h⟩ | ⟨c3, h⟩
        · refine guardK_T c3 ?_
          try simp -implicitDefEqProofs (maxSteps := 4000000) (disch := first | omega | decide | (simp only [go_sem]; omega)) only [go_sem, ↓reduceIte]
          repeat (with_reducible refine And.intro (by first | assumption | omega | (simp; done) | (simp; omega)) ?_)
          refine toEnd hC ?_
          refine endX_seq ?_
          rcases iteB_some h with ⟨c4, h⟩ | ⟨c4, h⟩
          · refine runX_condT rfl c4 ?_
            refine runX_skip ?_
            refine endX_seq ?_
            refine runX_seq ?_
            refine runX_block ?_
            refine runX_seq ?_
            refine runX_seq ?_
            refine runX_regionC fun C hC => ?_
            try simp -implicitDefEqProofs (maxSteps := 4000000) (disch := first | omega | decide | (simp only [go_sem]; omega)) only [go_sem, ↓reduceIte]
            repeat (with_reducible refine And.intro (by first | assumption | omega | (simp; done) | (simp; omega)) ?_)
            refine toEnd hC ?_
            refine endX_seq ?_
            refine runX_block ?_
            refine runX_unroll 3 ?_
            refine runX_seq ?_
            refine runX_seq ?_
            refine runX_regionC fun C hC => ?_
            try simp -implicitDefEqProofs (maxSteps := 4000000) (disch := first | omega | decide | (simp only [go_sem]; omega)) only [go_sem, ↓reduceIte]
            repeat (with_reducible refine And.intro (by first | assumption | omega | (simp; done) | (simp; omega)) ?_)
            refine toEnd hC ?_
            refine endX_seq ?_
            refine runX_condT rfl rfl ?_
            refine runX_skip ?_
            refine endX_seq ?_
            refine runX_seq ?_
            refine runX_block ?_
            refine runX_seq ?_
            refine runX_drawC mixed (by kernel_rfl) fun C hC => ?_
            obtain ⟨g5, h⟩ := grd_some h
            obtain ⟨g6, h⟩ := grd_some h
            obtain ⟨g7, h⟩ := grd_some h
            try simp -implicitDefEqProofs (maxSteps := 4000000) (disch := first | omega | decide | (simp only [go_sem]; omega)) only [go_sem, ↓reduceIte]
            repeat (with_reducible refine And.intro (by first | assumption | omega | (simp; done) | (simp; omega)) ?_)
            refine buildW_of [.sl 1 false (List.map eS ((a0.getD x2.toNat default).2.1)), .sl 1 false (List.map eS ((a0.getD x2.toNat default).2.2.1)), .sl 1 false (List.map eS ((a0.getD x2.toNat default).2.2.2))] (by kernel_rfl) ?_
            try simp -implicitDefEqProofs (maxSteps := 4000000) (disch := first | omega | decide | (simp only [go_sem]; omega)) only [go_sem, ↓reduceIte]
            repeat (with_reducible refine And.intro (by first | assumption | omega | (simp; done) | (simp; omega)) ?_)
            refine toEnd hC ?_
            refine endX_seq ?_
            refine runX_seq ?_
            refine runX_regionC fun C hC => ?_
            try simp -implicitDefEqProofs (maxSteps := 4000000) (disch := first | omega | decide | (simp only [go_sem]; omega)) only [go_sem, ↓reduceIte]
            repeat (with_reducible refine And.intro (by first | assumption | omega | (simp; done) | (simp; omega)) ?_)
            refine toEnd hC ?_
            refine endX_seq ?_
            refine runX_block ?_
            refine runX_loop [0, 3, 4, 5, 6, 7] (fun m S => ∃ (x8 : Int) (x9 : Int), S = F11_S2 a0 x2 x8 x9 ∧ m ≤ m1 ∧ F11_L2 m a0 x2 x8 x9 = some r) m1 ⟨F11_S2 a0 x2 x1 (0 : Int), ?_, x1, (0 : Int), rfl, Nat.le_refl _, h⟩ ?_
            · simp only [F11_S2]
              (try simp -implicitDefEqProofs (maxSteps := 4000000) (disch := first | omega | decide | (simp only [go_sem]; omega)) only [go_sem, ↓reduceIte])
              first | exact leS_refl _ | (refine leS_le ?_ ?_ <;> first | exact leL_refl _ | exact leOs_refl _ | (repeat (first | exact leL_refl _ | refine leL_cons (by first | exact leT_refl _ | exact leT_virt | exact leT_junk _ | exact leT_sl | exact leT_sln | exact leT_nil) ?_)))
            · clear h
              rintro m2 S ⟨x8, x9, rfl, hm2, h⟩
              cases m2 with
              | zero => first | cases (show (none : Option _) = some _ from h) | (rw [F11_L2] at h; cases h)
              | succ m2 =>
                rw [F11_L2] at h
                simp only [F11_S2]
                refine runX_seq ?_
                refine runX_seq ?_
                refine runX_regionC fun C hC => ?_
                try simp -implicitDefEqProofs (maxSteps := 4000000) (disch := first | omega | decide | (simp only [go_sem]; omega)) only [go_sem, ↓reduceIte]
                repeat (with_reducible refine And.intro (by first | assumption | omega | (simp; done) | (simp; omega)) ?_)
                rcases iteB_some h with ⟨c10, h⟩ | ⟨c10, h⟩
                · refine guardK_T c10 ?_
                  try simp -implicitDefEqProofs (maxSteps := 4000000) (disch := first | omega | decide | (simp only [go_sem]; omega)) only [go_sem, ↓reduceIte]
                  repeat (with_reducible refine And.intro (by first | assumption | omega | (simp; done) | (simp; omega)) ?_)
                  refine toEnd hC ?_
                  refine endX_seq ?_
                  rcases iteB_some h with ⟨c11, h⟩ | ⟨c11, h⟩
                  · refine runX_condT rfl c11 ?_
                    refine runX_skip ?_
                    refine endX_seq ?_
                    refine runX_seq ?_
                    refine runX_block ?_
                    refine runX_regionC fun C hC => ?_
                    obtain ⟨g12, h⟩ := grd_some h
                    try simp -implicitDefEqProofs (maxSteps := 4000000) (disch := first | omega | decide | (simp only [go_sem]; omega)) only [go_sem, ↓reduceIte]
                    repeat (with_reducible refine And.intro (by first | assumption | omega | (simp; done) | (simp; omega)) ?_)
                    refine toEnd hC ?_
                    refine endX_blk ?_
                    refine endX_seq ?_
                    refine runX_regionC fun C hC => ?_
                    try simp -implicitDefEqProofs (maxSteps := 4000000) (disch := first | omega | decide | (simp only [go_sem]; omega)) only [go_sem, ↓reduceIte]
                    repeat (with_reducible refine And.intro (by first | assumption | omega | (simp; done) | (simp; omega)) ?_)
                    refine toEnd hC ?_
                    refine endX_q (roundQ_normal ⟨m2, by omega, F11_S2 a0 x2 (IntKind.wrap .i64 ((IntKind.wrap .i64 (x8 + (5 : Int))) + (if (3000 : Int) < ((((a0.getD x2.toNat default).2.1).getD x9.toNat default).length : Int) then (3000 : Int) else ((((a0.getD x2.toNat default).2.1).getD x9.toNat default).length : Int)))) (IntKind.wrap .i64 (x9 + (1 : Int))), ?_, (IntKind.wrap .i64 ((IntKind.wrap .i64 (x8 + (5 : Int))) + (if (3000 : Int) < ((((a0.getD x2.toNat default).2.1).getD x9.toNat default).length : Int) then (3000 : Int) else ((((a0.getD x2.toNat default).2.1).getD x9.toNat default).length : Int)))), (IntKind.wrap .i64 (x9 + (1 : Int))), rfl, by omega, h⟩)
                    simp only [F11_S2]
                    (try simp -implicitDefEqProofs (maxSteps := 4000000) (disch := first | omega | decide | (simp only [go_sem]; omega)) only [go_sem, ↓reduceIte])
                    first | exact leS_refl _ | (refine leS_le ?_ ?_ <;> first | exact leL_refl _ | exact leOs_refl _ | (repeat (first | exact leL_refl _ | refine leL_cons (by first | exact leT_refl _ | exact leT_virt | exact leT_junk _ | exact leT_sl | exact leT_sln | exact leT_nil) ?_)))
                  · refine runX_condF rfl c11 ?_
                    refine runX_exit ?_
                    refine endX_seqE ?_
                    refine endX_q (roundQ_exit ?_)
                    refine endX_blkE ?_
                    refine endX_blk ?_
                    refine endX_seq ?_
                    refine runX_regionC fun C hC => ?_
                    try simp -implicitDefEqProofs (maxSteps := 4000000) (disch := first | omega | decide | (simp only [go_sem]; omega)) only [go_sem, ↓reduceIte]
                    repeat (with_reducible refine And.intro (by first | assumption | omega | (simp; done) | (simp; omega)) ?_)
                    refine toEnd hC ?_
                    refine endX_lp ?_
                    refine runX_seq ?_
                    refine runX_seq ?_
                    refine runX_regionC fun C hC => ?_
                    try simp -implicitDefEqProofs (maxSteps := 4000000) (disch := first | omega | decide | (simp only [go_sem]; omega)) only [go_sem, ↓reduceIte]
                    repeat (with_reducible refine And.intro (by first | assumption | omega | (simp; done) | (simp; omega)) ?_)
                    refine toEnd hC ?_
                    refine endX_seq ?_
                    refine runX_condT rfl rfl ?_
                    refine runX_skip ?_
                    refine endX_seq ?_
                    refine runX_seq ?_
                    refine runX_block ?_
                    refine runX_seq ?_
                    refine runX_drawC mixed (by kernel_rfl) fun C hC => ?_
                    obtain ⟨g13, h⟩ := grd_some h
                    obtain ⟨g14, h⟩ := grd_some h
                    obtain ⟨g15, h⟩ := grd_some h
                    try simp -implicitDefEqProofs (maxSteps := 4000000) (disch := first | omega | decide | (simp only [go_sem]; omega)) only [go_sem, ↓reduceIte]
                    repeat (with_reducible refine And.intro (by first | assumption | omega | (simp; done) | (simp; omega)) ?_)
                    refine buildW_of [.sl 1 false (List.map eS ((a0.getD x2.toNat default).2.1)), .sl 1 false (List.map eS ((a0.getD x2.toNat default).2.2.1)), .sl 1 false (List.map eS ((a0.getD x2.toNat default).2.2.2))] (by kernel_rfl) ?_
                    try simp -implicitDefEqProofs (maxSteps := 4000000) (disch := first | omega | decide | (simp only [go_sem]; omega)) only [go_sem, ↓reduceIte]
                    repeat (with_reducible refine And.intro (by first | assumption | omega | (simp; done) | (simp; omega)) ?_)
                    refine toEnd hC ?_
                    refine endX_seq ?_
                    refine runX_seq ?_
                    refine runX_regionC fun C hC => ?_
                    try simp -implicitDefEqProofs (maxSteps := 4000000) (disch := first | omega | decide | (simp only [go_sem]; omega)) only [go_sem, ↓reduceIte]
                    repeat (with_reducible refine And.intro (by first | assumption | omega | (simp; done) | (simp; omega)) ?_)
                    refine toEnd hC ?_
                    refine endX_seq ?_
                    refine runX_block ?_
                    refine runX_loop [0, 3, 4, 5, 6, 7] (fun m S => ∃ (x16 : Int) (x17 : Int), S = F11_S3 a0 x2 x16 x17 ∧ m ≤ m2 ∧ F11_L3 m a0 x2 x16 x17 = some r) m2 ⟨F11_S3 a0 x2 x8 (0 : Int), ?_, x8, (0 : Int), rfl, Nat.le_refl _, h⟩ ?_
                    · simp only [F11_S3]
                      (try simp -implicitDefEqProofs (maxSteps := 4000000) (disch := first | omega | decide | (simp only [go_sem]; omega)) only [go_sem, ↓reduceIte])
                      first | exact leS_refl _ | (refine leS_le ?_ ?_ <;> first | exact leL_refl _ | exact leOs_refl _ | (repeat (first | exact leL_refl _ | refine leL_cons (by first | exact leT_refl _ | exact leT_virt | exact leT_junk _ | exact leT_sl | exact leT_sln | exact leT_nil) ?_)))
                    · clear h
                      rintro m3 S ⟨x16, x17, rfl, hm3, h⟩
                      cases m3 with
                      | zero => first | cases (show (none : Option _) = some _ from h) | (rw [F11_L3] at h; cases h)
                      | succ m3 =>
                        rw [F11_L3] at h
                        simp only [F11_S3]
                        refine runX_seq ?_
                        refine runX_seq ?_
                        refine runX_regionC fun C hC => ?_
                        try simp -implicitDefEqProofs (maxSteps := 4000000) (disch := first | omega | decide | (simp only [go_sem]; omega)) only [go_sem, ↓reduceIte]
                        repeat (with_reducible refine And.intro (by first | assumption | omega | (simp; done) | (simp; omega)) ?_)
                        rcases iteB_some h with ⟨c18, h⟩ | ⟨c18, h⟩
                        · refine guardK_T c18 ?_
                          try simp -implicitDefEqProofs (maxSteps := 4000000) (disch := first | omega | decide | (simp only [go_sem]; omega)) only [go_sem, ↓reduceIte]
                          repeat (with_reducible refine And.intro (by first | assumption | omega | (simp; done) | (simp; omega)) ?_)
                          refine toEnd hC ?_
                          refine endX_seq ?_
                          rcases iteB_some h with ⟨c19, h⟩ | ⟨c19, h⟩
                          · refine runX_condT rfl c19 ?_
                            refine runX_skip ?_
                            refine endX_seq ?_
                            refine runX_seq ?_
                            refine runX_block ?_
                            refine runX_regionC fun C hC => ?_
                            obtain ⟨g20, h⟩ := grd_some h
                            try simp -implicitDefEqProofs (maxSteps := 4000000) (disch := first | omega | decide | (simp only [go_sem]; omega)) only [go_sem, ↓reduceIte]
                            repeat (with_reducible refine And.intro (by first | assumption | omega | (simp; done) | (simp; omega)) ?_)
                            refine toEnd hC ?_
                            refine endX_blk ?_
                            refine endX_seq ?_
                            refine runX_regionC fun C hC => ?_
                            try simp -implicitDefEqProofs (maxSteps := 4000000) (disch := first | omega | decide | (simp only [go_sem]; omega)) only [go_sem, ↓reduceIte]
                            repeat (with_reducible refine And.intro (by first | assumption | omega | (simp; done) | (simp; omega)) ?_)
                            refine toEnd hC ?_
                            refine endX_q (roundQ_normal ⟨m3, by omega, F11_S3 a0 x2 (IntKind.wrap .i64 ((IntKind.wrap .i64 (x16 + (5 : Int))) + (if (3000 : Int) < ((((a0.getD x2.toNat default).2.2.1).getD x17.toNat default).length : Int) then (3000 : Int) else ((((a0.getD x2.toNat default).2.2.1).getD x17.toNat default).length : Int)))) (IntKind.wrap .i64 (x17 + (1 : Int))), ?_, (IntKind.wrap .i64 ((IntKind.wrap .i64 (x16 + (5 : Int))) + (if (3000 : Int) < ((((a0.getD x2.toNat default).2.2.1).getD x17.toNat default).length : Int) then (3000 : Int) else ((((a0.getD x2.toNat default).2.2.1).getD x17.toNat default).length : Int)))), (IntKind.wrap .i64 (x17 + (1 : Int))), rfl, by omega, h⟩)
                            simp only [F11_S3]
                            (try simp -implicitDefEqProofs (maxSteps := 4000000) (disch := first | omega | decide | (simp only [go_sem]; omega)) only [go_sem, ↓reduceIte])
                            first | exact leS_refl _ | (refine leS_le ?_ ?_ <;> first | exact leL_refl _ | exact leOs_refl _ | (repeat (first | exact leL_refl _ | refine leL_cons (by first | exact leT_refl _ | exact leT_virt | exact leT_junk _ | exact leT_sl | exact leT_sln | exact leT_nil) ?_)))
                          · refine runX_condF rfl c19 ?_
                            refine runX_exit ?_
                            refine endX_seqE ?_
                            refine endX_q (roundQ_exit ?_)
                            refine endX_blkE ?_
                            refine endX_blk ?_
                            refine endX_seq ?_
                            refine runX_regionC fun C hC => ?_
                            try simp -implicitDefEqProofs (maxSteps := 4000000) (disch := first | omega | decide | (simp only [go_sem]; omega)) only [go_sem, ↓reduceIte]
                            repeat (with_reducible refine And.intro (by first | assumption | omega | (simp; done) | (simp; omega)) ?_)
                            refine toEnd hC ?_
                            refine endX_lp ?_
                            refine runX_seq ?_
                            refine runX_seq ?_
                            refine runX_regionC fun C hC => ?_
                            try simp -implicitDefEqProofs (maxSteps := 4000000) (disch := first | omega | decide | (simp only [go_sem]; omega)) only [go_sem, ↓reduceIte]
                            repeat (with_reducible refine And.intro (by first | assumption | omega | (simp; done) | (simp; omega)) ?_)
                            refine toEnd hC ?_
                            refine endX_seq ?_
                            refine runX_condT rfl rfl ?_
                            refine runX_skip ?_
                            refine endX_seq ?_
                            refine runX_seq ?_
                            refine runX_block ?_
                            refine runX_seq ?_
                            refine runX_drawC mixed (by kernel_rfl) fun C hC => ?_
                            obtain ⟨g21, h⟩ := grd_some h
                            obtain ⟨g22, h⟩ := grd_some h
                            obtain ⟨g23, h⟩ := grd_some h
                            try simp -implicitDefEqProofs (maxSteps := 4000000) (disch := first | omega | decide | (simp only [go_sem]; omega)) only [go_sem, ↓reduceIte]
                            repeat (with_reducible refine And.intro (by first | assumption | omega | (simp; done) | (simp; omega)) ?_)
                            refine buildW_of [.sl 1 false (List.map eS ((a0.getD x2.toNat default).2.1)), .sl 1 false (List.map eS ((a0.getD x2.toNat default).2.2.1)), .sl 1 false (List.map eS ((a0.getD x2.toNat default).2.2.2))] (by kernel_rfl) ?_
                            try simp -implicitDefEqProofs (maxSteps := 4000000) (disch := first | omega | decide | (simp only [go_sem]; omega)) only [go_sem, ↓reduceIte]
                            repeat (with_reducible refine And.intro (by first | assumption | omega | (simp; done) | (simp; omega)) ?_)
                            refine toEnd hC ?_
                            refine endX_seq ?_
                            refine runX_seq ?_
                            refine runX_regionC fun C hC => ?_
                            try simp -implicitDefEqProofs (maxSteps := 4000000) (disch := first | omega | decide | (simp only [go_sem]; omega)) only [go_sem, ↓reduceIte]
                            repeat (with_reducible refine And.intro (by first | assumption | omega | (simp; done) | (simp; omega)) ?_)
                            refine toEnd hC ?_
                            refine endX_seq ?_
                            refine runX_block ?_
                            refine runX_loop [0, 3, 4, 5, 6, 7] (fun m S => ∃ (x24 : Int) (x25 : Int), S = F11_S4 a0 x2 x24 x25 ∧ m ≤ m3 ∧ F11_L4 m a0 x2 x24 x25 = some r) m3 ⟨F11_S4 a0 x2 x16 (0 : Int), ?_, x16, (0 : Int), rfl, Nat.le_refl _, h⟩ ?_
                            · simp only [F11_S4]
                              (try simp -implicitDefEqProofs (maxSteps := 4000000) (disch := first | omega | decide | (simp only [go_sem]; omega)) only [go_sem, ↓reduceIte])
                              first | exact leS_refl _ | (refine leS_le ?_ ?_ <;> first | exact leL_refl _ | exact leOs_refl _ | (repeat (first | exact leL_refl _ | refine leL_cons (by first | exact leT_refl _ | exact leT_virt | exact leT_junk _ | exact leT_sl | exact leT_sln | exact leT_nil) ?_)))
                            · clear h
                              rintro m4 S ⟨x24, x25, rfl, hm4, h⟩
                              cases m4 with
                              | zero => first | cases (show (none : Option _) = some _ from h) | (rw [F11_L4] at h; cases h)
                              | succ m4 =>
                                rw [F11_L4] at h
                                simp only [F11_S4]
                                refine runX_seq ?_
                                refine runX_seq ?_
                                refine runX_regionC fun C hC => ?_
                                try simp -implicitDefEqProofs (maxSteps := 4000000) (disch := first | omega | decide | (simp only [go_sem]; omega)) only [go_sem, ↓reduceIte]
                                repeat (with_reducible refine And.intro (by first | assumption | omega | (simp; done) | (simp; omega)) ?_)
                                rcases iteB_some h with ⟨c26, h⟩ | ⟨c26, h⟩
                                · refine guardK_T c26 ?_
                                  try simp -implicitDefEqProofs (maxSteps := 4000000) (disch := first | omega | decide | (simp only [go_sem]; omega)) only [go_sem, ↓reduceIte]
                                  repeat (with_reducible refine And.intro (by first | assumption | omega | (simp; done) | (simp; omega)) ?_)
                                  refine toEnd hC ?_
                                  refine endX_seq ?_
                                  rcases iteB_some h with ⟨c27, h⟩ | ⟨c27, h⟩
                                  · refine runX_condT rfl c27 ?_
                                    refine runX_skip ?_
                                    refine endX_seq ?_
                                    refine runX_seq ?_
                                    refine runX_block ?_
                                    refine runX_regionC fun C hC => ?_
                                    obtain ⟨g28, h⟩ := grd_some h
                                    try simp -implicitDefEqProofs (maxSteps := 4000000) (disch := first | omega | decide | (simp only [go_sem]; omega)) only [go_sem, ↓reduceIte]
                                    repeat (with_reducible refine And.intro (by first | assumption | omega | (simp; done) | (simp; omega)) ?_)
                                    refine toEnd hC ?_
                                    refine endX_blk ?_
                                    refine endX_seq ?_
                                    refine runX_regionC fun C hC => ?_
                                    try simp -implicitDefEqProofs (maxSteps := 4000000) (disch := first | omega | decide | (simp only [go_sem]; omega)) only [go_sem, ↓reduceIte]
                                    repeat (with_reducible refine And.intro (by first | assumption | omega | (simp; done) | (simp; omega)) ?_)
                                    refine toEnd hC ?_
                                    refine endX_q (roundQ_normal ⟨m4, by omega, F11_S4 a0 x2 (IntKind.wrap .i64 ((IntKind.wrap .i64 (x24 + (5 : Int))) + (if (3000 : Int) < ((((a0.getD x2.toNat default).2.2.2).getD x25.toNat default).length : Int) then (3000 : Int) else ((((a0.getD x2.toNat default).2.2.2).getD x25.toNat default).length : Int)))) (IntKind.wrap .i64 (x25 + (1 : Int))), ?_, (IntKind.wrap .i64 ((IntKind.wrap .i64 (x24 + (5 : Int))) + (if (3000 : Int) < ((((a0.getD x2.toNat default).2.2.2).getD x25.toNat default).length : Int) then (3000 : Int) else ((((a0.getD x2.toNat default).2.2.2).getD x25.toNat default).length : Int)))), (IntKind.wrap .i64 (x25 + (1 : Int))), rfl, by omega, h⟩)
                                    simp only [F11_S4]
                                    (try simp -implicitDefEqProofs (maxSteps := 4000000) (disch := first | omega | decide | (simp only [go_sem]; omega)) only [go_sem, ↓reduceIte])
                                    first | exact leS_refl _ | (refine leS_le ?_ ?_ <;> first | exact leL_refl _ | exact leOs_refl _ | (repeat (first | exact leL_refl _ | refine leL_cons (by first | exact leT_refl _ | exact leT_virt | exact leT_junk _ | exact leT_sl | exact leT_sln | exact leT_nil) ?_)))
                                  · refine runX_condF rfl c27 ?_
                                    refine runX_exit ?_
                                    refine endX_seqE ?_
                                    refine endX_q (roundQ_exit ?_)
                                    refine endX_blkE ?_
                                    refine endX_blk ?_
                                    refine endX_seq ?_
                                    refine runX_regionC fun C hC => ?_
                                    try simp -implicitDefEqProofs (maxSteps := 4000000) (disch := first | omega | decide | (simp only [go_sem]; omega)) only [go_sem, ↓reduceIte]
                                    repeat (with_reducible refine And.intro (by first | assumption | omega | (simp; done) | (simp; omega)) ?_)
                                    refine toEnd hC ?_
                                    refine endX_lp ?_
                                    refine runX_seq ?_
                                    refine runX_seq ?_
                                    refine runX_regionC fun C hC => ?_
                                    try simp -implicitDefEqProofs (maxSteps := 4000000) (disch := first | omega | decide | (simp only [go_sem]; omega)) only [go_sem, ↓reduceIte]
                                    repeat (with_reducible refine And.intro (by first | assumption | omega | (simp; done) | (simp; omega)) ?_)
                                    refine toEnd hC ?_
                                    refine endX_seq ?_
                                    refine runX_condF rfl rfl ?_
                                    refine runX_exit ?_
                                    refine endX_seqE ?_
                                    refine endX_lpE ?_
                                    refine endX_blkE ?_
                                    refine endX_seq ?_
                                    refine runX_regionC fun C hC => ?_
                                    try simp -implicitDefEqProofs (maxSteps := 4000000) (disch := first | omega | decide | (simp only [go_sem]; omega)) only [go_sem, ↓reduceIte]
                                    repeat (with_reducible refine And.intro (by first | assumption | omega | (simp; done) | (simp; omega)) ?_)
                                    refine toEnd hC ?_
                                    refine endX_blk ?_
                                    refine endX_seq ?_
                                    refine runX_regionC fun C hC => ?_
                                    try simp -implicitDefEqProofs (maxSteps := 4000000) (disch := first | omega | decide | (simp only [go_sem]; omega)) only [go_sem, ↓reduceIte]
                                    repeat (with_reducible refine And.intro (by first | assumption | omega | (simp; done) | (simp; omega)) ?_)
                                    refine toEnd hC ?_
                                    refine endX_q (roundQ_normal ⟨m4, by omega, F11_S1 a0 (IntKind.wrap .i64 (x24 + (20 : Int))) (IntKind.wrap .i64 (x2 + (1 : Int))), ?_, (IntKind.wrap .i64 (x24 + (20 : Int))), (IntKind.wrap .i64 (x2 + (1 : Int))), rfl, by omega, h⟩)
                                    simp only [F11_S1]
                                    (try simp -implicitDefEqProofs (maxSteps := 4000000) (disch := first | omega | decide | (simp only [go_sem]; omega)) only [go_sem, ↓reduceIte])
                                    first | exact leS_refl _ | (refine leS_le ?_ ?_ <;> first | exact leL_refl _ | exact leOs_refl _ | (repeat (first | exact leL_refl _ | refine leL_cons (by first | exact leT_refl _ | exact leT_virt | exact leT_junk _ | exact leT_sl | exact leT_sln | exact leT_nil) ?_)))
                                · refine guardK_F c26 ?_
                                  try simp -implicitDefEqProofs (maxSteps := 4000000) (disch := first | omega | decide | (simp only [go_sem]; omega)) only [go_sem, ↓reduceIte]
                                  repeat (with_reducible refine And.intro (by first | assumption | omega | (simp; done) | (simp; omega)) ?_)
                                  refine toEnd hC ?_
                                  refine endX_seq ?_
                                  refine runX_condF rfl rfl ?_
                                  refine runX_exit ?_
                                  refine endX_seqE ?_
                                  refine endX_q (roundQ_exit ?_)
                                  refine endX_blkE ?_
                                  refine endX_blk ?_
                                  refine endX_seq ?_
                                  refine runX_regionC fun C hC => ?_
                                  try simp -implicitDefEqProofs (maxSteps := 4000000) (disch := first | omega | decide | (simp only [go_sem]; omega)) only [go_sem, ↓reduceIte]
                                  repeat (with_reducible refine And.intro (by first | assumption | omega | (simp; done) | (simp; omega)) ?_)
                                  refine toEnd hC ?_
                                  refine endX_lp ?_
                                  refine runX_seq ?_
                                  refine runX_seq ?_
                                  refine runX_regionC fun C hC => ?_
                                  try simp -implicitDefEqProofs (maxSteps := 4000000) (disch := first | omega | decide | (simp only [go_sem]; omega)) only [go_sem, ↓reduceIte]
                                  repeat (with_reducible refine And.intro (by first | assumption | omega | (simp; done) | (simp; omega)) ?_)
                                  refine toEnd hC ?_
                                  refine endX_seq ?_
                                  refine runX_condF rfl rfl ?_
                                  refine runX_exit ?_
                                  refine endX_seqE ?_
                                  refine endX_lpE ?_
                                  refine endX_blkE ?_
                                  refine endX_seq ?_
                                  refine runX_regionC fun C hC => ?_
                                  try simp -implicitDefEqProofs (maxSteps := 4000000) (disch := first | omega | decide | (simp only [go_sem]; omega)) only [go_sem, ↓reduceIte]
                                  repeat (with_reducible refine And.intro (by first | assumption | omega | (simp; done) | (simp; omega)) ?_)
                                  refine toEnd hC ?_
                                  refine endX_blk ?_
                                  refine endX_seq ?_
                                  refine runX_regionC fun C hC => ?_
                                  try simp -implicitDefEqProofs (maxSteps := 4000000) (disch := first | omega | decide | (simp only [go_sem]; omega)) only [go_sem, ↓reduceIte]
                                  repeat (with_reducible refine And.intro (by first | assumption | omega | (simp; done) | (simp; omega)) ?_)
                                  refine toEnd hC ?_
                                  refine endX_q (roundQ_normal ⟨m4, by omega, F11_S1 a0 (IntKind.wrap .i64 (x24 + (20 : Int))) (IntKind.wrap .i64 (x2 + (1 : Int))), ?_, (IntKind.wrap .i64 (x24 + (20 : Int))), (IntKind.wrap .i64 (x2 + (1 : Int))), rfl, by omega, h⟩)
                                  simp only [F11_S1]
                                  (try simp -implicitDefEqProofs (maxSteps := 4000000) (disch := first | omega | decide | (simp only [go_sem]; omega)) only [go_sem, ↓reduceIte])
                                  first | exact leS_refl _ | (refine leS_le ?_ ?_ <;> first | exact leL_refl _ | exact leOs_refl _ | (repeat (first | exact leL_refl _ | refine leL_cons (by first | exact leT_refl _ | exact leT_virt | exact leT_junk _ | exact leT_sl | exact leT_sln | exact leT_nil) ?_)))
                        · refine guardK_F c18 ?_
                          try simp -implicitDefEqProofs (maxSteps := 4000000) (disch := first | omega | decide | (simp only [go_sem]; omega)) only [go_sem, ↓reduceIte]
                          repeat (with_reducible refine And.intro (by first | assumption | omega | (simp; done) | (simp; omega)) ?_)
                          refine toEnd hC ?_
                          refine endX_seq ?_
                          refine runX_condF rfl rfl ?_
                          refine runX_exit ?_
                          refine endX_seqE ?_
                          refine endX_q (roundQ_exit ?_)
                          refine endX_blkE ?_
                          refine endX_blk ?_
                          refine endX_seq ?_
                          refine runX_regionC fun C hC => ?_
                          try simp -implicitDefEqProofs (maxSteps := 4000000) (disch := first | omega | decide | (simp only [go_sem]; omega)) only [go_sem, ↓reduceIte]
                          repeat (with_reducible refine And.intro (by first | assumption | omega | (simp; done) | (simp; omega)) ?_)
                          refine toEnd hC ?_
                          refine endX_lp ?_
                          refine runX_seq ?_
                          refine runX_seq ?_
                          refine runX_regionC fun C hC => ?_
                          try simp -implicitDefEqProofs (maxSteps := 4000000) (disch := first | omega | decide | (simp only [go_sem]; omega)) only [go_sem, ↓reduceIte]
                          repeat (with_reducible refine And.intro (by first | assumption | omega | (simp; done) | (simp; omega)) ?_)
                          refine toEnd hC ?_
                          refine endX_seq ?_
                          refine runX_condT rfl rfl ?_
                          refine runX_skip ?_
                          refine endX_seq ?_
                          refine runX_seq ?_
                          refine runX_block ?_
                          refine runX_seq ?_
                          refine runX_drawC mixed (by kernel_rfl) fun C hC => ?_
                          obtain ⟨g29, h⟩ := grd_some h
                          obtain ⟨g30, h⟩ := grd_some h
                          obtain ⟨g31, h⟩ := grd_some h
                          try simp -implicitDefEqProofs (maxSteps := 4000000) (disch := first | omega | decide | (simp only [go_sem]; omega)) only [go_sem, ↓reduceIte]
                          repeat (with_reducible refine And.intro (by first | assumption | omega | (simp; done) | (simp; omega)) ?_)
                          refine buildW_of [.sl 1 false (List.map eS ((a0.getD x2.toNat default).2.1)), .sl 1 false (List.map eS ((a0.getD x2.toNat default).2.2.1)), .sl 1 false (List.map eS ((a0.getD x2.toNat default).2.2.2))] (by kernel_rfl) ?_
                          try simp -implicitDefEqProofs (maxSteps := 4000000) (disch := first | omega | decide | (simp only [go_sem]; omega)) only [go_sem, ↓reduceIte]
                          repeat (with_reducible refine And.intro (by first | assumption | omega | (simp; done) | (simp; omega)) ?_)
                          refine toEnd hC ?_
                          refine endX_seq ?_
                          refine runX_seq ?_
                          refine runX_regionC fun C hC => ?_
                          try simp -implicitDefEqProofs (maxSteps := 4000000) (disch := first | omega | decide | (simp only [go_sem]; omega)) only [go_sem, ↓reduceIte]
                          repeat (with_reducible refine And.intro (by first | assumption | omega | (simp; done) | (simp; omega)) ?_)
                          refine toEnd hC ?_
                          refine endX_seq ?_
                          refine runX_block ?_
                          refine runX_loop [0, 3, 4, 5, 6, 7] (fun m S => ∃ (x32 : Int) (x33 : Int), S = F11_S5 a0 x2 x32 x33 ∧ m ≤ m3 ∧ F11_L5 m a0 x2 x32 x33 = some r) m3 ⟨F11_S5 a0 x2 x16 (0 : Int), ?_, x16, (0 : Int), rfl, Nat.le_refl _, h⟩ ?_
                          · simp only [F11_S5]
                            (try simp -implicitDefEqProofs (maxSteps := 4000000) (disch := first | omega | decide | (simp only [go_sem]; omega)) only [go_sem, ↓reduceIte])
                            first | exact leS_refl _ | (refine leS_le ?_ ?_ <;> first | exact leL_refl _ | exact leOs_refl _ | (repeat (first | exact leL_refl _ | refine leL_cons (by first | exact leT_refl _ | exact leT_virt | exact leT_junk _ | exact leT_sl | exact leT_sln | exact leT_nil) ?_)))
                          · clear h
                            rintro m5 S ⟨x32, x33, rfl, hm5, h⟩
                            cases m5 with
                            | zero => first | cases (show (none : Option _) = some _ from h) | (rw [F11_L5] at h; cases h)
                            | succ m5 =>
                              rw [F11_L5] at h
                              simp only [F11_S5]
                              refine runX_seq ?_
                              refine runX_seq ?_
                              refine runX_regionC fun C hC => ?_
                              try simp -implicitDefEqProofs (maxSteps := 4000000) (disch := first | omega | decide | (simp only [go_sem]; omega)) only [go_sem, ↓reduceIte]
                              repeat (with_reducible refine And.intro (by first | assumption | omega | (simp; done) | (simp; omega)) ?_)
                              rcases iteB_some h with ⟨c34, h⟩ | ⟨c34, h⟩
                              · refine guardK_T c34 ?_
                                try simp -implicitDefEqProofs (maxSteps := 4000000) (disch := first | omega | decide | (simp only [go_sem]; omega)) only [go_sem, ↓reduceIte]
                                repeat (with_reducible refine And.intro (by first | assumption | omega | (simp; done) | (simp; omega)) ?_)
                                refine toEnd hC ?_
                                refine endX_seq ?_
                                rcases iteB_some h with ⟨c35, h⟩ | ⟨c35, h⟩
                                · refine runX_condT rfl c35 ?_
                                  refine runX_skip ?_
                                  refine endX_seq ?_
                                  refine runX_seq ?_
                                  refine runX_block ?_
                                  refine runX_regionC fun C hC => ?_
                                  obtain ⟨g36, h⟩ := grd_some h
                                  try simp -implicitDefEqProofs (maxSteps := 4000000) (disch := first | omega | decide | (simp only [go_sem]; omega)) only [go_sem, ↓reduceIte]
                                  repeat (with_reducible refine And.intro (by first | assumption | omega | (simp; done) | (simp; omega)) ?_)
                                  refine toEnd hC ?_
                                  refine endX_blk ?_
                                  refine endX_seq ?_
                                  refine runX_regionC fun C hC => ?_
                                  try simp -implicitDefEqProofs (maxSteps := 4000000) (disch := first | omega | decide | (simp only [go_sem]; omega)) only [go_sem, ↓reduceIte]
                                  repeat (with_reducible refine And.intro (by first | assumption | omega | (simp; done) | (simp; omega)) ?_)
                                  refine toEnd hC ?_
                                  refine endX_q (roundQ_normal ⟨m5, by omega, F11_S5 a0 x2 (IntKind.wrap .i64 ((IntKind.wrap .i64 (x32 + (5 : Int))) + (if (3000 : Int) < ((((a0.getD x2.toNat default).2.2.2).getD x33.toNat default).length : Int) then (3000 : Int) else ((((a0.getD x2.toNat default).2.2.2).getD x33.toNat default).length : Int)))) (IntKind.wrap .i64 (x33 + (1 : Int))), ?_, (IntKind.wrap .i64 ((IntKind.wrap .i64 (x32 + (5 : Int))) + (if (3000 : Int) < ((((a0.getD x2.toNat default).2.2.2).getD x33.toNat default).length : Int) then (3000 : Int) else ((((a0.getD x2.toNat default).2.2.2).getD x33.toNat default).length : Int)))), (IntKind.wrap .i64 (x33 + (1 : Int))), rfl, by omega, h⟩)
                                  simp only [F11_S5]
                                  (try simp -implicitDefEqProofs (maxSteps := 4000000) (disch := first | omega | decide | (simp only [go_sem]; omega)) only [go_sem, ↓reduceIte])
                                  first | exact leS_refl _ | (refine leS_le ?_ ?_ <;> first | exact leL_refl _ | exact leOs_refl _ | (repeat (first | exact leL_refl _ | refine leL_cons (by first | exact leT_refl _ | exact leT_virt | exact leT_junk _ | exact leT_sl | exact leT_sln | exact leT_nil) ?_)))
                                · refine runX_condF rfl c35 ?_
                                  refine runX_exit ?_
                                  refine endX_seqE ?_
                                  refine endX_q (roundQ_exit ?_)
                                  refine endX_blkE ?_
                                  refine endX_blk ?_
                                  refine endX_seq ?_
                                  refine runX_regionC fun C hC => ?_
                                  try simp -implicitDefEqProofs (maxSteps := 4000000) (disch := first | omega | decide | (simp only [go_sem]; omega)) only [go_sem, ↓reduceIte]
                                  repeat (with_reducible refine And.intro (by first | assumption | omega | (simp; done) | (simp; omega)) ?_)
                                  refine toEnd hC ?_
                                  refine endX_lp ?_
                                  refine runX_seq ?_
                                  refine runX_seq ?_
                                  refine runX_regionC fun C hC => ?_
                                  try simp -implicitDefEqProofs (maxSteps := 4000000) (disch := first | omega | decide | (simp only [go_sem]; omega)) only [go_sem, ↓reduceIte]
                                  repeat (with_reducible refine And.intro (by first | assumption | omega | (simp; done) | (simp; omega)) ?_)
                                  refine toEnd hC ?_
                                  refine endX_seq ?_
                                  refine runX_condF rfl rfl ?_
                                  refine runX_exit ?_
                                  refine endX_seqE ?_
                                  refine endX_lpE ?_
                                  refine endX_blkE ?_
                                  refine endX_seq ?_
                                  refine runX_regionC fun C hC => ?_
                                  try simp -implicitDefEqProofs (maxSteps := 4000000) (disch := first | omega | decide | (simp only [go_sem]; omega)) only [go_sem, ↓reduceIte]
                                  repeat (with_reducible refine And.intro (by first | assumption | omega | (simp; done) | (simp; omega)) ?_)
                                  refine toEnd hC ?_
                                  refine endX_blk ?_
                                  refine endX_seq ?_
                                  refine runX_regionC fun C hC => ?_
                                  try simp -implicitDefEqProofs (maxSteps := 4000000) (disch := first | omega | decide | (simp only [go_sem]; omega)) only [go_sem, ↓reduceIte]
                                  repeat (with_reducible refine And.intro (by first | assumption | omega | (simp; done) | (simp; omega)) ?_)
                                  refine toEnd hC ?_
                                  refine endX_q (roundQ_normal ⟨m5, by omega, F11_S1 a0 (IntKind.wrap .i64 (x32 + (20 : Int))) (IntKind.wrap .i64 (x2 + (1 : Int))), ?_, (IntKind.wrap .i64 (x32 + (20 : Int))), (IntKind.wrap .i64 (x2 + (1 : Int))), rfl, by omega, h⟩)
                                  simp only [F11_S1]
                                  (try simp -implicitDefEqProofs (maxSteps := 4000000) (disch := first | omega | decide | (simp only [go_sem]; omega)) only [go_sem, ↓reduceIte])
                                  first | exact leS_refl _ | (refine leS_le ?_ ?_ <;> first | exact leL_refl _ | exact leOs_refl _ | (repeat (first | exact leL_refl _ | refine leL_cons (by first | exact leT_refl _ | exact leT_virt | exact leT_junk _ | exact leT_sl | exact leT_sln | exact leT_nil) ?_)))
                              · refine guardK_F c34 ?_
                                try simp -implicitDefEqProofs (maxSteps := 4000000) (disch := first | omega | decide | (simp only [go_sem]; omega)) only [go_sem, ↓reduceIte]
                                repeat (with_reducible refine And.intro (by first | assumption | omega | (simp; done) | (simp; omega)) ?_)
                                refine toEnd hC ?_
                                refine endX_seq ?_
                                refine runX_condF rfl rfl ?_
                                refine runX_exit ?_
                                refine endX_seqE ?_
                                refine endX_q (roundQ_exit ?_)
                                refine endX_blkE ?_
                                refine endX_blk ?_
                                refine endX_seq ?_
                                refine runX_regionC fun C hC => ?_
                                try simp -implicitDefEqProofs (maxSteps := 4000000) (disch := first | omega | decide | (simp only [go_sem]; omega)) only [go_sem, ↓reduceIte]
                                repeat (with_reducible refine And.intro (by first | assumption | omega | (simp; done) | (simp; omega)) ?_)
                                refine toEnd hC ?_
                                refine endX_lp ?_
                                refine runX_seq ?_
                                refine runX_seq ?_
                                refine runX_regionC fun C hC => ?_
                                try simp -implicitDefEqProofs (maxSteps := 4000000) (disch := first | omega | decide | (simp only [go_sem]; omega)) only [go_sem, ↓reduceIte]
                                repeat (with_reducible refine And.intro (by first | assumption | omega | (simp; done) | (simp; omega)) ?_)
                                refine toEnd hC ?_
                                refine endX_seq ?_
                                refine runX_condF rfl rfl ?_
                                refine runX_exit ?_
                                refine endX_seqE ?_
                                refine endX_lpE ?_
                                refine endX_blkE ?_
                                refine endX_seq ?_
                                refine runX_regionC fun C hC => ?_
                                try simp -implicitDefEqProofs (maxSteps := 4000000) (disch := first | omega | decide | (simp only [go_sem]; omega)) only [go_sem, ↓reduceIte]
                                repeat (with_reducible refine And.intro (by first | assumption | omega | (simp; done) | (simp; omega)) ?_)
                                refine toEnd hC ?_
                                refine endX_blk ?_
                                refine endX_seq ?_
                                refine runX_regionC fun C hC => ?_
                                try simp -implicitDefEqProofs (maxSteps := 4000000) (disch := first | omega | decide | (simp only [go_sem]; omega)) only [go_sem, ↓reduceIte]
                                repeat (with_reducible refine And.intro (by first | assumption | omega | (simp; done) | (simp; omega)) ?_)
                                refine toEnd hC ?_
                                refine endX_q (roundQ_normal ⟨m5, by omega, F11_S1 a0 (IntKind.wrap .i64 (x32 + (20 : Int))) (IntKind.wrap .i64 (x2 + (1 : Int))), ?_, (IntKind.wrap .i64 (x32 + (20 : Int))), (IntKind.wrap .i64 (x2 + (1 : Int))), rfl, by omega, h⟩)
                                simp only [F11_S1]
                                (try simp -implicitDefEqProofs (maxSteps := 4000000) (disch := first | omega | decide | (simp only [go_sem]; omega)) only [go_sem, ↓reduceIte])
                                first | exact leS_refl _ | (refine leS_le ?_ ?_ <;> first | exact leL_refl _ | exact leOs_refl _ | (repeat (first | exact leL_refl _ | refine leL_cons (by first | exact leT_refl _ | exact leT_virt | exact leT_junk _ | exact leT_sl | exact leT_sln | exact leT_nil) ?_)))
                · refine guardK_F c10 ?_
                  try simp -implicitDefEqProofs (maxSteps := 4000000) (disch := first | omega | decide | (simp only [go_sem]; omega)) only [go_sem, ↓reduceIte]
                  repeat (with_reducible refine And.intro (by first | assumption | omega | (simp; done) | (simp; omega)) ?_)
                  refine toEnd hC ?_
                  refine endX_seq ?_
                  refine runX_condF rfl rfl ?_
                  refine runX_exit ?_
                  refine endX_seqE ?_
                  refine endX_q (roundQ_exit ?_)
                  refine endX_blkE ?_
                  refine endX_blk ?_
                  refine endX_seq ?_
                  refine runX_regionC fun C hC => ?_
                  try simp -implicitDefEqProofs (maxSteps := 4000000) (disch := first | omega | decide | (simp only [go_sem]; omega)) only [go_sem, ↓reduceIte]
                  repeat (with_reducible refine And.intro (by first | assumption | omega | (simp; done) | (simp; omega)) ?_)
                  refine toEnd hC ?_
                  refine endX_lp ?_
                  refine runX_seq ?_
                  refine runX_seq ?_
                  refine runX_regionC fun C hC => ?_
                  try simp -implicitDefEqProofs (maxSteps := 4000000) (disch := first | omega | decide | (simp only [go_sem]; omega)) only [go_sem, ↓reduceIte]
                  repeat (with_reducible refine And.intro (by first | assumption | omega | (simp; done) | (simp; omega)) ?_)
                  refine toEnd hC ?_
                  refine endX_seq ?_
                  refine runX_condT rfl rfl ?_
                  refine runX_skip ?_
                  refine endX_seq ?_
                  refine runX_seq ?_
                  refine runX_block ?_
                  refine runX_seq ?_
                  refine runX_drawC mixed (by kernel_rfl) fun C hC => ?_
                  obtain ⟨g37, h⟩ := grd_some h
                  obtain ⟨g38, h⟩ := grd_some h
                  obtain ⟨g39, h⟩ := grd_some h
                  try simp -implicitDefEqProofs (maxSteps := 4000000) (disch := first | omega | decide | (simp only [go_sem]; omega)) only [go_sem, ↓reduceIte]
                  repeat (with_reducible refine And.intro (by first | assumption | omega | (simp; done) | (simp; omega)) ?_)
                  refine buildW_of [.sl 1 false (List.map eS ((a0.getD x2.toNat default).2.1)), .sl 1 false (List.map eS ((a0.getD x2.toNat default).2.2.1)), .sl 1 false (List.map eS ((a0.getD x2.toNat default).2.2.2))] (by kernel_rfl) ?_
                  try simp -implicitDefEqProofs (maxSteps := 4000000) (disch := first | omega | decide | (simp only [go_sem]; omega)) only [go_sem, ↓reduceIte]
                  repeat (with_reducible refine And.intro (by first | assumption | omega | (simp; done) | (simp; omega)) ?_)
                  refine toEnd hC ?_
                  refine endX_seq ?_
                  refine runX_seq ?_
                  refine runX_regionC fun C hC => ?_
                  try simp -implicitDefEqProofs (maxSteps := 4000000) (disch := first | omega | decide | (simp only [go_sem]; omega)) only [go_sem, ↓reduceIte]
                  repeat (with_reducible refine And.intro (by first | assumption | omega | (simp; done) | (simp; omega)) ?_)
                  refine toEnd hC ?_
                  refine endX_seq ?_
                  refine runX_block ?_
                  refine runX_loop [0, 3, 4, 5, 6, 7] (fun m S => ∃ (x40 : Int) (x41 : Int), S = F11_S6 a0 x2 x40 x41 ∧ m ≤ m2 ∧ F11_L6 m a0 x2 x40 x41 = some r) m2 ⟨F11_S6 a0 x2 x8 (0 : Int), ?_, x8, (0 : Int), rfl, Nat.le_refl _, h⟩ ?_
                  · simp only [F11_S6]
                    (try simp -implicitDefEqProofs (maxSteps := 4000000) (disch := first | omega | decide | (simp only [go_sem]; omega)) only [go_sem, ↓reduceIte])
                    first | exact leS_refl _ | (refine leS_le ?_ ?_ <;> first | exact leL_refl _ | exact leOs_refl _ | (repeat (first | exact leL_refl _ | refine leL_cons (by first | exact leT_refl _ | exact leT_virt | exact leT_junk _ | exact leT_sl | exact leT_sln | exact leT_nil) ?_)))
                  · clear h
                    rintro m6 S ⟨x40, x41, rfl, hm6, h⟩
                    cases m6 with
                    | zero => first | cases (show (none : Option _) = some _ from h) | (rw [F11_L6] at h; cases h)
                    | succ m6 =>
                      rw [F11_L6] at h
                      simp only [F11_S6]
                      refine runX_seq ?_
                      refine runX_seq ?_
                      refine runX_regionC fun C hC => ?_
                      try simp -implicitDefEqProofs (maxSteps := 4000000) (disch := first | omega | decide | (simp only [go_sem]; omega)) only [go_sem, ↓reduceIte]
                      repeat (with_reducible refine And.intro (by first | assumption | omega | (simp; done) | (simp; omega)) ?_)
                      rcases iteB_some h with ⟨c42, h⟩ | ⟨c42, h⟩
                      · refine guardK_T c42 ?_
                        try simp -implicitDefEqProofs (maxSteps := 4000000) (disch := first | omega | decide | (simp only [go_sem]; omega)) only [go_sem, ↓reduceIte]
                        repeat (with_reducible refine And.intro (by first | assumption | omega | (simp; done) | (simp; omega)) ?_)
                        refine toEnd hC ?_
                        refine endX_seq ?_
                        rcases iteB_some h with ⟨c43, h⟩ | ⟨c43, h⟩
                        · refine runX_condT rfl c43 ?_
                          refine runX_skip ?_
                          refine endX_seq ?_
                          refine runX_seq ?_
                          refine runX_block ?_
                          refine runX_regionC fun C hC => ?_
                          obtain ⟨g44, h⟩ := grd_some h
                          try simp -implicitDefEqProofs (maxSteps := 4000000) (disch := first | omega | decide | (simp only [go_sem]; omega)) only [go_sem, ↓reduceIte]
                          repeat (with_reducible refine And.intro (by first | assumption | omega | (simp; done) | (simp; omega)) ?_)
                          refine toEnd hC ?_
                          refine endX_blk ?_
                          refine endX_seq ?_
                          refine runX_regionC fun C hC => ?_
                          try simp -implicitDefEqProofs (maxSteps := 4000000) (disch := first | omega | decide | (simp only [go_sem]; omega)) only [go_sem, ↓reduceIte]
                          repeat (with_reducible refine And.intro (by first | assumption | omega | (simp; done) | (simp; omega)) ?_)
                          refine toEnd hC ?_
                          refine endX_q (roundQ_normal ⟨m6, by omega, F11_S6 a0 x2 (IntKind.wrap .i64 ((IntKind.wrap .i64 (x40 + (5 : Int))) + (if (3000 : Int) < ((((a0.getD x2.toNat default).2.2.1).getD x41.toNat default).length : Int) then (3000 : Int) else ((((a0.getD x2.toNat default).2.2.1).getD x41.toNat default).length : Int)))) (IntKind.wrap .i64 (x41 + (1 : Int))), ?_, (IntKind.wrap .i64 ((IntKind.wrap .i64 (x40 + (5 : Int))) + (if (3000 : Int) < ((((a0.getD x2.toNat default).2.2.1).getD x41.toNat default).length : Int) then (3000 : Int) else ((((a0.getD x2.toNat default).2.2.1).getD x41.toNat default).length : Int)))), (IntKind.wrap .i64 (x41 + (1 : Int))), rfl, by omega, h⟩)
                          simp only [F11_S6]
                          (try simp -implicitDefEqProofs (maxSteps := 4000000) (disch := first | omega | decide | (simp only [go_sem]; omega)) only [go_sem, ↓reduceIte])
                          first | exact leS_refl _ | (refine leS_le ?_ ?_ <;> first | exact leL_refl _ | exact leOs_refl _ | (repeat (first | exact leL_refl _ | refine leL_cons (by first | exact leT_refl _ | exact leT_virt | exact leT_junk _ | exact leT_sl | exact leT_sln | exact leT_nil) ?_)))
                        · refine runX_condF rfl c43 ?_
                          refine runX_exit ?_
                          refine endX_seqE ?_
                          refine endX_q (roundQ_exit ?_)
                          refine endX_blkE ?_
                          refine endX_blk ?_
                          refine endX_seq ?_
                          refine runX_regionC fun C hC => ?_
                          try simp -implicitDefEqProofs (maxSteps := 4000000) (disch := first | omega | decide | (simp only [go_sem]; omega)) only [go_sem, ↓reduceIte]
                          repeat (with_reducible refine And.intro (by first | assumption | omega | (simp; done) | (simp; omega)) ?_)
                          refine toEnd hC ?_
                          refine endX_lp ?_
                          refine runX_seq ?_
                          refine runX_seq ?_
                          refine runX_regionC fun C hC => ?_
                          try simp -implicitDefEqProofs (maxSteps := 4000000) (disch := first | omega | decide | (simp only [go_sem]; omega)) only [go_sem, ↓reduceIte]
                          repeat (with_reducible refine And.intro (by first | assumption | omega | (simp; done) | (simp; omega)) ?_)
                          refine toEnd hC ?_
                          refine endX_seq ?_
                          refine runX_condT rfl rfl ?_
                          refine runX_skip ?_
                          refine endX_seq ?_
                          refine runX_seq ?_
                          refine runX_block ?_
                          refine runX_seq ?_
                          refine runX_drawC mixed (by kernel_rfl) fun C hC => ?_
                          obtain ⟨g45, h⟩ := grd_some h
                          obtain ⟨g46, h⟩ := grd_some h
                          obtain ⟨g47, h⟩ := grd_some h
                          try simp -implicitDefEqProofs (maxSteps := 4000000) (disch := first | omega | decide | (simp only [go_sem]; omega)) only [go_sem, ↓reduceIte]
                          repeat (with_reducible refine And.intro (by first | assumption | omega | (simp; done) | (simp; omega)) ?_)
                          refine buildW_of [.sl 1 false (List.map eS ((a0.getD x2.toNat default).2.1)), .sl 1 false (List.map eS ((a0.getD x2.toNat default).2.2.1)), .sl 1 false (List.map eS ((a0.getD x2.toNat default).2.2.2))] (by kernel_rfl) ?_
                          try simp -implicitDefEqProofs (maxSteps := 4000000) (disch := first | omega | decide | (simp only [go_sem]; omega)) only [go_sem, ↓reduceIte]
                          repeat (with_reducible refine And.intro (by first | assumption | omega | (simp; done) | (simp; omega)) ?_)
                          refine toEnd hC ?_
                          refine endX_seq ?_
                          refine runX_seq ?_
                          refine runX_regionC fun C hC => ?_
                          try simp -implicitDefEqProofs (maxSteps := 4000000) (disch := first | omega | decide | (simp only [go_sem]; omega)) only [go_sem, ↓reduceIte]
                          repeat (with_reducible refine And.intro (by first | assumption | omega | (simp; done) | (simp; omega)) ?_)
                          refine toEnd hC ?_
                          refine endX_seq ?_
                          refine runX_block ?_
                          refine runX_loop [0, 3, 4, 5, 6, 7] (fun m S => ∃ (x48 : Int) (x49 : Int), S = F11_S7 a0 x2 x48 x49 ∧ m ≤ m6 ∧ F11_L7 m a0 x2 x48 x49 = some r) m6 ⟨F11_S7 a0 x2 x40 (0 : Int), ?_, x40, (0 : Int), rfl, Nat.le_refl _, h⟩ ?_
                          · simp only [F11_S7]
                            (try simp -implicitDefEqProofs (maxSteps := 4000000) (disch := first | omega | decide | (simp only [go_sem]; omega)) only [go_sem, ↓reduceIte])
                            first | exact leS_refl _ | (refine leS_le ?_ ?_ <;> first | exact leL_refl _ | exact leOs_refl _ | (repeat (first | exact leL_refl _ | refine leL_cons (by first | exact leT_refl _ | exact leT_virt | exact leT_junk _ | exact leT_sl | exact leT_sln | exact leT_nil) ?_)))
                          · clear h
                            rintro m7 S ⟨x48, x49, rfl, hm7, h⟩
                            cases m7 with
                            | zero => first | cases (show (none : Option _) = some _ from h) | (rw [F11_L7] at h; cases h)
                            | succ m7 =>
                              rw [F11_L7] at h
                              simp only [F11_S7]
                              refine runX_seq ?_
                              refine runX_seq ?_
                              refine runX_regionC fun C hC => ?_
                              try simp -implicitDefEqProofs (maxSteps := 4000000) (disch := first | omega | decide | (simp only [go_sem]; omega)) only [go_sem, ↓reduceIte]
                              repeat (with_reducible refine And.intro (by first | assumption | omega | (simp; done) | (simp; omega)) ?_)
                              rcases iteB_some h with ⟨c50, h⟩ | ⟨c50, h⟩
                              · refine guardK_T c50 ?_
                                try simp -implicitDefEqProofs (maxSteps := 4000000) (disch := first | omega | decide | (simp only [go_sem]; omega)) only [go_sem, ↓reduceIte]
                                repeat (with_reducible refine And.intro (by first | assumption | omega | (simp; done) | (simp; omega)) ?_)
                                refine toEnd hC ?_
                                refine endX_seq ?_
                                rcases iteB_some h with ⟨c51, h⟩ | ⟨c51, h⟩
                                · refine runX_condT rfl c51 ?_
                                  refine runX_skip ?_
                                  refine endX_seq ?_
                                  refine runX_seq ?_
                                  refine runX_block ?_
                                  refine runX_regionC fun C hC => ?_
                                  obtain ⟨g52, h⟩ := grd_some h
                                  try simp -implicitDefEqProofs (maxSteps := 4000000) (disch := first | omega | decide | (simp only [go_sem]; omega)) only [go_sem, ↓reduceIte]
                                  repeat (with_reducible refine And.intro (by first | assumption | omega | (simp; done) | (simp; omega)) ?_)
                                  refine toEnd hC ?_
                                  refine endX_blk ?_
                                  refine endX_seq ?_
                                  refine runX_regionC fun C hC => ?_
                                  try simp -implicitDefEqProofs (maxSteps := 4000000) (disch := first | omega | decide | (simp only [go_sem]; omega)) only [go_sem, ↓reduceIte]
                                  repeat (with_reducible refine And.intro (by first | assumption | omega | (simp; done) | (simp; omega)) ?_)
                                  refine toEnd hC ?_
                                  refine endX_q (roundQ_normal ⟨m7, by omega, F11_S7 a0 x2 (IntKind.wrap .i64 ((IntKind.wrap .i64 (x48 + (5 : Int))) + (if (3000 : Int) < ((((a0.getD x2.toNat default).2.2.2).getD x49.toNat default).length : Int) then (3000 : Int) else ((((a0.getD x2.toNat default).2.2.2).getD x49.toNat default).length : Int)))) (IntKind.wrap .i64 (x49 + (1 : Int))), ?_, (IntKind.wrap .i64 ((IntKind.wrap .i64 (x48 + (5 : Int))) + (if (3000 : Int) < ((((a0.getD x2.toNat default).2.2.2).getD x49.toNat default).length : Int) then (3000 : Int) else ((((a0.getD x2.toNat default).2.2.2).getD x49.toNat default).length : Int)))), (IntKind.wrap .i64 (x49 + (1 : Int))), rfl, by omega, h⟩)
                                  simp only [F11_S7]
                                  (try simp -implicitDefEqProofs (maxSteps := 4000000) (disch := first | omega | decide | (simp only [go_sem]; omega)) only [go_sem, ↓reduceIte])
                                  first | exact leS_refl _ | (refine leS_le ?_ ?_ <;> first | exact leL_refl _ | exact leOs_refl _ | (repeat (first | exact leL_refl _ | refine leL_cons (by first | exact leT_refl _ | exact leT_virt | exact leT_junk _ | exact leT_sl | exact leT_sln | exact leT_nil) ?_)))
                                · refine runX_condF rfl c51 ?_
                                  refine runX_exit ?_
                                  refine endX_seqE ?_
                                  refine endX_q (roundQ_exit ?_)
                                  refine endX_blkE ?_
                                  refine endX_blk ?_
                                  refine endX_seq ?_
                                  refine runX_regionC fun C hC => ?_
                                  try simp -implicitDefEqProofs (maxSteps := 4000000) (disch := first | omega | decide | (simp only [go_sem]; omega)) only [go_sem, ↓reduceIte]
                                  repeat (with_reducible refine And.intro (by first | assumption | omega | (simp; done) | (simp; omega)) ?_)
                                  refine toEnd hC ?_
                                  refine endX_lp ?_
                                  refine runX_seq ?_
                                  refine runX_seq ?_
                                  refine runX_regionC fun C hC => ?_
                                  try simp -implicitDefEqProofs (maxSteps := 4000000) (disch := first | omega | decide | (simp only [go_sem]; omega)) only [go_sem, ↓reduceIte]
                                  repeat (with_reducible refine And.intro (by first | assumption | omega | (simp; done) | (simp; omega)) ?_)
                                  refine toEnd hC ?_
                                  refine endX_seq ?_
                                  refine runX_condF rfl rfl ?_
                                  refine runX_exit ?_
                                  refine endX_seqE ?_
                                  refine endX_lpE ?_
                                  refine endX_blkE ?_
                                  refine endX_seq ?_
                                  refine runX_regionC fun C hC => ?_
                                  try simp -implicitDefEqProofs (maxSteps := 4000000) (disch := first | omega | decide | (simp only [go_sem]; omega)) only [go_sem, ↓reduceIte]
                                  repeat (with_reducible refine And.intro (by first | assumption | omega | (simp; done) | (simp; omega)) ?_)
                                  refine toEnd hC ?_
                                  refine endX_blk ?_
                                  refine endX_seq ?_
                                  refine runX_regionC fun C hC => ?_
                                  try simp -implicitDefEqProofs (maxSteps := 4000000) (disch := first | omega | decide | (simp only [go_sem]; omega)) only [go_sem, ↓reduceIte]
                                  repeat (with_reducible refine And.intro (by first | assumption | omega | (simp; done) | (simp; omega)) ?_)
                                  refine toEnd hC ?_
                                  refine endX_q (roundQ_normal ⟨m7, by omega, F11_S1 a0 (IntKind.wrap .i64 (x48 + (20 : Int))) (IntKind.wrap .i64 (x2 + (1 : Int))), ?_, (IntKind.wrap .i64 (x48 + (20 : Int))), (IntKind.wrap .i64 (x2 + (1 : Int))), rfl, by omega, h⟩)
                                  simp only [F11_S1]
                                  (try simp -implicitDefEqProofs (maxSteps := 4000000) (disch := first | omega | decide | (simp only [go_sem]; omega)) only [go_sem, ↓reduceIte])
                                  first | exact leS_refl _ | (refine leS_le ?_ ?_ <;> first | exact leL_refl _ | exact leOs_refl _ | (repeat (first | exact leL_refl _ | refine leL_cons (by first | exact leT_refl _ | exact leT_virt | exact leT_junk _ | exact leT_sl | exact leT_sln | exact leT_nil) ?_)))
                              · refine guardK_F c50 ?_
                                try simp -implicitDefEqProofs (maxSteps := 4000000) (disch := first | omega | decide | (simp only [go_sem]; omega)) only [go_sem, ↓reduceIte]
                                repeat (with_reducible refine And.intro (by first | assumption | omega | (simp; done) | (simp; omega)) ?_)
                                refine toEnd hC ?_
                                refine endX_seq ?_
                                refine runX_condF rfl rfl ?_
                                refine runX_exit ?_
                                refine endX_seqE ?_
                                refine endX_q (roundQ_exit ?_)
                                refine endX_blkE ?_
                                refine endX_blk ?_
                                refine endX_seq ?_
                                refine runX_regionC fun C hC => ?_
                                try simp -implicitDefEqProofs (maxSteps := 4000000) (disch := first | omega | decide | (simp only [go_sem]; omega)) only [go_sem, ↓reduceIte]
                                repeat (with_reducible refine And.intro (by first | assumption | omega | (simp; done) | (simp; omega)) ?_)
                                refine toEnd hC ?_
                                refine endX_lp ?_
                                refine runX_seq ?_
                                refine runX_seq ?_
                                refine runX_regionC fun C hC => ?_
                                try simp -implicitDefEqProofs (maxSteps := 4000000) (disch := first | omega | decide | (simp only [go_sem]; omega)) only [go_sem, ↓reduceIte]
                                repeat (with_reducible refine And.intro (by first | assumption | omega | (simp; done) | (simp; omega)) ?_)
                                refine toEnd hC ?_
                                refine endX_seq ?_
                                refine runX_condF rfl rfl ?_
                                refine runX_exit ?_
                                refine endX_seqE ?_
                                refine endX_lpE ?_
                                refine endX_blkE ?_
                                refine endX_seq ?_
                                refine runX_regionC fun C hC => ?_
                                try simp -implicitDefEqProofs (maxSteps := 4000000) (disch := first | omega | decide | (simp only [go_sem]; omega)) only [go_sem, ↓reduceIte]
                                repeat (with_reducible refine And.intro (by first | assumption | omega | (simp; done) | (simp; omega)) ?_)
                                refine toEnd hC ?_
                                refine endX_blk ?_
                                refine endX_seq ?_
                                refine runX_regionC fun C hC => ?_
                                try simp -implicitDefEqProofs (maxSteps := 4000000) (disch := first | omega | decide | (simp only [go_sem]; omega)) only [go_sem, ↓reduceIte]
                                repeat (with_reducible refine And.intro (by first | assumption | omega | (simp; done) | (simp; omega)) ?_)
                                refine toEnd hC ?_
                                refine endX_q (roundQ_normal ⟨m7, by omega, F11_S1 a0 (IntKind.wrap .i64 (x48 + (20 : Int))) (IntKind.wrap .i64 (x2 + (1 : Int))), ?_, (IntKind.wrap .i64 (x48 + (20 : Int))), (IntKind.wrap .i64 (x2 + (1 : Int))), rfl, by omega, h⟩)
                                simp only [F11_S1]
                                (try simp -implicitDefEqProofs (maxSteps := 4000000) (disch := first | omega | decide | (simp only [go_sem]; omega)) only [go_sem, ↓reduceIte])
                                first | exact leS_refl _ | (refine leS_le ?_ ?_ <;> first | exact leL_refl _ | exact leOs_refl _ | (repeat (first | exact leL_refl _ | refine leL_cons (by first | exact leT_refl _ | exact leT_virt | exact leT_junk _ | exact leT_sl | exact leT_sln | exact leT_nil) ?_)))
                      · refine guardK_F c42 ?_
                        try simp -implicitDefEqProofs (maxSteps := 4000000) (disch := first | omega | decide | (simp only [go_sem]; omega)) only [go_sem, ↓reduceIte]
                        repeat (with_reducible refine And.intro (by first | assumption | omega | (simp; done) | (simp; omega)) ?_)
                        refine toEnd hC ?_
                        refine endX_seq ?_
                        refine runX_condF rfl rfl ?_
                        refine runX_exit ?_
                        refine endX_seqE ?_
                        refine endX_q (roundQ_exit ?_)
                        refine endX_blkE ?_
                        refine endX_blk ?_
                        refine endX_seq ?_
                        refine runX_regionC fun C hC => ?_
                        try simp -implicitDefEqProofs (maxSteps := 4000000) (disch := first | omega | decide | (simp only [go_sem]; omega)) only [go_sem, ↓reduceIte]
                        repeat (with_reducible refine And.intro (by first | assumption | omega | (simp; done) | (simp; omega)) ?_)
                        refine toEnd hC ?_
                        refine endX_lp ?_
                        refine runX_seq ?_
                        refine runX_seq ?_
                        refine runX_regionC fun C hC => ?_
                        try simp -implicitDefEqProofs (maxSteps := 4000000) (disch := first | omega | decide | (simp only [go_sem]; omega)) only [go_sem, ↓reduceIte]
                        repeat (with_reducible refine And.intro (by first | assumption | omega | (simp; done) | (simp; omega)) ?_)
                        refine toEnd hC ?_
                        refine endX_seq ?_
                        refine runX_condT rfl rfl ?_
                        refine runX_skip ?_
                        refine endX_seq ?_
                        refine runX_seq ?_
                        refine runX_block ?_
                        refine runX_seq ?_
                        refine runX_drawC mixed (by kernel_rfl) fun C hC => ?_
                        obtain ⟨g53, h⟩ := grd_some h
                        obtain ⟨g54, h⟩ := grd_some h
                        obtain ⟨g55, h⟩ := grd_some h
                        try simp -implicitDefEqProofs (maxSteps := 4000000) (disch := first | omega | decide | (simp only [go_sem]; omega)) only [go_sem, ↓reduceIte]
                        repeat (with_reducible refine And.intro (by first | assumption | omega | (simp; done) | (simp; omega)) ?_)
                        refine buildW_of [.sl 1 false (List.map eS ((a0.getD x2.toNat default).2.1)), .sl 1 false (List.map eS ((a0.getD x2.toNat default).2.2.1)), .sl 1 false (List.map eS ((a0.getD x2.toNat default).2.2.2))] (by kernel_rfl) ?_
                        try simp -implicitDefEqProofs (maxSteps := 4000000) (disch := first | omega | decide | (simp only [go_sem]; omega)) only [go_sem, ↓reduceIte]
                        repeat (with_reducible refine And.intro (by first | assumption | omega | (simp; done) | (simp; omega)) ?_)
                        refine toEnd hC ?_
                        refine endX_seq ?_
                        refine runX_seq ?_
                        refine runX_regionC fun C hC => ?_
                        try simp -implicitDefEqProofs (maxSteps := 4000000) (disch := first | omega | decide | (simp only [go_sem]; omega)) only [go_sem, ↓reduceIte]
                        repeat (with_reducible refine And.intro (by first | assumption | omega | (simp; done) | (simp; omega)) ?_)
                        refine toEnd hC ?_
                        refine endX_seq ?_
                        refine runX_block ?_
                        refine runX_loop [0, 3, 4, 5, 6, 7] (fun m S => ∃ (x56 : Int) (x57 : Int), S = F11_S8 a0 x2 x56 x57 ∧ m ≤ m6 ∧ F11_L8 m a0 x2 x56 x57 = some r) m6 ⟨F11_S8 a0 x2 x40 (0 : Int), ?_, x40, (0 : Int), rfl, Nat.le_refl _, h⟩ ?_
                        · simp only [F11_S8]
                          (try simp -implicitDefEqProofs (maxSteps := 4000000) (disch := first | omega | decide | (simp only [go_sem]; omega)) only [go_sem, ↓reduceIte])
                          first | exact leS_refl _ | (refine leS_le ?_ ?_ <;> first | exact leL_refl _ | exact leOs_refl _ | (repeat (first | exact leL_refl _ | refine leL_cons (by first | exact leT_refl _ | exact leT_virt | exact leT_junk _ | exact leT_sl | exact leT_sln | exact leT_nil) ?_)))
                        · clear h
                          rintro m8 S ⟨x56, x57, rfl, hm8, h⟩
                          cases m8 with
                          | zero => first | cases (show (none : Option _) = some _ from h) | (rw [F11_L8] at h; cases h)
                          | succ m8 =>
                            rw [F11_L8] at h
                            simp only [F11_S8]
                            refine runX_seq ?_
                            refine runX_seq ?_
                            refine runX_regionC fun C hC => ?_
                            try simp -implicitDefEqProofs (maxSteps := 4000000) (disch := first | omega | decide | (simp only [go_sem]; omega)) only [go_sem, ↓reduceIte]
                            repeat (with_reducible refine And.intro (by first | assumption | omega | (simp; done) | (simp; omega)) ?_)
                            rcases iteB_some h with ⟨c58, h⟩ | ⟨c58, h⟩
                            · refine guardK_T c58 ?_
                              try simp -implicitDefEqProofs (maxSteps := 4000000) (disch := first | omega | decide | (simp only [go_sem]; omega)) only [go_sem, ↓reduceIte]
                              repeat (with_reducible refine And.intro (by first | assumption | omega | (simp; done) | (simp; omega)) ?_)
                              refine toEnd hC ?_
                              refine endX_seq ?_
                              rcases iteB_some h with ⟨c59, h⟩ | ⟨c59, h⟩
                              · refine runX_condT rfl c59 ?_
                                refine runX_skip ?_
                                refine endX_seq ?_
                                refine runX_seq ?_
                                refine runX_block ?_
                                refine runX_regionC fun C hC => ?_
                                obtain ⟨g60, h⟩ := grd_some h
                                try simp -implicitDefEqProofs (maxSteps := 4000000) (disch := first | omega | decide | (simp only [go_sem]; omega)) only [go_sem, ↓reduceIte]
                                repeat (with_reducible refine And.intro (by first | assumption | omega | (simp; done) | (simp; omega)) ?_)
                                refine toEnd hC ?_
                                refine endX_blk ?_
                                refine endX_seq ?_
                                refine runX_regionC fun C hC => ?_
                                try simp -implicitDefEqProofs (maxSteps := 4000000) (disch := first | omega | decide | (simp only [go_sem]; omega)) only [go_sem, ↓reduceIte]
                                repeat (with_reducible refine And.intro (by first | assumption | omega | (simp; done) | (simp; omega)) ?_)
                                refine toEnd hC ?_
                                refine endX_q (roundQ_normal ⟨m8, by omega, F11_S8 a0 x2 (IntKind.wrap .i64 ((IntKind.wrap .i64 (x56 + (5 : Int))) + (if (3000 : Int) < ((((a0.getD x2.toNat default).2.2.2).getD x57.toNat default).length : Int) then (3000 : Int) else ((((a0.getD x2.toNat default).2.2.2).getD x57.toNat default).length : Int)))) (IntKind.wrap .i64 (x57 + (1 : Int))), ?_, (IntKind.wrap .i64 ((IntKind.wrap .i64 (x56 + (5 : Int))) + (if (3000 : Int) < ((((a0.getD x2.toNat default).2.2.2).getD x57.toNat default).length : Int) then (3000 : Int) else ((((a0.getD x2.toNat default).2.2.2).getD x57.toNat default).length : Int)))), (IntKind.wrap .i64 (x57 + (1 : Int))), rfl, by omega, h⟩)
                                simp only [F11_S8]
                                (try simp -implicitDefEqProofs (maxSteps := 4000000) (disch := first | omega | decide | (simp only [go_sem]; omega)) only [go_sem, ↓reduceIte])
                                first | exact leS_refl _ | (refine leS_le ?_ ?_ <;> first | exact leL_refl _ | exact leOs_refl _ | (repeat (first | exact leL_refl _ | refine leL_cons (by first | exact leT_refl _ | exact leT_virt | exact leT_junk _ | exact leT_sl | exact leT_sln | exact leT_nil) ?_)))
                              · refine runX_condF rfl c59 ?_
                                refine runX_exit ?_
                                refine endX_seqE ?_
                                refine endX_q (roundQ_exit ?_)
                                refine endX_blkE ?_
                                refine endX_blk ?_
                                refine endX_seq ?_
                                refine runX_regionC fun C hC => ?_
                                try simp -implicitDefEqProofs (maxSteps := 4000000) (disch := first | omega | decide | (simp only [go_sem]; omega)) only [go_sem, ↓reduceIte]
                                repeat (with_reducible refine And.intro (by first | assumption | omega | (simp; done) | (simp; omega)) ?_)
                                refine toEnd hC ?_
                                refine endX_lp ?_
                                refine runX_seq ?_
                                refine runX_seq ?_
                                refine runX_regionC fun C hC => ?_
                                try simp -implicitDefEqProofs (maxSteps := 4000000) (disch := first | omega | decide | (simp only [go_sem]; omega)) only [go_sem, ↓reduceIte]
                                repeat (with_reducible refine And.intro (by first | assumption | omega | (simp; done) | (simp; omega)) ?_)
                                refine toEnd hC ?_
                                refine endX_seq ?_
                                refine runX_condF rfl rfl ?_
                                refine runX_exit ?_
                                refine endX_seqE ?_
                                refine endX_lpE ?_
                                refine endX_blkE ?_
                                refine endX_seq ?_
                                refine runX_regionC fun C hC => ?_
                                try simp -implicitDefEqProofs (maxSteps := 4000000) (disch := first | omega | decide | (simp only [go_sem]; omega)) only [go_sem, ↓reduceIte]
                                repeat (with_reducible refine And.intro (by first | assumption | omega | (simp; done) | (simp; omega)) ?_)
                                refine toEnd hC ?_
                                refine endX_blk ?_
                                refine endX_seq ?_
                                refine runX_regionC fun C hC => ?_
                                try simp -implicitDefEqProofs (maxSteps := 4000000) (disch := first | omega | decide | (simp only [go_sem]; omega)) only [go_sem, ↓reduceIte]
                                repeat (with_reducible refine And.intro (by first | assumption | omega | (simp; done) | (simp; omega)) ?_)
                                refine toEnd hC ?_
                                refine endX_q (roundQ_normal ⟨m8, by omega, F11_S1 a0 (IntKind.wrap .i64 (x56 + (20 : Int))) (IntKind.wrap .i64 (x2 + (1 : Int))), ?_, (IntKind.wrap .i64 (x56 + (20 : Int))), (IntKind.wrap .i64 (x2 + (1 : Int))), rfl, by omega, h⟩)
                                simp only [F11_S1]
                                (try simp -implicitDefEqProofs (maxSteps := 4000000) (disch := first | omega | decide | (simp only [go_sem]; omega)) only [go_sem, ↓reduceIte])
                                first | exact leS_refl _ | (refine leS_le ?_ ?_ <;> first | exact leL_refl _ | exact leOs_refl _ | (repeat (first | exact leL_refl _ | refine leL_cons (by first | exact leT_refl _ | exact leT_virt | exact leT_junk _ | exact leT_sl | exact leT_sln | exact leT_nil) ?_)))
                            · refine guardK_F c58 ?_
                              try simp -implicitDefEqProofs (maxSteps := 4000000) (disch := first | omega | decide | (simp only [go_sem]; omega)) only [go_sem, ↓reduceIte]
                              repeat (with_reducible refine And.intro (by first | assumption | omega | (simp; done) | (simp; omega)) ?_)
                              refine toEnd hC ?_
                              refine endX_seq ?_
                              refine runX_condF rfl rfl ?_
                              refine runX_exit ?_
                              refine endX_seqE ?_
                              refine endX_q (roundQ_exit ?_)
                              refine endX_blkE ?_
                              refine endX_blk ?_
                              refine endX_seq ?_
                              refine runX_regionC fun C hC => ?_
                              try simp -implicitDefEqProofs (maxSteps := 4000000) (disch := first | omega | decide | (simp only [go_sem]; omega)) only [go_sem, ↓reduceIte]
                              repeat (with_reducible refine And.intro (by first | assumption | omega | (simp; done) | (simp; omega)) ?_)
                              refine toEnd hC ?_
                              refine endX_lp ?_
                              refine runX_seq ?_
                              refine runX_seq ?_
                              refine runX_regionC fun C hC => ?_
                              try simp -implicitDefEqProofs (maxSteps := 4000000) (disch := first | omega | decide | (simp only [go_sem]; omega)) only [go_sem, ↓reduceIte]
                              repeat (with_reducible refine And.intro (by first | assumption | omega | (simp; done) | (simp; omega)) ?_)
                              refine toEnd hC ?_
                              refine endX_seq ?_
                              refine runX_condF rfl rfl ?_
                              refine runX_exit ?_
                              refine endX_seqE ?_
                              refine endX_lpE ?_
                              refine endX_blkE ?_
                              refine endX_seq ?_
                              refine runX_regionC fun C hC => ?_
                              try simp -implicitDefEqProofs (maxSteps := 4000000) (disch := first | omega | decide | (simp only [go_sem]; omega)) only [go_sem, ↓reduceIte]
                              repeat (with_reducible refine And.intro (by first | assumption | omega | (simp; done) | (simp; omega)) ?_)
                              refine toEnd hC ?_
                              refine endX_blk ?_
                              refine endX_seq ?_
                              refine runX_regionC fun C hC => ?_
                              try simp -implicitDefEqProofs (maxSteps := 4000000) (disch := first | omega | decide | (simp only [go_sem]; omega)) only [go_sem, ↓reduceIte]
                              repeat (with_reducible refine And.intro (by first | assumption | omega | (simp; done) | (simp; omega)) ?_)
                              refine toEnd hC ?_
                              refine endX_q (roundQ_normal ⟨m8, by omega, F11_S1 a0 (IntKind.wrap .i64 (x56 + (20 : Int))) (IntKind.wrap .i64 (x2 + (1 : Int))), ?_, (IntKind.wrap .i64 (x56 + (20 : Int))), (IntKind.wrap .i64 (x2 + (1 : Int))), rfl, by omega, h⟩)
                              simp only [F11_S1]
                              (try simp -implicitDefEqProofs (maxSteps := 4000000) (disch := first | omega | decide | (simp only [go_sem]; omega)) only [go_sem, ↓reduceIte])
                              first | exact leS_refl _ | (refine leS_le ?_ ?_ <;> first | exact leL_refl _ | exact leOs_refl _ | (repeat (first | exact leL_refl _ | refine leL_cons (by first | exact leT_refl _ | exact leT_virt | exact leT_junk _ | exact leT_sl | exact leT_sln | exact leT_nil) ?_)))
          · refine runX_condF rfl c4 ?_
            refine runX_exit ?_
            refine endX_seqE ?_
            refine endX_q (roundQ_exit ?_)
            refine endX_blkE ?_
            refine endX_seq ?_
            refine runX_seq ?_
            refine runX_regionC fun C hC => ?_
            try simp -implicitDefEqProofs (maxSteps := 4000000) (disch := first | omega | decide | (simp only [go_sem]; omega)) only [go_sem, ↓reduceIte]
            repeat (with_reducible refine And.intro (by first | assumption | omega | (simp; done) | (simp; omega)) ?_)
            refine toEnd hC ?_
            refine endX_seq ?_
            refine runX_ret ?_
            refine endX_q ?_
            obtain rfl := Option.some.inj h
            show RetW _ _ _ _ _
            simp only [RetW]
            (try simp -implicitDefEqProofs (maxSteps := 4000000) (disch := first | omega | decide | (simp only [go_sem]; omega)) only [go_sem, ↓reduceIte])
            (try simp (disch := omega) only [if_pos, Nat.sub_zero])
            exact leT_refl _
        · refine guardK_F c3 ?_
          try simp -implicitDefEqProofs (maxSteps := 4000000) (disch := first | omega | decide | (simp only [go_sem]; omega)) only [go_sem, ↓reduceIte]
          repeat (with_reducible refine And.intro (by first | assumption | omega | (simp; done) | (simp; omega)) ?_)
          refine toEnd hC ?_
          refine endX_seq ?_
          refine runX_condF rfl rfl ?_
          refine runX_exit ?_
          refine endX_seqE ?_
          refine endX_q (roundQ_exit ?_)
          refine endX_blkE ?_
          refine endX_seq ?_
          refine runX_seq ?_
          refine runX_regionC fun C hC => ?_
          try simp -implicitDefEqProofs (maxSteps := 4000000) (disch := first | omega | decide | (simp only [go_sem]; omega)) only [go_sem, ↓reduceIte]
          repeat (with_reducible refine And.intro (by first | assumption | omega | (simp; done) | (simp; omega)) ?_)
          refine toEnd hC ?_
          refine endX_seq ?_
          refine runX_ret ?_
          refine endX_q ?_
          obtain rfl := Option.some.inj h
          show RetW _ _ _ _ _
          simp only [RetW]
          (try simp -implicitDefEqProofs (maxSteps := 4000000) (disch := first | omega | decide | (simp only [go_sem]; omega)) only [go_sem, ↓reduceIte])
          (try simp (disch := omega) only [if_pos, Nat.sub_zero])
          exact leT_refl _
end Go.Proofs.YtjkfobmfddfjhaaDoorX

set_option linter.unusedVariables false
set_option linter.unusedSimpArgs false
namespace Go.Proofs.YtjkfobmfddfjhaaDoorX
open Go Go.RowKit Go.Proofs
set_option maxRecDepth 100000
attribute [local go_sem ↓] stepsK_build stepsK_build0 stepsK_bs stepsK_bs0 appendS
attribute [local go_sem] String.reduceEq String.reduceNe reduceCtorEq Int.reduceEq Nat.reduceAdd Nat.reduceSub Nat.reduceMul Nat.reduceLT Nat.reduceLeDiff Nat.reduceEqDiff Nat.reduceBEq Int.reduceToNat Int.reduceLT Int.reduceLE Int.reduceGT Int.reduceGE Int.reduceAdd Int.reduceSub Int.reduceMul Int.reduceNeg Int.reduceBEq Int.reduceBNe Int.reducePow Int.reduceDiv Int.reduceMod Int.reduceTDiv Int.reduceTMod Int.reduceNatCast
/-! ### strings.trimLeftByte -/
def F64_S1 (a1 : Int) (x1 : List UInt8) : St := ⟨[.imm (.string (bs x1)), .imm (.int .u8 a1), .junk, .junk, .junk, .junk, .junk, .junk, .junk, .junk, .junk, .junk, .junk, .junk, .junk, .junk, .junk], []⟩
def F64_L1 : Nat → (Int) → (List UInt8) → Option (List UInt8)
  | 0, _, _ => none
  | m1 + 1, a1, x1 => iteB (decide ((0 : Int) < (x1.length : Int))) (grd ((0 : Int) < (x1.length : Int)) (iteB (((x1.getD (0 : Int).toNat 0).toNat : Int) == a1) (grd ((1 : Int) ≤ (x1.length : Int)) (F64_L1 m1 a1 (x1.drop 1))) (some x1))) (some x1)
def F64 (n : Nat) (a0 : List UInt8) (a1 : Int) : Option (List UInt8) := F64_L1 n a1 a0
set_option maxHeartbeats 4000000 in
theorem F64_ok : ∀ (n : Nat) (a0 : List UInt8) (a1 : Int) (r : List UInt8), F64 n a0 a1 = some r → FnC Tryd.prog 64 [.imm (.string (bs a0)), .imm (.int .u8 a1)] (.imm (.string (bs r)))
  | n, a0, a1, r, h => by
    unfold F64 at h
    refine FnC.goX mixed Tryd.func64 (by kernel_rfl) rfl ?_
    simp only [Tryd.ntmps64, List.length_cons, List.length_nil, List.replicate, List.cons_append, List.nil_append, Nat.reduceAdd, Nat.reduceSub]
    refine runX_seq ?_
    refine runX_regionC fun C hC => ?_
    try simp -implicitDefEqProofs (maxSteps := 4000000) (disch := first | omega | decide | (simp only [go_sem]; omega)) only [go_sem, ↓reduceIte]
    repeat (with_reducible refine And.intro (by first | assumption | omega | (simp; done) | (simp; omega)) ?_)
    refine toEnd hC ?_
    refine endX_seq ?_
    refine runX_seq ?_
    refine runX_block ?_
    refine runX_loop [0, 1] (fun m S => ∃ (x1 : List UInt8), S = F64_S1 a1 x1 ∧ m ≤ n ∧ F64_L1 m a1 x1 = some r) n ⟨F64_S1 a1 a0, ?_, a0, rfl, Nat.le_refl _, h⟩ ?_
    · simp only [F64_S1]
      (try simp -implicitDefEqProofs (maxSteps := 4000000) (disch := first | omega | decide | (simp only [go_sem]; omega)) only [go_sem, ↓reduceIte])
      first | exact leS_refl _ | (refine leS_le ?_ ?_ <;> first | exact leL_refl _ | exact leOs_refl _ | (repeat (first | exact leL_refl _ | refine leL_cons (by first | exact leT_refl _ | exact leT_virt | exact leT_junk _ | exact leT_sl | exact leT_sln | exact leT_nil) ?_)))
    · clear h
      rintro m1 S ⟨x1, rfl, hm1, h⟩
      cases m1 with
      | zero => first | cases (show (none : Option _) = some _ from h) | (rw [F64_L1] at h; cases h)
      | succ m1 =>
        rw [F64_L1] at h
        simp only [F64_S1]
        refine runX_seq ?_
        refine runX_seq ?_
        refine runX_regionC fun C hC => ?_
        try simp -implicitDefEqProofs (maxSteps := 4000000) (disch := first | omega | decide | (simp only [go_sem]; omega)) only [go_sem, ↓reduceIte]
        repeat (with_reducible refine And.intro (by first | assumption | omega | (simp; done) | (simp; omega)) ?_)
        rcases iteB_some h with ⟨c2, h⟩ | ⟨c2, h⟩
        · refine guardK_T c2 ?_
          obtain ⟨g3, h⟩ := grd_some h
          try simp -implicitDefEqProofs (maxSteps := 4000000) (disch := first | omega | decide | (simp only [go_sem]; omega)) only [go_sem, ↓reduceIte]
          repeat (with_reducible refine And.intro (by first | assumption | omega | (simp; done) | (simp; omega)) ?_)
          refine toEnd hC ?_
          refine endX_seq ?_
          rcases iteB_some h with ⟨c4, h⟩ | ⟨c4, h⟩
          · refine runX_condT rfl c4 ?_
            refine runX_skip ?_
            refine endX_seq ?_
            refine runX_block ?_
            refine runX_regionC fun C hC => ?_
            obtain ⟨g5, h⟩ := grd_some h
            try simp -implicitDefEqProofs (maxSteps := 4000000) (disch := first | omega | decide | (simp only [go_sem]; omega)) only [go_sem, ↓reduceIte]
            repeat (with_reducible refine And.intro (by first | assumption | omega | (simp; done) | (simp; omega)) ?_)
            refine toEnd hC ?_
            refine endX_blk ?_
            refine endX_q (roundQ_normal ⟨m1, by omega, F64_S1 a1 (x1.drop 1), ?_, (x1.drop 1), rfl, by omega, h⟩)
            simp only [F64_S1]
            (try simp -implicitDefEqProofs (maxSteps := 4000000) (disch := first | omega | decide | (simp only [go_sem]; omega)) only [go_sem, ↓reduceIte])
            first | exact leS_refl _ | (refine leS_le ?_ ?_ <;> first | exact leL_refl _ | exact leOs_refl _ | (repeat (first | exact leL_refl _ | refine leL_cons (by first | exact leT_refl _ | exact leT_virt | exact leT_junk _ | exact leT_sl | exact leT_sln | exact leT_nil) ?_)))
          · refine runX_condF rfl c4 ?_
            refine runX_exit ?_
            refine endX_seqE ?_
            refine endX_q (roundQ_exit ?_)
            refine endX_blkE ?_
            refine endX_seq ?_
            refine runX_seq ?_
            refine runX_regionC fun C hC => ?_
            try simp -implicitDefEqProofs (maxSteps := 4000000) (disch := first | omega | decide | (simp only [go_sem]; omega)) only [go_sem, ↓reduceIte]
            repeat (with_reducible refine And.intro (by first | assumption | omega | (simp; done) | (simp; omega)) ?_)
            refine toEnd hC ?_
            refine endX_seq ?_
            refine runX_ret ?_
            refine endX_q ?_
            obtain rfl := Option.some.inj h
            show RetW _ _ _ _ _
            simp only [RetW]
            (try simp -implicitDefEqProofs (maxSteps := 4000000) (disch := first | omega | decide | (simp only [go_sem]; omega)) only [go_sem, ↓reduceIte])
            (try simp (disch := omega) only [if_pos, Nat.sub_zero])
            exact leT_refl _
        · refine guardK_F c2 ?_
          try simp -implicitDefEqProofs (maxSteps := 4000000) (disch := first | omega | decide | (simp only [go_sem]; omega)) only [go_sem, ↓reduceIte]
          repeat (with_reducible refine And.intro (by first | assumption | omega | (simp; done) | (simp; omega)) ?_)
          refine toEnd hC ?_
          refine endX_seq ?_
          refine runX_condF rfl rfl ?_
          refine runX_exit ?_
          refine endX_seqE ?_
          refine endX_q (roundQ_exit ?_)
          refine endX_blkE ?_
          refine endX_seq ?_
          refine runX_seq ?_
          refine runX_regionC fun C hC => ?_
          try simp -implicitDefEqProofs (maxSteps := 4000000) (disch := first | omega | decide | (simp only [go_sem]; omega)) only [go_sem, ↓reduceIte]
          repeat (with_reducible refine And.intro (by first | assumption | omega | (simp; done) | (simp; omega)) ?_)
          refine toEnd hC ?_
          refine endX_seq ?_
          refine runX_ret ?_
          refine endX_q ?_
          obtain rfl := Option.some.inj h
          show RetW _ _ _ _ _
          simp only [RetW]
          (try simp -implicitDefEqProofs (maxSteps := 4000000) (disch := first | omega | decide | (simp only [go_sem]; omega)) only [go_sem, ↓reduceIte])
          (try simp (disch := omega) only [if_pos, Nat.sub_zero])
          exact leT_refl _
end Go.Proofs.YtjkfobmfddfjhaaDoorX

set_option linter.unusedVariables false
set_option linter.unusedSimpArgs false
namespace Go.Proofs.YtjkfobmfddfjhaaDoorX
open Go Go.RowKit Go.Proofs
set_option maxRecDepth 100000
attribute [local go_sem ↓] stepsK_build stepsK_build0 stepsK_bs stepsK_bs0 appendS
attribute [local go_sem] String.reduceEq String.reduceNe reduceCtorEq Int.reduceEq Nat.reduceAdd Nat.reduceSub Nat.reduceMul Nat.reduceLT Nat.reduceLeDiff Nat.reduceEqDiff Nat.reduceBEq Int.reduceToNat Int.reduceLT Int.reduceLE Int.reduceGT Int.reduceGE Int.reduceAdd Int.reduceSub Int.reduceMul Int.reduceNeg Int.reduceBEq Int.reduceBNe Int.reducePow Int.reduceDiv Int.reduceMod Int.reduceTDiv Int.reduceTMod Int.reduceNatCast
/-! ### strings.trimRightByte -/
def F65_S1 (a1 : Int) (x1 : List UInt8) : St := ⟨[.imm (.string (bs x1)), .imm (.int .u8 a1), .junk, .junk, .junk, .junk, .junk, .junk, .junk, .junk, .junk, .junk, .junk, .junk, .junk, .junk, .junk, .junk, .junk, .junk, .junk, .junk, .junk], []⟩
def F65_L1 : Nat → (Int) → (List UInt8) → Option (List UInt8)
  | 0, _, _ => none
  | m1 + 1, a1, x1 => iteB (decide ((0 : Int) < (x1.length : Int))) (grd (0 ≤ (IntKind.wrap .i64 ((x1.length : Int) - (1 : Int))) ∧ (IntKind.wrap .i64 ((x1.length : Int) - (1 : Int))) < (x1.length : Int)) (iteB (((x1.getD (IntKind.wrap .i64 ((x1.length : Int) - (1 : Int))).toNat 0).toNat : Int) == a1) (grd (0 ≤ (IntKind.wrap .i64 ((x1.length : Int) - (1 : Int))) ∧ (IntKind.wrap .i64 ((x1.length : Int) - (1 : Int))) ≤ (x1.length : Int)) (F65_L1 m1 a1 (x1.take (IntKind.wrap .i64 ((x1.length : Int) - (1 : Int))).toNat))) (some x1))) (some x1)
def F65 (n : Nat) (a0 : List UInt8) (a1 : Int) : Option (List UInt8) := F65_L1 n a1 a0
set_option maxHeartbeats 4000000 in
theorem F65_ok : ∀ (n : Nat) (a0 : List UInt8) (a1 : Int) (r : List UInt8), F65 n a0 a1 = some r → FnC Tryd.prog 65 [.imm (.string (bs a0)), .imm (.int .u8 a1)] (.imm (.string (bs r)))
  | n, a0, a1, r, h => by
    unfold F65 at h
    refine FnC.goX mixed Tryd.func65 (by kernel_rfl) rfl ?_
    simp only [Tryd.ntmps65, List.length_cons, List.length_nil, List.replicate, List.cons_append, List.nil_append, Nat.reduceAdd, Nat.reduceSub]
    refine runX_seq ?_
    refine runX_regionC fun C hC => ?_
    try simp -implicitDefEqProofs (maxSteps := 4000000) (disch := first | omega | decide | (simp only [go_sem]; omega)) only [go_sem, ↓reduceIte]
    repeat (with_reducible refine And.intro (by first | assumption | omega | (simp; done) | (simp; omega)) ?_)
    refine toEnd hC ?_
    refine endX_seq ?_
    refine runX_seq ?_
    refine runX_block ?_
    refine runX_loop [0, 1] (fun m S => ∃ (x1 : List UInt8), S = F65_S1 a1 x1 ∧ m ≤ n ∧ F65_L1 m a1 x1 = some r) n ⟨F65_S1 a1 a0, ?_, a0, rfl, Nat.le_refl _, h⟩ ?_
    · simp only [F65_S1]
      (try simp -implicitDefEqProofs (maxSteps := 4000000) (disch := first | omega | decide | (simp only [go_sem]; omega)) only [go_sem, ↓reduceIte])
      first | exact leS_refl _ | (refine leS_le ?_ ?_ <;> first | exact leL_refl _ | exact leOs_refl _ | (repeat (first | exact leL_refl _ | refine leL_cons (by first | exact leT_refl _ | exact leT_virt | exact leT_junk _ | exact leT_sl | exact leT_sln | exact leT_nil) ?_)))
    · clear h
      rintro m1 S ⟨x1, rfl, hm1, h⟩
      cases m1 with
      | zero => first | cases (show (none : Option _) = some _ from h) | (rw [F65_L1] at h; cases h)
      | succ m1 =>
        rw [F65_L1] at h
        simp only [F65_S1]
        refine runX_seq ?_
        refine runX_seq ?_
        refine runX_regionC fun C hC => ?_
        try simp -implicitDefEqProofs (maxSteps := 4000000) (disch := first | omega | decide | (simp only [go_sem]; omega)) only [go_sem, ↓reduceIte]
        repeat (with_reducible refine And.intro (by first | assumption | omega | (simp; done) | (simp; omega)) ?_)
        rcases iteB_some h with ⟨c2, h⟩ | ⟨c2, h⟩
        · refine guardK_T c2 ?_
          obtain ⟨g3, h⟩ := grd_some h
          try simp -implicitDefEqProofs (maxSteps := 4000000) (disch := first | omega | decide | (simp only [go_sem]; omega)) only [go_sem, ↓reduceIte]
          repeat (with_reducible refine And.intro (by first | assumption | omega | (simp; done) | (simp; omega)) ?_)
          refine toEnd hC ?_
          refine endX_seq ?_
          rcases iteB_some h with ⟨c4, h⟩ | ⟨c4, h⟩
          · refine runX_condT rfl c4 ?_
            refine runX_skip ?_
            refine endX_seq ?_
            refine runX_block ?_
            refine runX_regionC fun C hC => ?_
            obtain ⟨g5, h⟩ := grd_some h
            try simp -implicitDefEqProofs (maxSteps := 4000000) (disch := first | omega | decide | (simp only [go_sem]; omega)) only [go_sem, ↓reduceIte]
            repeat (with_reducible refine And.intro (by first | assumption | omega | (simp; done) | (simp; omega)) ?_)
            refine toEnd hC ?_
            refine endX_blk ?_
            refine endX_q (roundQ_normal ⟨m1, by omega, F65_S1 a1 (x1.take (IntKind.wrap .i64 ((x1.length : Int) - (1 : Int))).toNat), ?_, (x1.take (IntKind.wrap .i64 ((x1.length : Int) - (1 : Int))).toNat), rfl, by omega, h⟩)
            simp only [F65_S1]
            (try simp -implicitDefEqProofs (maxSteps := 4000000) (disch := first | omega | decide | (simp only [go_sem]; omega)) only [go_sem, ↓reduceIte])
            first | exact leS_refl _ | (refine leS_le ?_ ?_ <;> first | exact leL_refl _ | exact leOs_refl _ | (repeat (first | exact leL_refl _ | refine leL_cons (by first | exact leT_refl _ | exact leT_virt | exact leT_junk _ | exact leT_sl | exact leT_sln | exact leT_nil) ?_)))
          · refine runX_condF rfl c4 ?_
            refine runX_exit ?_
            refine endX_seqE ?_
            refine endX_q (roundQ_exit ?_)
            refine endX_blkE ?_
            refine endX_seq ?_
            refine runX_seq ?_
            refine runX_regionC fun C hC => ?_
            try simp -implicitDefEqProofs (maxSteps := 4000000) (disch := first | omega | decide | (simp only [go_sem]; omega)) only [go_sem, ↓reduceIte]
            repeat (with_reducible refine And.intro (by first | assumption | omega | (simp; done) | (simp; omega)) ?_)
            refine toEnd hC ?_
            refine endX_seq ?_
            refine runX_ret ?_
            refine endX_q ?_
            obtain rfl := Option.some.inj h
            show RetW _ _ _ _ _
            simp only [RetW]
            (try simp -implicitDefEqProofs (maxSteps := 4000000) (disch := first | omega | decide | (simp only [go_sem]; omega)) only [go_sem, ↓reduceIte])
            (try simp (disch := omega) only [if_pos, Nat.sub_zero])
            exact leT_refl _
        · refine guardK_F c2 ?_
          try simp -implicitDefEqProofs (maxSteps := 4000000) (disch := first | omega | decide | (simp only [go_sem]; omega)) only [go_sem, ↓reduceIte]
          repeat (with_reducible refine And.intro (by first | assumption | omega | (simp; done) | (simp; omega)) ?_)
          refine toEnd hC ?_
          refine endX_seq ?_
          refine runX_condF rfl rfl ?_
          refine runX_exit ?_
          refine endX_seqE ?_
          refine endX_q (roundQ_exit ?_)
          refine endX_blkE ?_
          refine endX_seq ?_
          refine runX_seq ?_
          refine runX_regionC fun C hC => ?_
          try simp -implicitDefEqProofs (maxSteps := 4000000) (disch := first | omega | decide | (simp only [go_sem]; omega)) only [go_sem, ↓reduceIte]
          repeat (with_reducible refine And.intro (by first | assumption | omega | (simp; done) | (simp; omega)) ?_)
          refine toEnd hC ?_
          refine endX_seq ?_
          refine runX_ret ?_
          refine endX_q ?_
          obtain rfl := Option.some.inj h
          show RetW _ _ _ _ _
          simp only [RetW]
          (try simp -implicitDefEqProofs (maxSteps := 4000000) (disch := first | omega | decide | (simp only [go_sem]; omega)) only [go_sem, ↓reduceIte])
          (try simp (disch := omega) only [if_pos, Nat.sub_zero])
          exact leT_refl _
end Go.Proofs.YtjkfobmfddfjhaaDoorX

set_option linter.unusedVariables false
set_option linter.unusedSimpArgs false
namespace Go.Proofs.YtjkfobmfddfjhaaDoorX
open Go Go.RowKit Go.Proofs
set_option maxRecDepth 100000
attribute [local go_sem ↓] stepsK_build stepsK_build0 stepsK_bs stepsK_bs0 appendS
attribute [local go_sem] String.reduceEq String.reduceNe reduceCtorEq Int.reduceEq Nat.reduceAdd Nat.reduceSub Nat.reduceMul Nat.reduceLT Nat.reduceLeDiff Nat.reduceEqDiff Nat.reduceBEq Int.reduceToNat Int.reduceLT Int.reduceLE Int.reduceGT Int.reduceGE Int.reduceAdd Int.reduceSub Int.reduceMul Int.reduceNeg Int.reduceBEq Int.reduceBNe Int.reducePow Int.reduceDiv Int.reduceMod Int.reduceTDiv Int.reduceTMod Int.reduceNatCast
/-! ### strings.Trim -/
def F30 (n : Nat) (a0 : List UInt8) (a1 : List UInt8) : Option (List UInt8) := iteB (a0 == []) (some a0) (iteB (a1 == []) (some a0) (iteB ((a1.length : Int) == (1 : Int)) (grd ((0 : Int) < (a1.length : Int)) (iteB (decide (((a1.getD (0 : Int).toNat 0).toNat : Int) < (128 : Int))) (grd ((0 : Int) < (a1.length : Int)) ((F65 n a0 ((a1.getD (0 : Int).toNat 0).toNat : Int)).bind fun v7 => grd ((0 : Int) < (a1.length : Int)) ((F64 n v7 ((a1.getD (0 : Int).toNat 0).toNat : Int)).bind fun v9 => some v9))) (none))) (none)))
set_option maxHeartbeats 4000000 in
theorem F30_ok : ∀ (n : Nat) (a0 : List UInt8) (a1 : List UInt8) (r : List UInt8), F30 n a0 a1 = some r → FnC Tryd.prog 30 [.imm (.string (bs a0)), .imm (.string (bs a1))] (.imm (.string (bs r)))
  | n, a0, a1, r, h => by
    unfold F30 at h
    refine FnC.goX mixed Tryd.func30 (by kernel_rfl) rfl ?_
    simp only [Tryd.ntmps30, List.length_cons, List.length_nil, List.replicate, List.cons_append, List.nil_append, Nat.reduceAdd, Nat.reduceSub]
    refine runX_seq ?_
    refine runX_regionC fun C hC => ?_
    try simp -implicitDefEqProofs (maxSteps := 4000000) (disch := first | omega | decide | (simp only [go_sem]; omega)) only [go_sem, ↓reduceIte]
    repeat (with_reducible refine And.intro (by first | assumption | omega | (simp; done) | (simp; omega)) ?_)
    refine toEnd hC ?_
    refine endX_seq ?_
    refine runX_seq ?_
    refine runX_seq ?_
    refine runX_regionC fun C hC => ?_
    try simp -implicitDefEqProofs (maxSteps := 4000000) (disch := first | omega | decide | (simp only [go_sem]; omega)) only [go_sem, ↓reduceIte]
    repeat (with_reducible refine And.intro (by first | assumption | omega | (simp; done) | (simp; omega)) ?_)
    rcases iteB_some h with ⟨c1, h⟩ | ⟨c1, h⟩
    · refine guardK_F c1 ?_
      try simp -implicitDefEqProofs (maxSteps := 4000000) (disch := first | omega | decide | (simp only [go_sem]; omega)) only [go_sem, ↓reduceIte]
      repeat (with_reducible refine And.intro (by first | assumption | omega | (simp; done) | (simp; omega)) ?_)
      refine toEnd hC ?_
      refine endX_seq ?_
      refine runX_condT rfl rfl ?_
      refine runX_seq ?_
      refine runX_regionC fun C hC => ?_
      try simp -implicitDefEqProofs (maxSteps := 4000000) (disch := first | omega | decide | (simp only [go_sem]; omega)) only [go_sem, ↓reduceIte]
      repeat (with_reducible refine And.intro (by first | assumption | omega | (simp; done) | (simp; omega)) ?_)
      refine toEnd hC ?_
      refine endX_seq ?_
      refine runX_ret ?_
      refine endX_seqR ?_
      refine endX_q ?_
      obtain rfl := Option.some.inj h
      show RetW _ _ _ _ _
      simp only [RetW]
      (try simp -implicitDefEqProofs (maxSteps := 4000000) (disch := first | omega | decide | (simp only [go_sem]; omega)) only [go_sem, ↓reduceIte])
      (try simp (disch := omega) only [if_pos, Nat.sub_zero])
      exact leT_refl _
    · refine guardK_T c1 ?_
      try simp -implicitDefEqProofs (maxSteps := 4000000) (disch := first | omega | decide | (simp only [go_sem]; omega)) only [go_sem, ↓reduceIte]
      repeat (with_reducible refine And.intro (by first | assumption | omega | (simp; done) | (simp; omega)) ?_)
      refine toEnd hC ?_
      refine endX_seq ?_
      rcases iteB_some h with ⟨c2, h⟩ | ⟨c2, h⟩
      · refine runX_condT rfl c2 ?_
        refine runX_seq ?_
        refine runX_regionC fun C hC => ?_
        try simp -implicitDefEqProofs (maxSteps := 4000000) (disch := first | omega | decide | (simp only [go_sem]; omega)) only [go_sem, ↓reduceIte]
        repeat (with_reducible refine And.intro (by first | assumption | omega | (simp; done) | (simp; omega)) ?_)
        refine toEnd hC ?_
        refine endX_seq ?_
        refine runX_ret ?_
        refine endX_seqR ?_
        refine endX_q ?_
        obtain rfl := Option.some.inj h
        show RetW _ _ _ _ _
        simp only [RetW]
        (try simp -implicitDefEqProofs (maxSteps := 4000000) (disch := first | omega | decide | (simp only [go_sem]; omega)) only [go_sem, ↓reduceIte])
        (try simp (disch := omega) only [if_pos, Nat.sub_zero])
        exact leT_refl _
      · refine runX_condF rfl c2 ?_
        refine runX_skip ?_
        refine endX_seq ?_
        refine runX_seq ?_
        refine runX_seq ?_
        refine runX_regionC fun C hC => ?_
        try simp -implicitDefEqProofs (maxSteps := 4000000) (disch := first | omega | decide | (simp only [go_sem]; omega)) only [go_sem, ↓reduceIte]
        repeat (with_reducible refine And.intro (by first | assumption | omega | (simp; done) | (simp; omega)) ?_)
        rcases iteB_some h with ⟨c3, h⟩ | ⟨c3, h⟩
        · refine guardK_T c3 ?_
          obtain ⟨g4, h⟩ := grd_some h
          try simp -implicitDefEqProofs (maxSteps := 4000000) (disch := first | omega | decide | (simp only [go_sem]; omega)) only [go_sem, ↓reduceIte]
          repeat (with_reducible refine And.intro (by first | assumption | omega | (simp; done) | (simp; omega)) ?_)
          refine toEnd hC ?_
          refine endX_seq ?_
          rcases iteB_some h with ⟨c5, h⟩ | ⟨c5, h⟩
          · refine runX_condT rfl c5 ?_
            refine runX_seq ?_
            refine runX_drawC mixed (by kernel_rfl) fun C hC => ?_
            obtain ⟨g6, h⟩ := grd_some h
            obtain ⟨v7, h7, h⟩ := bnd_some h
            try simp -implicitDefEqProofs (maxSteps := 4000000) (disch := first | omega | decide | (simp only [go_sem]; omega)) only [go_sem, ↓reduceIte]
            repeat (with_reducible refine And.intro (by first | assumption | omega | (simp; done) | (simp; omega)) ?_)
            refine callD_X (F65_ok n a0 ((a1.getD (0 : Int).toNat 0).toNat : Int) _ h7) (by repeat (first | exact leL_refl _ | refine leL_cons (by first | exact leT_refl _ | exact leT_virt | exact leT_junk _ | exact leT_sl | exact leT_sln | exact leT_nil) ?_)) ?_
            obtain ⟨g8, h⟩ := grd_some h
            obtain ⟨v9, h9, h⟩ := bnd_some h
            try simp -implicitDefEqProofs (maxSteps := 4000000) (disch := first | omega | decide | (simp only [go_sem]; omega)) only [go_sem, ↓reduceIte]
            repeat (with_reducible refine And.intro (by first | assumption | omega | (simp; done) | (simp; omega)) ?_)
            refine callD_X (F64_ok n v7 ((a1.getD (0 : Int).toNat 0).toNat : Int) _ h9) (by repeat (first | exact leL_refl _ | refine leL_cons (by first | exact leT_refl _ | exact leT_virt | exact leT_junk _ | exact leT_sl | exact leT_sln | exact leT_nil) ?_)) ?_
            try simp -implicitDefEqProofs (maxSteps := 4000000) (disch := first | omega | decide | (simp only [go_sem]; omega)) only [go_sem, ↓reduceIte]
            repeat (with_reducible refine And.intro (by first | assumption | omega | (simp; done) | (simp; omega)) ?_)
            refine toEnd hC ?_
            refine endX_seq ?_
            refine runX_ret ?_
            refine endX_seqR ?_
            refine endX_q ?_
            obtain rfl := Option.some.inj h
            show RetW _ _ _ _ _
            simp only [RetW]
            (try simp -implicitDefEqProofs (maxSteps := 4000000) (disch := first | omega | decide | (simp only [go_sem]; omega)) only [go_sem, ↓reduceIte])
            (try simp (disch := omega) only [if_pos, Nat.sub_zero])
            exact leT_refl _
          · refine runX_condF rfl c5 ?_
            cases h
        · cases h
end Go.Proofs.YtjkfobmfddfjhaaDoorX

set_option linter.unusedVariables false
set_option linter.unusedSimpArgs false
namespace Go.Proofs.YtjkfobmfddfjhaaDoorX
open Go Go.RowKit Go.Proofs
set_option maxRecDepth 100000
attribute [local go_sem ↓] stepsK_build stepsK_build0 stepsK_bs stepsK_bs0 appendS
attribute [local go_sem] String.reduceEq String.reduceNe reduceCtorEq Int.reduceEq Nat.reduceAdd Nat.reduceSub Nat.reduceMul Nat.reduceLT Nat.reduceLeDiff Nat.reduceEqDiff Nat.reduceBEq Int.reduceToNat Int.reduceLT Int.reduceLE Int.reduceGT Int.reduceGE Int.reduceAdd Int.reduceSub Int.reduceMul Int.reduceNeg Int.reduceBEq Int.reduceBNe Int.reducePow Int.reduceDiv Int.reduceMod Int.reduceTDiv Int.reduceTMod Int.reduceNatCast
/-! ### policy.Match -/
def F10_S1 (a0 : List UInt8) (a1 : List UInt8) (x1 : Int) (x2 : Int) (x3 : Int) (x4 : Int) : St := ⟨[.imm (.string (bs a0)), .imm (.string (bs a1)), .junk, .junk, .junk, .imm (.int .i64 x1), .imm (.int .i64 x2), .imm (.int .i64 x3), .imm (.int .i64 x4), .junk, .junk, .junk, .junk, .junk, .junk, .junk, .junk, .junk, .junk, .junk, .junk, .junk, .junk, .junk, .junk, .junk, .junk, .junk, .junk, .junk, .junk, .junk, .junk, .junk, .junk, .junk, .junk, .junk, .junk, .junk, .junk, .junk, .junk, .junk, .junk, .junk, .junk, .junk, .junk, .junk, .junk, .junk, .junk, .junk, .junk, .junk, .junk, .junk, .junk, .junk, .junk, .junk, .junk, .junk, .junk], []⟩
def F10_L1 : Nat → (List UInt8) → (List UInt8) → (Int) → (Int) → (Int) → (Int) → Option (Bool)
  | 0, _, _, _, _, _, _ => none
  | m1 + 1, a0, a1, x1, x2, x3, x4 => iteB (decide (x4 < (a1.length : Int))) (iteB (decide (x3 < (a0.length : Int))) (grd (0 ≤ x3 ∧ x3 < (a0.length : Int)) (iteB (((a0.getD x3.toNat 0).toNat : Int) == (42 : Int)) (F10_L1 m1 a0 a1 x3 x4 (IntKind.wrap .i64 (x3 + (1 : Int))) x4) (iteB (decide (x3 < (a0.length : Int))) (grd (0 ≤ x3 ∧ x3 < (a0.length : Int)) (iteB (((a0.getD x3.toNat 0).toNat : Int) == (63 : Int)) (F10_L1 m1 a0 a1 x1 x2 (IntKind.wrap .i64 (x3 + (1 : Int))) (IntKind.wrap .i64 (x4 + (1 : Int)))) (grd (0 ≤ x3 ∧ x3 < (a0.length : Int)) (grd (0 ≤ x4 ∧ x4 < (a1.length : Int)) (iteB (((a0.getD x3.toNat 0).toNat : Int) == ((a1.getD x4.toNat 0).toNat : Int)) (F10_L1 m1 a0 a1 x1 x2 (IntKind.wrap .i64 (x3 + (1 : Int))) (IntKind.wrap .i64 (x4 + (1 : Int)))) (iteB (decide ((0 : Int) ≤ x1)) (F10_L1 m1 a0 a1 x1 (IntKind.wrap .i64 (x2 + (1 : Int))) (IntKind.wrap .i64 (x1 + (1 : Int))) (IntKind.wrap .i64 (x2 + (1 : Int)))) (some false))))))) (iteB (decide ((0 : Int) ≤ x1)) (F10_L1 m1 a0 a1 x1 (IntKind.wrap .i64 (x2 + (1 : Int))) (IntKind.wrap .i64 (x1 + (1 : Int))) (IntKind.wrap .i64 (x2 + (1 : Int)))) (some false))))) (iteB (decide (x3 < (a0.length : Int))) (grd (0 ≤ x3 ∧ x3 < (a0.length : Int)) (iteB (((a0.getD x3.toNat 0).toNat : Int) == (63 : Int)) (F10_L1 m1 a0 a1 x1 x2 (IntKind.wrap .i64 (x3 + (1 : Int))) (IntKind.wrap .i64 (x4 + (1 : Int)))) (grd (0 ≤ x3 ∧ x3 < (a0.length : Int)) (grd (0 ≤ x4 ∧ x4 < (a1.length : Int)) (iteB (((a0.getD x3.toNat 0).toNat : Int) == ((a1.getD x4.toNat 0).toNat : Int)) (F10_L1 m1 a0 a1 x1 x2 (IntKind.wrap .i64 (x3 + (1 : Int))) (IntKind.wrap .i64 (x4 + (1 : Int)))) (iteB (decide ((0 : Int) ≤ x1)) (F10_L1 m1 a0 a1 x1 (IntKind.wrap .i64 (x2 + (1 : Int))) (IntKind.wrap .i64 (x1 + (1 : Int))) (IntKind.wrap .i64 (x2 + (1 : Int)))) (some false))))))) (iteB (decide ((0 : Int) ≤ x1)) (F10_L1 m1 a0 a1 x1 (IntKind.wrap .i64 (x2 + (1 : Int))) (IntKind.wrap .i64 (x1 + (1 : Int))) (IntKind.wrap .i64 (x2 + (1 : Int)))) (some false)))) (grd (0 ≤ x3 ∧ x3 ≤ (a0.length : Int)) ((F30 m1 (a0.drop x3.toNat) ([42] : List UInt8)).bind fun v26 => some (v26 == [])))
def F10 (n : Nat) (a0 : List UInt8) (a1 : List UInt8) : Option (Bool) := F10_L1 n a0 a1 (-1 : Int) (0 : Int) (0 : Int) (0 : Int)
set_option maxHeartbeats 4000000 in
theorem F10_ok : ∀ (n : Nat) (a0 : List UInt8) (a1 : List UInt8) (r : Bool), F10 n a0 a1 = some r → FnC Tryd.prog 10 [.imm (.string (bs a0)), .imm (.string (bs a1))] (.imm (.bool r))
  | n, a0, a1, r, h => by
    unfold F10 at h
    refine FnC.goX mixed Tryd.func10 (by kernel_rfl) rfl ?_
    simp only [Tryd.ntmps10, List.length_cons, List.length_nil, List.replicate, List.cons_append, List.nil_append, Nat.reduceAdd, Nat.reduceSub]
    refine runX_seq ?_
    refine runX_regionC fun C hC => ?_
    try simp -implicitDefEqProofs (maxSteps := 4000000) (disch := first | omega | decide | (simp only [go_sem]; omega)) only [go_sem, ↓reduceIte]
    repeat (with_reducible refine And.intro (by first | assumption | omega | (simp; done) | (simp; omega)) ?_)
    refine toEnd hC ?_
    refine endX_seq ?_
    refine runX_seq ?_
    refine runX_regionC fun C hC => ?_
    try simp -implicitDefEqProofs (maxSteps := 4000000) (disch := first | omega | decide | (simp only [go_sem]; omega)) only [go_sem, ↓reduceIte]
    repeat (with_reducible refine And.intro (by first | assumption | omega | (simp; done) | (simp; omega)) ?_)
    refine toEnd hC ?_
    refine endX_seq ?_
    refine runX_seq ?_
    refine runX_regionC fun C hC => ?_
    try simp -implicitDefEqProofs (maxSteps := 4000000) (disch := first | omega | decide | (simp only [go_sem]; omega)) only [go_sem, ↓reduceIte]
    repeat (with_reducible refine And.intro (by first | assumption | omega | (simp; done) | (simp; omega)) ?_)
    refine toEnd hC ?_
    refine endX_seq ?_
    refine runX_seq ?_
    refine runX_block ?_
    refine runX_loop [0, 1, 5, 6, 7, 8] (fun m S => ∃ (x1 : Int) (x2 : Int) (x3 : Int) (x4 : Int), S = F10_S1 a0 a1 x1 x2 x3 x4 ∧ m ≤ n ∧ F10_L1 m a0 a1 x1 x2 x3 x4 = some r) n ⟨F10_S1 a0 a1 (-1 : Int) (0 : Int) (0 : Int) (0 : Int), ?_, (-1 : Int), (0 : Int), (0 : Int), (0 : Int), rfl, Nat.le_refl _, h⟩ ?_
    · simp only [F10_S1]
      (try simp -implicitDefEqProofs (maxSteps := 4000000) (disch := first | omega | decide | (simp only [go_sem]; omega)) only [go_sem, ↓reduceIte])
      first | exact leS_refl _ | (refine leS_le ?_ ?_ <;> first | exact leL_refl _ | exact leOs_refl _ | (repeat (first | exact leL_refl _ | refine leL_cons (by first | exact leT_refl _ | exact leT_virt | exact leT_junk _ | exact leT_sl | exact leT_sln | exact leT_nil) ?_)))
    · clear h
      rintro m1 S ⟨x1, x2, x3, x4, rfl, hm1, h⟩
      cases m1 with
      | zero => first | cases (show (none : Option _) = some _ from h) | (rw [F10_L1] at h; cases h)
      | succ m1 =>
        rw [F10_L1] at h
        simp only [F10_S1]
        refine runX_seq ?_
        refine runX_seq ?_
        refine runX_regionC fun C hC => ?_
        try simp -implicitDefEqProofs (maxSteps := 4000000) (disch := first | omega | decide | (simp only [go_sem]; omega)) only [go_sem, ↓reduceIte]
        repeat (with_reducible refine And.intro (by first | assumption | omega | (simp; done) | (simp; omega)) ?_)
        refine toEnd hC ?_
        refine endX_seq ?_
        rcases iteB_some h with ⟨c5, h⟩ | ⟨c5, h⟩
        · refine runX_condT rfl c5 ?_
          refine runX_skip ?_
          refine endX_seq ?_
          refine runX_block ?_
          refine runX_block ?_
          refine runX_seq ?_
          refine runX_regionC fun C hC => ?_
          try simp -implicitDefEqProofs (maxSteps := 4000000) (disch := first | omega | decide | (simp only [go_sem]; omega)) only [go_sem, ↓reduceIte]
          repeat (with_reducible refine And.intro (by first | assumption | omega | (simp; done) | (simp; omega)) ?_)
          rcases iteB_some h with ⟨c6, h⟩ | ⟨c6, h⟩
          · refine guardK_T c6 ?_
            obtain ⟨g7, h⟩ := grd_some h
            try simp -implicitDefEqProofs (maxSteps := 4000000) (disch := first | omega | decide | (simp only [go_sem]; omega)) only [go_sem, ↓reduceIte]
            repeat (with_reducible refine And.intro (by first | assumption | omega | (simp; done) | (simp; omega)) ?_)
            refine toEnd hC ?_
            refine endX_seq ?_
            rcases iteB_some h with ⟨c8, h⟩ | ⟨c8, h⟩
            · refine runX_condT rfl c8 ?_
              refine runX_seq ?_
              refine runX_regionC fun C hC => ?_
              try simp -implicitDefEqProofs (maxSteps := 4000000) (disch := first | omega | decide | (simp only [go_sem]; omega)) only [go_sem, ↓reduceIte]
              repeat (with_reducible refine And.intro (by first | assumption | omega | (simp; done) | (simp; omega)) ?_)
              refine toEnd hC ?_
              refine endX_seq ?_
              refine runX_regionC fun C hC => ?_
              try simp -implicitDefEqProofs (maxSteps := 4000000) (disch := first | omega | decide | (simp only [go_sem]; omega)) only [go_sem, ↓reduceIte]
              repeat (with_reducible refine And.intro (by first | assumption | omega | (simp; done) | (simp; omega)) ?_)
              refine toEnd hC ?_
              refine endX_blk ?_
              refine endX_blk ?_
              refine endX_q (roundQ_normal ⟨m1, by omega, F10_S1 a0 a1 x3 x4 (IntKind.wrap .i64 (x3 + (1 : Int))) x4, ?_, x3, x4, (IntKind.wrap .i64 (x3 + (1 : Int))), x4, rfl, by omega, h⟩)
              simp only [F10_S1]
              (try simp -implicitDefEqProofs (maxSteps := 4000000) (disch := first | omega | decide | (simp only [go_sem]; omega)) only [go_sem, ↓reduceIte])
              first | exact leS_refl _ | (refine leS_le ?_ ?_ <;> first | exact leL_refl _ | exact leOs_refl _ | (repeat (first | exact leL_refl _ | refine leL_cons (by first | exact leT_refl _ | exact leT_virt | exact leT_junk _ | exact leT_sl | exact leT_sln | exact leT_nil) ?_)))
            · refine runX_condF rfl c8 ?_
              refine runX_seq ?_
              refine runX_drawC mixed (by kernel_rfl) fun C hC => ?_
              try simp -implicitDefEqProofs (maxSteps := 4000000) (disch := first | omega | decide | (simp only [go_sem]; omega)) only [go_sem, ↓reduceIte]
              repeat (with_reducible refine And.intro (by first | assumption | omega | (simp; done) | (simp; omega)) ?_)
              rcases iteB_some h with ⟨c9, h⟩ | ⟨c9, h⟩
              · refine guardD_T c9 ?_
                obtain ⟨g10, h⟩ := grd_some h
                try simp -implicitDefEqProofs (maxSteps := 4000000) (disch := first | omega | decide | (simp only [go_sem]; omega)) only [go_sem, ↓reduceIte]
                repeat (with_reducible refine And.intro (by first | assumption | omega | (simp; done) | (simp; omega)) ?_)
                rcases iteB_some h with ⟨c11, h⟩ | ⟨c11, h⟩
                · refine guardD_F c11 ?_
                  try simp -implicitDefEqProofs (maxSteps := 4000000) (disch := first | omega | decide | (simp only [go_sem]; omega)) only [go_sem, ↓reduceIte]
                  repeat (with_reducible refine And.intro (by first | assumption | omega | (simp; done) | (simp; omega)) ?_)
                  refine toEnd hC ?_
                  refine endX_seq ?_
                  refine runX_condT rfl rfl ?_
                  refine runX_seq ?_
                  refine runX_regionC fun C hC => ?_
                  try simp -implicitDefEqProofs (maxSteps := 4000000) (disch := first | omega | decide | (simp only [go_sem]; omega)) only [go_sem, ↓reduceIte]
                  repeat (with_reducible refine And.intro (by first | assumption | omega | (simp; done) | (simp; omega)) ?_)
                  refine toEnd hC ?_
                  refine endX_seq ?_
                  refine runX_regionC fun C hC => ?_
                  try simp -implicitDefEqProofs (maxSteps := 4000000) (disch := first | omega | decide | (simp only [go_sem]; omega)) only [go_sem, ↓reduceIte]
                  repeat (with_reducible refine And.intro (by first | assumption | omega | (simp; done) | (simp; omega)) ?_)
                  refine toEnd hC ?_
                  refine endX_blk ?_
                  refine endX_blk ?_
                  refine endX_q (roundQ_normal ⟨m1, by omega, F10_S1 a0 a1 x1 x2 (IntKind.wrap .i64 (x3 + (1 : Int))) (IntKind.wrap .i64 (x4 + (1 : Int))), ?_, x1, x2, (IntKind.wrap .i64 (x3 + (1 : Int))), (IntKind.wrap .i64 (x4 + (1 : Int))), rfl, by omega, h⟩)
                  simp only [F10_S1]
                  (try simp -implicitDefEqProofs (maxSteps := 4000000) (disch := first | omega | decide | (simp only [go_sem]; omega)) only [go_sem, ↓reduceIte])
                  first | exact leS_refl _ | (refine leS_le ?_ ?_ <;> first | exact leL_refl _ | exact leOs_refl _ | (repeat (first | exact leL_refl _ | refine leL_cons (by first | exact leT_refl _ | exact leT_virt | exact leT_junk _ | exact leT_sl | exact leT_sln | exact leT_nil) ?_)))
                · refine guardD_T c11 ?_
                  obtain ⟨g12, h⟩ := grd_some h
                  obtain ⟨g13, h⟩ := grd_some h
                  try simp -implicitDefEqProofs (maxSteps := 4000000) (disch := first | omega | decide | (simp only [go_sem]; omega)) only [go_sem, ↓reduceIte]
                  repeat (with_reducible refine And.intro (by first | assumption | omega | (simp; done) | (simp; omega)) ?_)
                  refine toEnd hC ?_
                  refine endX_seq ?_
                  rcases iteB_some h with ⟨c14, h⟩ | ⟨c14, h⟩
                  · refine runX_condT rfl c14 ?_
                    refine runX_seq ?_
                    refine runX_regionC fun C hC => ?_
                    try simp -implicitDefEqProofs (maxSteps := 4000000) (disch := first | omega | decide | (simp only [go_sem]; omega)) only [go_sem, ↓reduceIte]
                    repeat (with_reducible refine And.intro (by first | assumption | omega | (simp; done) | (simp; omega)) ?_)
                    refine toEnd hC ?_
                    refine endX_seq ?_
                    refine runX_regionC fun C hC => ?_
                    try simp -implicitDefEqProofs (maxSteps := 4000000) (disch := first | omega | decide | (simp only [go_sem]; omega)) only [go_sem, ↓reduceIte]
                    repeat (with_reducible refine And.intro (by first | assumption | omega | (simp; done) | (simp; omega)) ?_)
                    refine toEnd hC ?_
                    refine endX_blk ?_
                    refine endX_blk ?_
                    refine endX_q (roundQ_normal ⟨m1, by omega, F10_S1 a0 a1 x1 x2 (IntKind.wrap .i64 (x3 + (1 : Int))) (IntKind.wrap .i64 (x4 + (1 : Int))), ?_, x1, x2, (IntKind.wrap .i64 (x3 + (1 : Int))), (IntKind.wrap .i64 (x4 + (1 : Int))), rfl, by omega, h⟩)
                    simp only [F10_S1]
                    (try simp -implicitDefEqProofs (maxSteps := 4000000) (disch := first | omega | decide | (simp only [go_sem]; omega)) only [go_sem, ↓reduceIte])
                    first | exact leS_refl _ | (refine leS_le ?_ ?_ <;> first | exact leL_refl _ | exact leOs_refl _ | (repeat (first | exact leL_refl _ | refine leL_cons (by first | exact leT_refl _ | exact leT_virt | exact leT_junk _ | exact leT_sl | exact leT_sln | exact leT_nil) ?_)))
                  · refine runX_condF rfl c14 ?_
                    refine runX_seq ?_
                    refine runX_regionC fun C hC => ?_
                    try simp -implicitDefEqProofs (maxSteps := 4000000) (disch := first | omega | decide | (simp only [go_sem]; omega)) only [go_sem, ↓reduceIte]
                    repeat (with_reducible refine And.intro (by first | assumption | omega | (simp; done) | (simp; omega)) ?_)
                    refine toEnd hC ?_
                    refine endX_seq ?_
                    rcases iteB_some h with ⟨c15, h⟩ | ⟨c15, h⟩
                    · refine runX_condT rfl c15 ?_
                      refine runX_seq ?_
                      refine runX_regionC fun C hC => ?_
                      try simp -implicitDefEqProofs (maxSteps := 4000000) (disch := first | omega | decide | (simp only [go_sem]; omega)) only [go_sem, ↓reduceIte]
                      repeat (with_reducible refine And.intro (by first | assumption | omega | (simp; done) | (simp; omega)) ?_)
                      refine toEnd hC ?_
                      refine endX_seq ?_
                      refine runX_regionC fun C hC => ?_
                      try simp -implicitDefEqProofs (maxSteps := 4000000) (disch := first | omega | decide | (simp only [go_sem]; omega)) only [go_sem, ↓reduceIte]
                      repeat (with_reducible refine And.intro (by first | assumption | omega | (simp; done) | (simp; omega)) ?_)
                      refine toEnd hC ?_
                      refine endX_blk ?_
                      refine endX_blk ?_
                      refine endX_q (roundQ_normal ⟨m1, by omega, F10_S1 a0 a1 x1 (IntKind.wrap .i64 (x2 + (1 : Int))) (IntKind.wrap .i64 (x1 + (1 : Int))) (IntKind.wrap .i64 (x2 + (1 : Int))), ?_, x1, (IntKind.wrap .i64 (x2 + (1 : Int))), (IntKind.wrap .i64 (x1 + (1 : Int))), (IntKind.wrap .i64 (x2 + (1 : Int))), rfl, by omega, h⟩)
                      simp only [F10_S1]
                      (try simp -implicitDefEqProofs (maxSteps := 4000000) (disch := first | omega | decide | (simp only [go_sem]; omega)) only [go_sem, ↓reduceIte])
                      first | exact leS_refl _ | (refine leS_le ?_ ?_ <;> first | exact leL_refl _ | exact leOs_refl _ | (repeat (first | exact leL_refl _ | refine leL_cons (by first | exact leT_refl _ | exact leT_virt | exact leT_junk _ | exact leT_sl | exact leT_sln | exact leT_nil) ?_)))
                    · refine runX_condF rfl c15 ?_
                      refine runX_seq ?_
                      refine runX_regionC fun C hC => ?_
                      try simp -implicitDefEqProofs (maxSteps := 4000000) (disch := first | omega | decide | (simp only [go_sem]; omega)) only [go_sem, ↓reduceIte]
                      repeat (with_reducible refine And.intro (by first | assumption | omega | (simp; done) | (simp; omega)) ?_)
                      refine toEnd hC ?_
                      refine endX_seq ?_
                      refine runX_ret ?_
                      refine endX_blkR ?_
                      refine endX_blkR ?_
                      refine endX_q (roundQ_ret ?_)
                      refine endX_blkR ?_
                      refine endX_seqR ?_
                      refine endX_q ?_
                      obtain rfl := Option.some.inj h
                      show RetW _ _ _ _ _
                      simp only [RetW]
                      (try simp -implicitDefEqProofs (maxSteps := 4000000) (disch := first | omega | decide | (simp only [go_sem]; omega)) only [go_sem, ↓reduceIte])
                      (try simp (disch := omega) only [if_pos, Nat.sub_zero])
                      exact leT_refl _
              · refine guardD_F c9 ?_
                try simp -implicitDefEqProofs (maxSteps := 4000000) (disch := first | omega | decide | (simp only [go_sem]; omega)) only [go_sem, ↓reduceIte]
                repeat (with_reducible refine And.intro (by first | assumption | omega | (simp; done) | (simp; omega)) ?_)
                refine toEnd hC ?_
                refine endX_seq ?_
                refine runX_condF rfl rfl ?_
                refine runX_seq ?_
                refine runX_regionC fun C hC => ?_
                try simp -implicitDefEqProofs (maxSteps := 4000000) (disch := first | omega | decide | (simp only [go_sem]; omega)) only [go_sem, ↓reduceIte]
                repeat (with_reducible refine And.intro (by first | assumption | omega | (simp; done) | (simp; omega)) ?_)
                refine toEnd hC ?_
                refine endX_seq ?_
                rcases iteB_some h with ⟨c16, h⟩ | ⟨c16, h⟩
                · refine runX_condT rfl c16 ?_
                  refine runX_seq ?_
                  refine runX_regionC fun C hC => ?_
                  try simp -implicitDefEqProofs (maxSteps := 4000000) (disch := first | omega | decide | (simp only [go_sem]; omega)) only [go_sem, ↓reduceIte]
                  repeat (with_reducible refine And.intro (by first | assumption | omega | (simp; done) | (simp; omega)) ?_)
                  refine toEnd hC ?_
                  refine endX_seq ?_
                  refine runX_regionC fun C hC => ?_
                  try simp -implicitDefEqProofs (maxSteps := 4000000) (disch := first | omega | decide | (simp only [go_sem]; omega)) only [go_sem, ↓reduceIte]
                  repeat (with_reducible refine And.intro (by first | assumption | omega | (simp; done) | (simp; omega)) ?_)
                  refine toEnd hC ?_
                  refine endX_blk ?_
                  refine endX_blk ?_
                  refine endX_q (roundQ_normal ⟨m1, by omega, F10_S1 a0 a1 x1 (IntKind.wrap .i64 (x2 + (1 : Int))) (IntKind.wrap .i64 (x1 + (1 : Int))) (IntKind.wrap .i64 (x2 + (1 : Int))), ?_, x1, (IntKind.wrap .i64 (x2 + (1 : Int))), (IntKind.wrap .i64 (x1 + (1 : Int))), (IntKind.wrap .i64 (x2 + (1 : Int))), rfl, by omega, h⟩)
                  simp only [F10_S1]
                  (try simp -implicitDefEqProofs (maxSteps := 4000000) (disch := first | omega | decide | (simp only [go_sem]; omega)) only [go_sem, ↓reduceIte])
                  first | exact leS_refl _ | (refine leS_le ?_ ?_ <;> first | exact leL_refl _ | exact leOs_refl _ | (repeat (first | exact leL_refl _ | refine leL_cons (by first | exact leT_refl _ | exact leT_virt | exact leT_junk _ | exact leT_sl | exact leT_sln | exact leT_nil) ?_)))
                · refine runX_condF rfl c16 ?_
                  refine runX_seq ?_
                  refine runX_regionC fun C hC => ?_
                  try simp -implicitDefEqProofs (maxSteps := 4000000) (disch := first | omega | decide | (simp only [go_sem]; omega)) only [go_sem, ↓reduceIte]
                  repeat (with_reducible refine And.intro (by first | assumption | omega | (simp; done) | (simp; omega)) ?_)
                  refine toEnd hC ?_
                  refine endX_seq ?_
                  refine runX_ret ?_
                  refine endX_blkR ?_
                  refine endX_blkR ?_
                  refine endX_q (roundQ_ret ?_)
                  refine endX_blkR ?_
                  refine endX_seqR ?_
                  refine endX_q ?_
                  obtain rfl := Option.some.inj h
                  show RetW _ _ _ _ _
                  simp only [RetW]
                  (try simp -implicitDefEqProofs (maxSteps := 4000000) (disch := first | omega | decide | (simp only [go_sem]; omega)) only [go_sem, ↓reduceIte])
                  (try simp (disch := omega) only [if_pos, Nat.sub_zero])
                  exact leT_refl _
          · refine guardK_F c6 ?_
            try simp -implicitDefEqProofs (maxSteps := 4000000) (disch := first | omega | decide | (simp only [go_sem]; omega)) only [go_sem, ↓reduceIte]
            repeat (with_reducible refine And.intro (by first | assumption | omega | (simp; done) | (simp; omega)) ?_)
            refine toEnd hC ?_
            refine endX_seq ?_
            refine runX_condF rfl rfl ?_
            refine runX_seq ?_
            refine runX_drawC mixed (by kernel_rfl) fun C hC => ?_
            try simp -implicitDefEqProofs (maxSteps := 4000000) (disch := first | omega | decide | (simp only [go_sem]; omega)) only [go_sem, ↓reduceIte]
            repeat (with_reducible refine And.intro (by first | assumption | omega | (simp; done) | (simp; omega)) ?_)
            rcases iteB_some h with ⟨c17, h⟩ | ⟨c17, h⟩
            · refine guardD_T c17 ?_
              obtain ⟨g18, h⟩ := grd_some h
              try simp -implicitDefEqProofs (maxSteps := 4000000) (disch := first | omega | decide | (simp only [go_sem]; omega)) only [go_sem, ↓reduceIte]
              repeat (with_reducible refine And.intro (by first | assumption | omega | (simp; done) | (simp; omega)) ?_)
              rcases iteB_some h with ⟨c19, h⟩ | ⟨c19, h⟩
              · refine guardD_F c19 ?_
                try simp -implicitDefEqProofs (maxSteps := 4000000) (disch := first | omega | decide | (simp only [go_sem]; omega)) only [go_sem, ↓reduceIte]
                repeat (with_reducible refine And.intro (by first | assumption | omega | (simp; done) | (simp; omega)) ?_)
                refine toEnd hC ?_
                refine endX_seq ?_
                refine runX_condT rfl rfl ?_
                refine runX_seq ?_
                refine runX_regionC fun C hC => ?_
                try simp -implicitDefEqProofs (maxSteps := 4000000) (disch := first | omega | decide | (simp only [go_sem]; omega)) only [go_sem, ↓reduceIte]
                repeat (with_reducible refine And.intro (by first | assumption | omega | (simp; done) | (simp; omega)) ?_)
                refine toEnd hC ?_
                refine endX_seq ?_
                refine runX_regionC fun C hC => ?_
                try simp -implicitDefEqProofs (maxSteps := 4000000) (disch := first | omega | decide | (simp only [go_sem]; omega)) only [go_sem, ↓reduceIte]
                repeat (with_reducible refine And.intro (by first | assumption | omega | (simp; done) | (simp; omega)) ?_)
                refine toEnd hC ?_
                refine endX_blk ?_
                refine endX_blk ?_
                refine endX_q (roundQ_normal ⟨m1, by omega, F10_S1 a0 a1 x1 x2 (IntKind.wrap .i64 (x3 + (1 : Int))) (IntKind.wrap .i64 (x4 + (1 : Int))), ?_, x1, x2, (IntKind.wrap .i64 (x3 + (1 : Int))), (IntKind.wrap .i64 (x4 + (1 : Int))), rfl, by omega, h⟩)
                simp only [F10_S1]
                (try simp -implicitDefEqProofs (maxSteps := 4000000) (disch := first | omega | decide | (simp only [go_sem]; omega)) only [go_sem, ↓reduceIte])
                first | exact leS_refl _ | (refine leS_le ?_ ?_ <;> first | exact leL_refl _ | exact leOs_refl _ | (repeat (first | exact leL_refl _ | refine leL_cons (by first | exact leT_refl _ | exact leT_virt | exact leT_junk _ | exact leT_sl | exact leT_sln | exact leT_nil) ?_)))
              · refine guardD_T c19 ?_
                obtain ⟨g20, h⟩ := grd_some h
                obtain ⟨g21, h⟩ := grd_some h
                try simp -implicitDefEqProofs (maxSteps := 4000000) (disch := first | omega | decide | (simp only [go_sem]; omega)) only [go_sem, ↓reduceIte]
                repeat (with_reducible refine And.intro (by first | assumption | omega | (simp; done) | (simp; omega)) ?_)
                refine toEnd hC ?_
                refine endX_seq ?_
                rcases iteB_some h with ⟨c22, h⟩ | ⟨c22, h⟩
                · refine runX_condT rfl c22 ?_
                  refine runX_seq ?_
                  refine runX_regionC fun C hC => ?_
                  try simp -implicitDefEqProofs (maxSteps := 4000000) (disch := first | omega | decide | (simp only [go_sem]; omega)) only [go_sem, ↓reduceIte]
                  repeat (with_reducible refine And.intro (by first | assumption | omega | (simp; done) | (simp; omega)) ?_)
                  refine toEnd hC ?_
                  refine endX_seq ?_
                  refine runX_regionC fun C hC => ?_
                  try simp -implicitDefEqProofs (maxSteps := 4000000) (disch := first | omega | decide | (simp only [go_sem]; omega)) only [go_sem, ↓reduceIte]
                  repeat (with_reducible refine And.intro (by first | assumption | omega | (simp; done) | (simp; omega)) ?_)
                  refine toEnd hC ?_
                  refine endX_blk ?_
                  refine endX_blk ?_
                  refine endX_q (roundQ_normal ⟨m1, by omega, F10_S1 a0 a1 x1 x2 (IntKind.wrap .i64 (x3 + (1 : Int))) (IntKind.wrap .i64 (x4 + (1 : Int))), ?_, x1, x2, (IntKind.wrap .i64 (x3 + (1 : Int))), (IntKind.wrap .i64 (x4 + (1 : Int))), rfl, by omega, h⟩)
                  simp only [F10_S1]
                  (try simp -implicitDefEqProofs (maxSteps := 4000000) (disch := first | omega | decide | (simp only [go_sem]; omega)) only [go_sem, ↓reduceIte])
                  first | exact leS_refl _ | (refine leS_le ?_ ?_ <;> first | exact leL_refl _ | exact leOs_refl _ | (repeat (first | exact leL_refl _ | refine leL_cons (by first | exact leT_refl _ | exact leT_virt | exact leT_junk _ | exact leT_sl | exact leT_sln | exact leT_nil) ?_)))
                · refine runX_condF rfl c22 ?_
                  refine runX_seq ?_
                  refine runX_regionC fun C hC => ?_
                  try simp -implicitDefEqProofs (maxSteps := 4000000) (disch := first | omega | decide | (simp only [go_sem]; omega)) only [go_sem, ↓reduceIte]
                  repeat (with_reducible refine And.intro (by first | assumption | omega | (simp; done) | (simp; omega)) ?_)
                  refine toEnd hC ?_
                  refine endX_seq ?_
                  rcases iteB_some h with ⟨c23, h⟩ | ⟨c23, h⟩
                  · refine runX_condT rfl c23 ?_
                    refine runX_seq ?_
                    refine runX_regionC fun C hC => ?_
                    try simp -implicitDefEqProofs (maxSteps := 4000000) (disch := first | omega | decide | (simp only [go_sem]; omega)) only [go_sem, ↓reduceIte]
                    repeat (with_reducible refine And.intro (by first | assumption | omega | (simp; done) | (simp; omega)) ?_)
                    refine toEnd hC ?_
                    refine endX_seq ?_
                    refine runX_regionC fun C hC => ?_
                    try simp -implicitDefEqProofs (maxSteps := 4000000) (disch := first | omega | decide | (simp only [go_sem]; omega)) only [go_sem, ↓reduceIte]
                    repeat (with_reducible refine And.intro (by first | assumption | omega | (simp; done) | (simp; omega)) ?_)
                    refine toEnd hC ?_
                    refine endX_blk ?_
                    refine endX_blk ?_
                    refine endX_q (roundQ_normal ⟨m1, by omega, F10_S1 a0 a1 x1 (IntKind.wrap .i64 (x2 + (1 : Int))) (IntKind.wrap .i64 (x1 + (1 : Int))) (IntKind.wrap .i64 (x2 + (1 : Int))), ?_, x1, (IntKind.wrap .i64 (x2 + (1 : Int))), (IntKind.wrap .i64 (x1 + (1 : Int))), (IntKind.wrap .i64 (x2 + (1 : Int))), rfl, by omega, h⟩)
                    simp only [F10_S1]
                    (try simp -implicitDefEqProofs (maxSteps := 4000000) (disch := first | omega | decide | (simp only [go_sem]; omega)) only [go_sem, ↓reduceIte])
                    first | exact leS_refl _ | (refine leS_le ?_ ?_ <;> first | exact leL_refl _ | exact leOs_refl _ | (repeat (first | exact leL_refl _ | refine leL_cons (by first | exact leT_refl _ | exact leT_virt | exact leT_junk _ | exact leT_sl | exact leT_sln | exact leT_nil) ?_)))
                  · refine runX_condF rfl c23 ?_
                    refine runX_seq ?_
                    refine runX_regionC fun C hC => ?_
                    try simp -implicitDefEqProofs (maxSteps := 4000000) (disch := first | omega | decide | (simp only [go_sem]; omega)) only [go_sem, ↓reduceIte]
                    repeat (with_reducible refine And.intro (by first | assumption | omega | (simp; done) | (simp; omega)) ?_)
                    refine toEnd hC ?_
                    refine endX_seq ?_
                    refine runX_ret ?_
                    refine endX_blkR ?_
                    refine endX_blkR ?_
                    refine endX_q (roundQ_ret ?_)
                    refine endX_blkR ?_
                    refine endX_seqR ?_
                    refine endX_q ?_
                    obtain rfl := Option.some.inj h
                    show RetW _ _ _ _ _
                    simp only [RetW]
                    (try simp -implicitDefEqProofs (maxSteps := 4000000) (disch := first | omega | decide | (simp only [go_sem]; omega)) only [go_sem, ↓reduceIte])
                    (try simp (disch := omega) only [if_pos, Nat.sub_zero])
                    exact leT_refl _
            · refine guardD_F c17 ?_
              try simp -implicitDefEqProofs (maxSteps := 4000000) (disch := first | omega | decide | (simp only [go_sem]; omega)) only [go_sem, ↓reduceIte]
              repeat (with_reducible refine And.intro (by first | assumption | omega | (simp; done) | (simp; omega)) ?_)
              refine toEnd hC ?_
              refine endX_seq ?_
              refine runX_condF rfl rfl ?_
              refine runX_seq ?_
              refine runX_regionC fun C hC => ?_
              try simp -implicitDefEqProofs (maxSteps := 4000000) (disch := first | omega | decide | (simp only [go_sem]; omega)) only [go_sem, ↓reduceIte]
              repeat (with_reducible refine And.intro (by first | assumption | omega | (simp; done) | (simp; omega)) ?_)
              refine toEnd hC ?_
              refine endX_seq ?_
              rcases iteB_some h with ⟨c24, h⟩ | ⟨c24, h⟩
              · refine runX_condT rfl c24 ?_
                refine runX_seq ?_
                refine runX_regionC fun C hC => ?_
                try simp -implicitDefEqProofs (maxSteps := 4000000) (disch := first | omega | decide | (simp only [go_sem]; omega)) only [go_sem, ↓reduceIte]
                repeat (with_reducible refine And.intro (by first | assumption | omega | (simp; done) | (simp; omega)) ?_)
                refine toEnd hC ?_
                refine endX_seq ?_
                refine runX_regionC fun C hC => ?_
                try simp -implicitDefEqProofs (maxSteps := 4000000) (disch := first | omega | decide | (simp only [go_sem]; omega)) only [go_sem, ↓reduceIte]
                repeat (with_reducible refine And.intro (by first | assumption | omega | (simp; done) | (simp; omega)) ?_)
                refine toEnd hC ?_
                refine endX_blk ?_
                refine endX_blk ?_
                refine endX_q (roundQ_normal ⟨m1, by omega, F10_S1 a0 a1 x1 (IntKind.wrap .i64 (x2 + (1 : Int))) (IntKind.wrap .i64 (x1 + (1 : Int))) (IntKind.wrap .i64 (x2 + (1 : Int))), ?_, x1, (IntKind.wrap .i64 (x2 + (1 : Int))), (IntKind.wrap .i64 (x1 + (1 : Int))), (IntKind.wrap .i64 (x2 + (1 : Int))), rfl, by omega, h⟩)
                simp only [F10_S1]
                (try simp -implicitDefEqProofs (maxSteps := 4000000) (disch := first | omega | decide | (simp only [go_sem]; omega)) only [go_sem, ↓reduceIte])
                first | exact leS_refl _ | (refine leS_le ?_ ?_ <;> first | exact leL_refl _ | exact leOs_refl _ | (repeat (first | exact leL_refl _ | refine leL_cons (by first | exact leT_refl _ | exact leT_virt | exact leT_junk _ | exact leT_sl | exact leT_sln | exact leT_nil) ?_)))
              · refine runX_condF rfl c24 ?_
                refine runX_seq ?_
                refine runX_regionC fun C hC => ?_
                try simp -implicitDefEqProofs (maxSteps := 4000000) (disch := first | omega | decide | (simp only [go_sem]; omega)) only [go_sem, ↓reduceIte]
                repeat (with_reducible refine And.intro (by first | assumption | omega | (simp; done) | (simp; omega)) ?_)
                refine toEnd hC ?_
                refine endX_seq ?_
                refine runX_ret ?_
                refine endX_blkR ?_
                refine endX_blkR ?_
                refine endX_q (roundQ_ret ?_)
                refine endX_blkR ?_
                refine endX_seqR ?_
                refine endX_q ?_
                obtain rfl := Option.some.inj h
                show RetW _ _ _ _ _
                simp only [RetW]
                (try simp -implicitDefEqProofs (maxSteps := 4000000) (disch := first | omega | decide | (simp only [go_sem]; omega)) only [go_sem, ↓reduceIte])
                (try simp (disch := omega) only [if_pos, Nat.sub_zero])
                exact leT_refl _
        · refine runX_condF rfl c5 ?_
          refine runX_exit ?_
          refine endX_seqE ?_
          refine endX_q (roundQ_exit ?_)
          refine endX_blkE ?_
          refine endX_seq ?_
          refine runX_seq ?_
          refine runX_regionC fun C hC => ?_
          obtain ⟨g25, h⟩ := grd_some h
          obtain ⟨v26, h26, h⟩ := bnd_some h
          try simp -implicitDefEqProofs (maxSteps := 4000000) (disch := first | omega | decide | (simp only [go_sem]; omega)) only [go_sem, ↓reduceIte]
          repeat (with_reducible refine And.intro (by first | assumption | omega | (simp; done) | (simp; omega)) ?_)
          refine callG_X (F30_ok m1 (a0.drop x3.toNat) ([42] : List UInt8) _ h26) (by repeat (first | exact leL_refl _ | refine leL_cons (by first | exact leT_refl _ | exact leT_virt | exact leT_junk _ | exact leT_sl | exact leT_sln | exact leT_nil) ?_)) ?_
          try simp -implicitDefEqProofs (maxSteps := 4000000) (disch := first | omega | decide | (simp only [go_sem]; omega)) only [go_sem, ↓reduceIte]
          repeat (with_reducible refine And.intro (by first | assumption | omega | (simp; done) | (simp; omega)) ?_)
          refine toEnd hC ?_
          refine endX_seq ?_
          refine runX_ret ?_
          refine endX_q ?_
          obtain rfl := Option.some.inj h
          show RetW _ _ _ _ _
          simp only [RetW]
          (try simp -implicitDefEqProofs (maxSteps := 4000000) (disch := first | omega | decide | (simp only [go_sem]; omega)) only [go_sem, ↓reduceIte])
          (try simp (disch := omega) only [if_pos, Nat.sub_zero])
          exact leT_refl _
end Go.Proofs.YtjkfobmfddfjhaaDoorX

set_option linter.unusedVariables false
set_option linter.unusedSimpArgs false
namespace Go.Proofs.YtjkfobmfddfjhaaDoorX
open Go Go.RowKit Go.Proofs
set_option maxRecDepth 100000
attribute [local go_sem ↓] stepsK_build stepsK_build0 stepsK_bs stepsK_bs0 appendS
attribute [local go_sem] String.reduceEq String.reduceNe reduceCtorEq Int.reduceEq Nat.reduceAdd Nat.reduceSub Nat.reduceMul Nat.reduceLT Nat.reduceLeDiff Nat.reduceEqDiff Nat.reduceBEq Int.reduceToNat Int.reduceLT Int.reduceLE Int.reduceGT Int.reduceGE Int.reduceAdd Int.reduceSub Int.reduceMul Int.reduceNeg Int.reduceBEq Int.reduceBNe Int.reducePow Int.reduceDiv Int.reduceMod Int.reduceTDiv Int.reduceTMod Int.reduceNatCast
/-! ### policy.among -/
def F31_S1 (a1 : List UInt8) (a0 : List (List UInt8)) (x1 : Int) : St := ⟨[.junk, .imm (.string (bs a1)), .junk, .junk, .junk, .junk, .junk, .sl 1 false (List.map eS a0), .imm (.int .i64 (a0.length : Int)), .imm (.int .i64 x1), .junk, .junk, .junk, .junk, .junk, .junk, .junk], []⟩
def F31_L1 : Nat → (List UInt8) → (List (List UInt8)) → (Int) → Option (Bool)
  | 0, _, _, _ => none
  | m1 + 1, a1, a0, x1 => iteB (decide (x1 < (a0.length : Int))) (grd (0 ≤ x1 ∧ x1 < (a0.length : Int)) ((F10 m1 (a0.getD x1.toNat default) a1).bind fun v4 => iteB v4 (some true) (F31_L1 m1 a1 a0 (IntKind.wrap .i64 (x1 + (1 : Int)))))) (some false)
def F31 (n : Nat) (a0 : List (List UInt8)) (a1 : List UInt8) : Option (Bool) := F31_L1 n a1 a0 (0 : Int)
set_option maxHeartbeats 4000000 in
theorem F31_ok : ∀ (n : Nat) (a0 : List (List UInt8)) (a1 : List UInt8) (r : Bool), F31 n a0 a1 = some r → FnC Tryd.prog 31 [.sl 1 false (List.map eS a0), .imm (.string (bs a1))] (.imm (.bool r))
  | n, a0, a1, r, h => by
    unfold F31 at h
    refine FnC.goX mixed Tryd.func31 (by kernel_rfl) rfl ?_
    simp only [Tryd.ntmps31, List.length_cons, List.length_nil, List.replicate, List.cons_append, List.nil_append, Nat.reduceAdd, Nat.reduceSub]
    refine runX_seq ?_
    refine runX_regionC fun C hC => ?_
    try simp -implicitDefEqProofs (maxSteps := 4000000) (disch := first | omega | decide | (simp only [go_sem]; omega)) only [go_sem, ↓reduceIte]
    repeat (with_reducible refine And.intro (by first | assumption | omega | (simp; done) | (simp; omega)) ?_)
    refine toEnd hC ?_
    refine endX_seq ?_
    refine runX_seq ?_
    refine runX_seq ?_
    refine runX_regionC fun C hC => ?_
    try simp -implicitDefEqProofs (maxSteps := 4000000) (disch := first | omega | decide | (simp only [go_sem]; omega)) only [go_sem, ↓reduceIte]
    repeat (with_reducible refine And.intro (by first | assumption | omega | (simp; done) | (simp; omega)) ?_)
    refine toEnd hC ?_
    refine endX_seq ?_
    refine runX_block ?_
    refine runX_loop [1, 7, 8, 9] (fun m S => ∃ (x1 : Int), S = F31_S1 a1 a0 x1 ∧ m ≤ n ∧ F31_L1 m a1 a0 x1 = some r) n ⟨F31_S1 a1 a0 (0 : Int), ?_, (0 : Int), rfl, Nat.le_refl _, h⟩ ?_
    · simp only [F31_S1]
      (try simp -implicitDefEqProofs (maxSteps := 4000000) (disch := first | omega | decide | (simp only [go_sem]; omega)) only [go_sem, ↓reduceIte])
      first | exact leS_refl _ | (refine leS_le ?_ ?_ <;> first | exact leL_refl _ | exact leOs_refl _ | (repeat (first | exact leL_refl _ | refine leL_cons (by first | exact leT_refl _ | exact leT_virt | exact leT_junk _ | exact leT_sl | exact leT_sln | exact leT_nil) ?_)))
    · clear h
      rintro m1 S ⟨x1, rfl, hm1, h⟩
      cases m1 with
      | zero => first | cases (show (none : Option _) = some _ from h) | (rw [F31_L1] at h; cases h)
      | succ m1 =>
        rw [F31_L1] at h
        simp only [F31_S1]
        refine runX_seq ?_
        refine runX_regionC fun C hC => ?_
        try simp -implicitDefEqProofs (maxSteps := 4000000) (disch := first | omega | decide | (simp only [go_sem]; omega)) only [go_sem, ↓reduceIte]
        repeat (with_reducible refine And.intro (by first | assumption | omega | (simp; done) | (simp; omega)) ?_)
        refine toEnd hC ?_
        refine endX_seq ?_
        refine runX_seq ?_
        rcases iteB_some h with ⟨c2, h⟩ | ⟨c2, h⟩
        · refine runX_condT rfl c2 ?_
          refine runX_skip ?_
          refine endX_seq ?_
          refine runX_seq ?_
          refine runX_block ?_
          refine runX_seq ?_
          refine runX_regionC fun C hC => ?_
          obtain ⟨g3, h⟩ := grd_some h
          try simp -implicitDefEqProofs (maxSteps := 4000000) (disch := first | omega | decide | (simp only [go_sem]; omega)) only [go_sem, ↓reduceIte]
          repeat (with_reducible refine And.intro (by first | assumption | omega | (simp; done) | (simp; omega)) ?_)
          refine toEnd hC ?_
          refine endX_seq ?_
          refine runX_seq ?_
          refine runX_regionC fun C hC => ?_
          obtain ⟨v4, h4, h⟩ := bnd_some h
          try simp -implicitDefEqProofs (maxSteps := 4000000) (disch := first | omega | decide | (simp only [go_sem]; omega)) only [go_sem, ↓reduceIte]
          repeat (with_reducible refine And.intro (by first | assumption | omega | (simp; done) | (simp; omega)) ?_)
          refine callG_X (F10_ok m1 (a0.getD x1.toNat default) a1 _ h4) (by repeat (first | exact leL_refl _ | refine leL_cons (by first | exact leT_refl _ | exact leT_virt | exact leT_junk _ | exact leT_sl | exact leT_sln | exact leT_nil) ?_)) ?_
          try simp -implicitDefEqProofs (maxSteps := 4000000) (disch := first | omega | decide | (simp only [go_sem]; omega)) only [go_sem, ↓reduceIte]
          repeat (with_reducible refine And.intro (by first | assumption | omega | (simp; done) | (simp; omega)) ?_)
          refine toEnd hC ?_
          refine endX_seq ?_
          rcases iteB_some h with ⟨c5, h⟩ | ⟨c5, h⟩
          · refine runX_condT rfl c5 ?_
            refine runX_seq ?_
            refine runX_regionC fun C hC => ?_
            try simp -implicitDefEqProofs (maxSteps := 4000000) (disch := first | omega | decide | (simp only [go_sem]; omega)) only [go_sem, ↓reduceIte]
            repeat (with_reducible refine And.intro (by first | assumption | omega | (simp; done) | (simp; omega)) ?_)
            refine toEnd hC ?_
            refine endX_seq ?_
            refine runX_ret ?_
            refine endX_blkR ?_
            refine endX_seqR ?_
            refine endX_q (roundQ_ret ?_)
            refine endX_blkR ?_
            refine endX_seqR ?_
            refine endX_q ?_
            obtain rfl := Option.some.inj h
            show RetW _ _ _ _ _
            simp only [RetW]
            (try simp -implicitDefEqProofs (maxSteps := 4000000) (disch := first | omega | decide | (simp only [go_sem]; omega)) only [go_sem, ↓reduceIte])
            (try simp (disch := omega) only [if_pos, Nat.sub_zero])
            exact leT_refl _
          · refine runX_condF rfl c5 ?_
            refine runX_skip ?_
            refine endX_blk ?_
            refine endX_seq ?_
            refine runX_regionC fun C hC => ?_
            try simp -implicitDefEqProofs (maxSteps := 4000000) (disch := first | omega | decide | (simp only [go_sem]; omega)) only [go_sem, ↓reduceIte]
            repeat (with_reducible refine And.intro (by first | assumption | omega | (simp; done) | (simp; omega)) ?_)
            refine toEnd hC ?_
            refine endX_q (roundQ_normal ⟨m1, by omega, F31_S1 a1 a0 (IntKind.wrap .i64 (x1 + (1 : Int))), ?_, (IntKind.wrap .i64 (x1 + (1 : Int))), rfl, by omega, h⟩)
            simp only [F31_S1]
            (try simp -implicitDefEqProofs (maxSteps := 4000000) (disch := first | omega | decide | (simp only [go_sem]; omega)) only [go_sem, ↓reduceIte])
            first | exact leS_refl _ | (refine leS_le ?_ ?_ <;> first | exact leL_refl _ | exact leOs_refl _ | (repeat (first | exact leL_refl _ | refine leL_cons (by first | exact leT_refl _ | exact leT_virt | exact leT_junk _ | exact leT_sl | exact leT_sln | exact leT_nil) ?_)))
        · refine runX_condF rfl c2 ?_
          refine runX_exit ?_
          refine endX_seqE ?_
          refine endX_q (roundQ_exit ?_)
          refine endX_blkE ?_
          refine endX_seq ?_
          refine runX_seq ?_
          refine runX_regionC fun C hC => ?_
          try simp -implicitDefEqProofs (maxSteps := 4000000) (disch := first | omega | decide | (simp only [go_sem]; omega)) only [go_sem, ↓reduceIte]
          repeat (with_reducible refine And.intro (by first | assumption | omega | (simp; done) | (simp; omega)) ?_)
          refine toEnd hC ?_
          refine endX_seq ?_
          refine runX_ret ?_
          refine endX_q ?_
          obtain rfl := Option.some.inj h
          show RetW _ _ _ _ _
          simp only [RetW]
          (try simp -implicitDefEqProofs (maxSteps := 4000000) (disch := first | omega | decide | (simp only [go_sem]; omega)) only [go_sem, ↓reduceIte])
          (try simp (disch := omega) only [if_pos, Nat.sub_zero])
          exact leT_refl _
end Go.Proofs.YtjkfobmfddfjhaaDoorX

set_option linter.unusedVariables false
set_option linter.unusedSimpArgs false
namespace Go.Proofs.YtjkfobmfddfjhaaDoorX
open Go Go.RowKit Go.Proofs
set_option maxRecDepth 100000
attribute [local go_sem ↓] stepsK_build stepsK_build0 stepsK_bs stepsK_bs0 appendS
attribute [local go_sem] String.reduceEq String.reduceNe reduceCtorEq Int.reduceEq Nat.reduceAdd Nat.reduceSub Nat.reduceMul Nat.reduceLT Nat.reduceLeDiff Nat.reduceEqDiff Nat.reduceBEq Int.reduceToNat Int.reduceLT Int.reduceLE Int.reduceGT Int.reduceGE Int.reduceAdd Int.reduceSub Int.reduceMul Int.reduceNeg Int.reduceBEq Int.reduceBNe Int.reducePow Int.reduceDiv Int.reduceMod Int.reduceTDiv Int.reduceTMod Int.reduceNatCast
/-! ### policy.Decide -/
def F12_S1 (a1 : List UInt8) (a2 : List UInt8) (a3 : List UInt8) (a0 : List ((Bool) × (List (List UInt8)) × (List (List UInt8)) × (List (List UInt8)))) (x1 : Int) (x2 : Int) : St := ⟨[.junk, .imm (.string (bs a1)), .imm (.string (bs a2)), .imm (.string (bs a3)), .junk, .junk, .junk, .junk, .junk, .imm (.int .i64 x1), .junk, .junk, .sl 4 false (List.map eT33 a0), .imm (.int .i64 (a0.length : Int)), .imm (.int .i64 x2), .junk, .junk, .junk, .junk, .junk, .junk, .junk, .junk, .junk, .junk, .junk, .junk, .junk, .junk, .junk, .junk, .junk, .junk, .junk, .junk, .junk, .junk, .junk, .junk, .junk, .junk, .junk], []⟩
def F12_L1 : Nat → (List UInt8) → (List UInt8) → (List UInt8) → (List ((Bool) × (List (List UInt8)) × (List (List UInt8)) × (List (List UInt8)))) → (Int) → (Int) → Option (Int)
  | 0, _, _, _, _, _, _ => none
  | m1 + 1, a1, a2, a3, a0, x1, x2 => iteB (decide (x2 < (a0.length : Int))) (grd (0 ≤ x2 ∧ x2 < (a0.length : Int)) ((F31 m1 ((a0.getD x2.toNat default).2.1) a1).bind fun v5 => iteB (!v5) (F12_L1 m1 a1 a2 a3 a0 x1 (IntKind.wrap .i64 (x2 + (1 : Int)))) ((F31 m1 ((a0.getD x2.toNat default).2.2.1) a2).bind fun v7 => iteB (!v7) (F12_L1 m1 a1 a2 a3 a0 x1 (IntKind.wrap .i64 (x2 + (1 : Int)))) ((F31 m1 ((a0.getD x2.toNat default).2.2.2) a3).bind fun v9 => iteB (!v9) (F12_L1 m1 a1 a2 a3 a0 x1 (IntKind.wrap .i64 (x2 + (1 : Int)))) (iteB (!((a0.getD x2.toNat default).1)) (some (2 : Int)) (F12_L1 m1 a1 a2 a3 a0 (1 : Int) (IntKind.wrap .i64 (x2 + (1 : Int))))))))) (some x1)
def F12 (n : Nat) (a0 : List ((Bool) × (List (List UInt8)) × (List (List UInt8)) × (List (List UInt8)))) (a1 : List UInt8) (a2 : List UInt8) (a3 : List UInt8) : Option (Int) := F12_L1 n a1 a2 a3 a0 (0 : Int) (0 : Int)
set_option maxHeartbeats 4000000 in
theorem F12_ok : ∀ (n : Nat) (a0 : List ((Bool) × (List (List UInt8)) × (List (List UInt8)) × (List (List UInt8)))) (a1 : List UInt8) (a2 : List UInt8) (a3 : List UInt8) (r : Int), F12 n a0 a1 a2 a3 = some r → FnC Tryd.prog 12 [.sl 4 false (List.map eT33 a0), .imm (.string (bs a1)), .imm (.string (bs a2)), .imm (.string (bs a3))] (.imm (.int .i64 r))
  | n, a0, a1, a2, a3, r, h => by
    unfold F12 at h
    refine FnC.goX mixed Tryd.func12 (by kernel_rfl) rfl ?_
    simp only [Tryd.ntmps12, List.length_cons, List.length_nil, List.replicate, List.cons_append, List.nil_append, Nat.reduceAdd, Nat.reduceSub]
    refine runX_seq ?_
    refine runX_regionC fun C hC => ?_
    try simp -implicitDefEqProofs (maxSteps := 4000000) (disch := first | omega | decide | (simp only [go_sem]; omega)) only [go_sem, ↓reduceIte]
    repeat (with_reducible refine And.intro (by first | assumption | omega | (simp; done) | (simp; omega)) ?_)
    refine toEnd hC ?_
    refine endX_seq ?_
    refine runX_seq ?_
    refine runX_regionC fun C hC => ?_
    try simp -implicitDefEqProofs (maxSteps := 4000000) (disch := first | omega | decide | (simp only [go_sem]; omega)) only [go_sem, ↓reduceIte]
    repeat (with_reducible refine And.intro (by first | assumption | omega | (simp; done) | (simp; omega)) ?_)
    refine toEnd hC ?_
    refine endX_seq ?_
    refine runX_seq ?_
    refine runX_seq ?_
    refine runX_regionC fun C hC => ?_
    try simp -implicitDefEqProofs (maxSteps := 4000000) (disch := first | omega | decide | (simp only [go_sem]; omega)) only [go_sem, ↓reduceIte]
    repeat (with_reducible refine And.intro (by first | assumption | omega | (simp; done) | (simp; omega)) ?_)
    refine toEnd hC ?_
    refine endX_seq ?_
    refine runX_block ?_
    refine runX_loop [1, 2, 3, 9, 12, 13, 14] (fun m S => ∃ (x1 : Int) (x2 : Int), S = F12_S1 a1 a2 a3 a0 x1 x2 ∧ m ≤ n ∧ F12_L1 m a1 a2 a3 a0 x1 x2 = some r) n ⟨F12_S1 a1 a2 a3 a0 (0 : Int) (0 : Int), ?_, (0 : Int), (0 : Int), rfl, Nat.le_refl _, h⟩ ?_
    · simp only [F12_S1]
      (try simp -implicitDefEqProofs (maxSteps := 4000000) (disch := first | omega | decide | (simp only [go_sem]; omega)) only [go_sem, ↓reduceIte])
      first | exact leS_refl _ | (refine leS_le ?_ ?_ <;> first | exact leL_refl _ | exact leOs_refl _ | (repeat (first | exact leL_refl _ | refine leL_cons (by first | exact leT_refl _ | exact leT_virt | exact leT_junk _ | exact leT_sl | exact leT_sln | exact leT_nil) ?_)))
    · clear h
      rintro m1 S ⟨x1, x2, rfl, hm1, h⟩
      cases m1 with
      | zero => first | cases (show (none : Option _) = some _ from h) | (rw [F12_L1] at h; cases h)
      | succ m1 =>
        rw [F12_L1] at h
        simp only [F12_S1]
        refine runX_seq ?_
        refine runX_regionC fun C hC => ?_
        try simp -implicitDefEqProofs (maxSteps := 4000000) (disch := first | omega | decide | (simp only [go_sem]; omega)) only [go_sem, ↓reduceIte]
        repeat (with_reducible refine And.intro (by first | assumption | omega | (simp; done) | (simp; omega)) ?_)
        refine toEnd hC ?_
        refine endX_seq ?_
        refine runX_seq ?_
        rcases iteB_some h with ⟨c3, h⟩ | ⟨c3, h⟩
        · refine runX_condT rfl c3 ?_
          refine runX_skip ?_
          refine endX_seq ?_
          refine runX_seq ?_
          refine runX_block ?_
          refine runX_seq ?_
          refine runX_regionC fun C hC => ?_
          obtain ⟨g4, h⟩ := grd_some h
          try simp -implicitDefEqProofs (maxSteps := 4000000) (disch := first | omega | decide | (simp only [go_sem]; omega)) only [go_sem, ↓reduceIte]
          repeat (with_reducible refine And.intro (by first | assumption | omega | (simp; done) | (simp; omega)) ?_)
          refine toEnd hC ?_
          refine endX_seq ?_
          refine runX_seq ?_
          refine runX_seq ?_
          refine runX_regionC fun C hC => ?_
          obtain ⟨v5, h5, h⟩ := bnd_some h
          try simp -implicitDefEqProofs (maxSteps := 4000000) (disch := first | omega | decide | (simp only [go_sem]; omega)) only [go_sem, ↓reduceIte]
          repeat (with_reducible refine And.intro (by first | assumption | omega | (simp; done) | (simp; omega)) ?_)
          refine callG_X (F31_ok m1 ((a0.getD x2.toNat default).2.1) a1 _ h5) (by repeat (first | exact leL_refl _ | refine leL_cons (by first | exact leT_refl _ | exact leT_virt | exact leT_junk _ | exact leT_sl | exact leT_sln | exact leT_nil) ?_)) ?_
          try simp -implicitDefEqProofs (maxSteps := 4000000) (disch := first | omega | decide | (simp only [go_sem]; omega)) only [go_sem, ↓reduceIte]
          repeat (with_reducible refine And.intro (by first | assumption | omega | (simp; done) | (simp; omega)) ?_)
          rcases iteB_some h with ⟨c6, h⟩ | ⟨c6, h⟩
          · refine guardK_F c6 ?_
            try simp -implicitDefEqProofs (maxSteps := 4000000) (disch := first | omega | decide | (simp only [go_sem]; omega)) only [go_sem, ↓reduceIte]
            repeat (with_reducible refine And.intro (by first | assumption | omega | (simp; done) | (simp; omega)) ?_)
            refine toEnd hC ?_
            refine endX_seq ?_
            refine runX_condT rfl rfl ?_
            refine runX_exit ?_
            refine endX_seqE ?_
            refine endX_blkE ?_
            refine endX_seq ?_
            refine runX_regionC fun C hC => ?_
            try simp -implicitDefEqProofs (maxSteps := 4000000) (disch := first | omega | decide | (simp only [go_sem]; omega)) only [go_sem, ↓reduceIte]
            repeat (with_reducible refine And.intro (by first | assumption | omega | (simp; done) | (simp; omega)) ?_)
            refine toEnd hC ?_
            refine endX_q (roundQ_normal ⟨m1, by omega, F12_S1 a1 a2 a3 a0 x1 (IntKind.wrap .i64 (x2 + (1 : Int))), ?_, x1, (IntKind.wrap .i64 (x2 + (1 : Int))), rfl, by omega, h⟩)
            simp only [F12_S1]
            (try simp -implicitDefEqProofs (maxSteps := 4000000) (disch := first | omega | decide | (simp only [go_sem]; omega)) only [go_sem, ↓reduceIte])
            first | exact leS_refl _ | (refine leS_le ?_ ?_ <;> first | exact leL_refl _ | exact leOs_refl _ | (repeat (first | exact leL_refl _ | refine leL_cons (by first | exact leT_refl _ | exact leT_virt | exact leT_junk _ | exact leT_sl | exact leT_sln | exact leT_nil) ?_)))
          · refine guardK_T c6 ?_
            obtain ⟨v7, h7, h⟩ := bnd_some h
            try simp -implicitDefEqProofs (maxSteps := 4000000) (disch := first | omega | decide | (simp only [go_sem]; omega)) only [go_sem, ↓reduceIte]
            repeat (with_reducible refine And.intro (by first | assumption | omega | (simp; done) | (simp; omega)) ?_)
            refine callG_X (F31_ok m1 ((a0.getD x2.toNat default).2.2.1) a2 _ h7) (by repeat (first | exact leL_refl _ | refine leL_cons (by first | exact leT_refl _ | exact leT_virt | exact leT_junk _ | exact leT_sl | exact leT_sln | exact leT_nil) ?_)) ?_
            try simp -implicitDefEqProofs (maxSteps := 4000000) (disch := first | omega | decide | (simp only [go_sem]; omega)) only [go_sem, ↓reduceIte]
            repeat (with_reducible refine And.intro (by first | assumption | omega | (simp; done) | (simp; omega)) ?_)
            rcases iteB_some h with ⟨c8, h⟩ | ⟨c8, h⟩
            · refine guardK_F c8 ?_
              try simp -implicitDefEqProofs (maxSteps := 4000000) (disch := first | omega | decide | (simp only [go_sem]; omega)) only [go_sem, ↓reduceIte]
              repeat (with_reducible refine And.intro (by first | assumption | omega | (simp; done) | (simp; omega)) ?_)
              refine toEnd hC ?_
              refine endX_seq ?_
              refine runX_condT rfl rfl ?_
              refine runX_exit ?_
              refine endX_seqE ?_
              refine endX_blkE ?_
              refine endX_seq ?_
              refine runX_regionC fun C hC => ?_
              try simp -implicitDefEqProofs (maxSteps := 4000000) (disch := first | omega | decide | (simp only [go_sem]; omega)) only [go_sem, ↓reduceIte]
              repeat (with_reducible refine And.intro (by first | assumption | omega | (simp; done) | (simp; omega)) ?_)
              refine toEnd hC ?_
              refine endX_q (roundQ_normal ⟨m1, by omega, F12_S1 a1 a2 a3 a0 x1 (IntKind.wrap .i64 (x2 + (1 : Int))), ?_, x1, (IntKind.wrap .i64 (x2 + (1 : Int))), rfl, by omega, h⟩)
              simp only [F12_S1]
              (try simp -implicitDefEqProofs (maxSteps := 4000000) (disch := first | omega | decide | (simp only [go_sem]; omega)) only [go_sem, ↓reduceIte])
              first | exact leS_refl _ | (refine leS_le ?_ ?_ <;> first | exact leL_refl _ | exact leOs_refl _ | (repeat (first | exact leL_refl _ | refine leL_cons (by first | exact leT_refl _ | exact leT_virt | exact leT_junk _ | exact leT_sl | exact leT_sln | exact leT_nil) ?_)))
            · refine guardK_T c8 ?_
              obtain ⟨v9, h9, h⟩ := bnd_some h
              try simp -implicitDefEqProofs (maxSteps := 4000000) (disch := first | omega | decide | (simp only [go_sem]; omega)) only [go_sem, ↓reduceIte]
              repeat (with_reducible refine And.intro (by first | assumption | omega | (simp; done) | (simp; omega)) ?_)
              refine callG_X (F31_ok m1 ((a0.getD x2.toNat default).2.2.2) a3 _ h9) (by repeat (first | exact leL_refl _ | refine leL_cons (by first | exact leT_refl _ | exact leT_virt | exact leT_junk _ | exact leT_sl | exact leT_sln | exact leT_nil) ?_)) ?_
              try simp -implicitDefEqProofs (maxSteps := 4000000) (disch := first | omega | decide | (simp only [go_sem]; omega)) only [go_sem, ↓reduceIte]
              repeat (with_reducible refine And.intro (by first | assumption | omega | (simp; done) | (simp; omega)) ?_)
              refine toEnd hC ?_
              refine endX_seq ?_
              rcases iteB_some h with ⟨c10, h⟩ | ⟨c10, h⟩
              · refine runX_condT rfl c10 ?_
                refine runX_exit ?_
                refine endX_seqE ?_
                refine endX_blkE ?_
                refine endX_seq ?_
                refine runX_regionC fun C hC => ?_
                try simp -implicitDefEqProofs (maxSteps := 4000000) (disch := first | omega | decide | (simp only [go_sem]; omega)) only [go_sem, ↓reduceIte]
                repeat (with_reducible refine And.intro (by first | assumption | omega | (simp; done) | (simp; omega)) ?_)
                refine toEnd hC ?_
                refine endX_q (roundQ_normal ⟨m1, by omega, F12_S1 a1 a2 a3 a0 x1 (IntKind.wrap .i64 (x2 + (1 : Int))), ?_, x1, (IntKind.wrap .i64 (x2 + (1 : Int))), rfl, by omega, h⟩)
                simp only [F12_S1]
                (try simp -implicitDefEqProofs (maxSteps := 4000000) (disch := first | omega | decide | (simp only [go_sem]; omega)) only [go_sem, ↓reduceIte])
                first | exact leS_refl _ | (refine leS_le ?_ ?_ <;> first | exact leL_refl _ | exact leOs_refl _ | (repeat (first | exact leL_refl _ | refine leL_cons (by first | exact leT_refl _ | exact leT_virt | exact leT_junk _ | exact leT_sl | exact leT_sln | exact leT_nil) ?_)))
              · refine runX_condF rfl c10 ?_
                refine runX_skip ?_
                refine endX_seq ?_
                refine runX_seq ?_
                refine runX_seq ?_
                refine runX_regionC fun C hC => ?_
                try simp -implicitDefEqProofs (maxSteps := 4000000) (disch := first | omega | decide | (simp only [go_sem]; omega)) only [go_sem, ↓reduceIte]
                repeat (with_reducible refine And.intro (by first | assumption | omega | (simp; done) | (simp; omega)) ?_)
                refine toEnd hC ?_
                refine endX_seq ?_
                rcases iteB_some h with ⟨c11, h⟩ | ⟨c11, h⟩
                · refine runX_condT rfl c11 ?_
                  refine runX_seq ?_
                  refine runX_regionC fun C hC => ?_
                  try simp -implicitDefEqProofs (maxSteps := 4000000) (disch := first | omega | decide | (simp only [go_sem]; omega)) only [go_sem, ↓reduceIte]
                  repeat (with_reducible refine And.intro (by first | assumption | omega | (simp; done) | (simp; omega)) ?_)
                  refine toEnd hC ?_
                  refine endX_seq ?_
                  refine runX_ret ?_
                  refine endX_seqR ?_
                  refine endX_blkR ?_
                  refine endX_seqR ?_
                  refine endX_q (roundQ_ret ?_)
                  refine endX_blkR ?_
                  refine endX_seqR ?_
                  refine endX_q ?_
                  obtain rfl := Option.some.inj h
                  show RetW _ _ _ _ _
                  simp only [RetW]
                  (try simp -implicitDefEqProofs (maxSteps := 4000000) (disch := first | omega | decide | (simp only [go_sem]; omega)) only [go_sem, ↓reduceIte])
                  (try simp (disch := omega) only [if_pos, Nat.sub_zero])
                  exact leT_refl _
                · refine runX_condF rfl c11 ?_
                  refine runX_skip ?_
                  refine endX_seq ?_
                  refine runX_regionC fun C hC => ?_
                  try simp -implicitDefEqProofs (maxSteps := 4000000) (disch := first | omega | decide | (simp only [go_sem]; omega)) only [go_sem, ↓reduceIte]
                  repeat (with_reducible refine And.intro (by first | assumption | omega | (simp; done) | (simp; omega)) ?_)
                  refine toEnd hC ?_
                  refine endX_blk ?_
                  refine endX_seq ?_
                  refine runX_regionC fun C hC => ?_
                  try simp -implicitDefEqProofs (maxSteps := 4000000) (disch := first | omega | decide | (simp only [go_sem]; omega)) only [go_sem, ↓reduceIte]
                  repeat (with_reducible refine And.intro (by first | assumption | omega | (simp; done) | (simp; omega)) ?_)
                  refine toEnd hC ?_
                  refine endX_q (roundQ_normal ⟨m1, by omega, F12_S1 a1 a2 a3 a0 (1 : Int) (IntKind.wrap .i64 (x2 + (1 : Int))), ?_, (1 : Int), (IntKind.wrap .i64 (x2 + (1 : Int))), rfl, by omega, h⟩)
                  simp only [F12_S1]
                  (try simp -implicitDefEqProofs (maxSteps := 4000000) (disch := first | omega | decide | (simp only [go_sem]; omega)) only [go_sem, ↓reduceIte])
                  first | exact leS_refl _ | (refine leS_le ?_ ?_ <;> first | exact leL_refl _ | exact leOs_refl _ | (repeat (first | exact leL_refl _ | refine leL_cons (by first | exact leT_refl _ | exact leT_virt | exact leT_junk _ | exact leT_sl | exact leT_sln | exact leT_nil) ?_)))
        · refine runX_condF rfl c3 ?_
          refine runX_exit ?_
          refine endX_seqE ?_
          refine endX_q (roundQ_exit ?_)
          refine endX_blkE ?_
          refine endX_seq ?_
          refine runX_seq ?_
          refine runX_regionC fun C hC => ?_
          try simp -implicitDefEqProofs (maxSteps := 4000000) (disch := first | omega | decide | (simp only [go_sem]; omega)) only [go_sem, ↓reduceIte]
          repeat (with_reducible refine And.intro (by first | assumption | omega | (simp; done) | (simp; omega)) ?_)
          refine toEnd hC ?_
          refine endX_seq ?_
          refine runX_ret ?_
          refine endX_q ?_
          obtain rfl := Option.some.inj h
          show RetW _ _ _ _ _
          simp only [RetW]
          (try simp -implicitDefEqProofs (maxSteps := 4000000) (disch := first | omega | decide | (simp only [go_sem]; omega)) only [go_sem, ↓reduceIte])
          (try simp (disch := omega) only [if_pos, Nat.sub_zero])
          exact leT_refl _
end Go.Proofs.YtjkfobmfddfjhaaDoorX
