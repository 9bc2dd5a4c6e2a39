/-
  Small functions and the stream of the generator, as the value machine turns them and run by it.
  Functions as the value machine turns them.
  The value machine: a row that the library has sorted.
  The value machine: a call that only reads, seen from an empty state, so that its arguments may be rows that still grow.
  Functions as the value machine turns them: models that are spoilt.
  A model without an error keeps to what a drawn one does.
  A slice of ints that came in, read as a list.
-/
import Derived.Test.YtadkhechobeccaaGreatDoorK04
import Derived.Shelf.SlSortCmp.Kit1
import Derived.Test.YtadkhechobeccaaGreatDoorK06
import Derived.Test.YtadkhechobeccaaGreatDoorK01
import Derived.OpenShut
import Derived.Carry
import Derived.ProofKit
namespace Go.Proofs.YtadkhechobeccaaGreatDoor.Vm
open Go.RowKit
def F_wrap : FnM := FnM.mk 6 (.seq (.lst [.mk 0 false (some 2) none (.mv (.c (.val (.int .i64 0))))]) (.seq (.lst [.mk 0 false (some 3) none (.mv (.t 0)), .mk 1 false (some 4) none (.conv .i32 (.t 3)), .mk 2 false (some 5) none (.conv .i64 (.t 4)), .mk 3 false (some 2) none (.mv (.t 5))]) .ret)) [.t 2]
theorem c_wrap : compF Tryz.prog 88 = some F_wrap := by kernel_rfl
def F_dot : FnM := FnM.mk 27 (.seq (.lst [.mk 0 false (some 4) none (.mv (.c (.val (.int .i64 0))))]) (.seq (.lst [.mk 0 false (some 5) none (.mv (.c (.val (.int .i64 0))))]) (.seq (.seq (.lst [.mk 0 false (some 7) none (.mv (.t 0)), .mk 1 false (some 8) none (.len (.t 7)), .mk 2 false (some 9) none (.mv (.c (.val (.int .i64 0))))]) (.block 0 (.loop (.seq (.lst [.mk 0 false (some 10) none (.bin .lss (.t 9) (.t 8))]) (.seq (.cond (.t 10) .skip (.exit 0)) (.seq (.block 1 (.seq (.lst [.mk 0 false (some 11) none (.mv (.t 9)), .mk 1 false (some 6) none (.mv (.t 11))]) (.flat [.mk 0 true (some 12) none (.mv (.t 5)), .mk 1 true (some 13) none (.mv (.t 0)), .mk 2 true (some 14) none (.mv (.t 6)), .mk 3 true (some 15) none (.iadr 1 (.t 13) (.t 14)), .mk 4 true (some 16) none (.load false 1 (.t 15)), .mk 5 true (some 17) none (.mv (.t 1)), .mk 6 true (some 18) none (.mv (.t 6)), .mk 7 true (some 19) none (.iadr 1 (.t 17) (.t 18)), .mk 8 true (some 20) none (.load false 1 (.t 19)), .mk 9 true (some 21) none (.bin .mul (.t 16) (.t 20)), .mk 10 false (some 22) none (.call 88 [.t 21]), .mk 11 false (some 23) none (.bin .add (.t 12) (.t 22)), .mk 12 false (some 24) none (.call 88 [.t 23]), .mk 13 false (some 5) none (.mv (.t 24))]))) (.lst [.mk 0 false (some 25) none (.bin .add (.t 9) (.c (.val (.int .i64 1)))), .mk 1 false (some 9) none (.mv (.t 25))]))))))) (.seq (.lst [.mk 0 false (some 26) none (.mv (.t 5)), .mk 1 false (some 4) none (.mv (.t 26))]) .ret)))) [.t 4]
theorem c_dot : compF Tryz.prog 90 = some F_dot := by kernel_rfl
def F_shift : FnM := FnM.mk 12 (.seq (.lst [.mk 0 false (some 4) none (.mv (.c (.val (.int .i64 0))))]) (.seq (.lst [.mk 0 false (some 5) none (.mv (.t 0)), .mk 1 false (some 6) none (.mv (.t 1)), .mk 2 false (some 7) none (.bin .sub (.t 6) (.c (.val (.int .i64 1)))), .mk 3 false (some 8) none (.bin .shl (.c (.val (.int .i64 1))) (.t 7)), .mk 4 false (some 9) none (.bin .add (.t 5) (.t 8)), .mk 5 false (some 10) none (.mv (.t 1)), .mk 6 false (some 11) none (.bin .shr (.t 9) (.t 10)), .mk 7 false (some 4) none (.mv (.t 11))]) .ret)) [.t 4]
theorem c_shift : compF Tryz.prog 89 = some F_shift := by kernel_rfl
def F_row : FnM := FnM.mk 16 (.seq (.lst [.mk 0 false (some 6) none (.mv (.c (.lst true [])))]) (.seq (.lst [.mk 0 false (some 7) none (.mv (.t 0)), .mk 1 false (some 8) none (.mv (.t 1)), .mk 2 false (some 9) none (.mv (.t 2)), .mk 3 false (some 10) none (.bin .mul (.t 8) (.t 9)), .mk 4 false (some 11) none (.mv (.t 1)), .mk 5 false (some 12) none (.bin .add (.t 11) (.c (.val (.int .i64 1)))), .mk 6 false (some 13) none (.mv (.t 2)), .mk 7 false (some 14) none (.bin .mul (.t 12) (.t 13)), .mk 8 false (some 15) none (.sl 1 (.t 7) (some (.t 10)) (some (.t 14))), .mk 9 false (some 6) none (.mv (.t 15))]) .ret)) [.t 6]
theorem c_row : compF Tryz.prog 86 = some F_row := by kernel_rfl
def F_rows : FnM := FnM.mk 14 (.seq (.lst [.mk 0 false (some 4) none (.mv (.c (.val (.int .i64 0))))]) (.seq (.seq (.lst [.mk 0 false (some 5) none (.mv (.t 0)), .mk 1 false (some 6) none (.len (.t 5)), .mk 2 false (some 7) none (.mv (.t 1)), .mk 3 false (some 8) none (.bin .rem (.t 6) (.t 7)), .mk 4 false (some 9) none (.bin .neq (.t 8) (.c (.val (.int .i64 0))))]) (.cond (.t 9) (.seq (.lst [.mk 0 false (some 4) none (.mv (.c (.val (.int .i64 0))))]) .ret) .skip)) (.seq (.lst [.mk 0 false (some 10) none (.mv (.t 0)), .mk 1 false (some 11) none (.len (.t 10)), .mk 2 false (some 12) none (.mv (.t 1)), .mk 3 false (some 13) none (.bin .quo (.t 11) (.t 12)), .mk 4 false (some 4) none (.mv (.t 13))]) .ret))) [.t 4]
theorem c_rows : compF Tryz.prog 87 = some F_rows := by kernel_rfl
def F_matrix : FnM := FnM.mk 14 (.seq (.lst [.mk 0 false (some 2) none (.box 27 (.t 0)), .mk 1 false (some 4) none (.mv (.c (.lst true [])))]) (.seq (.lst [.mk 0 false (some 5) none (.fadr 7 (.t 2)), .mk 1 false (some 6) none (.load false 1 (.t 5)), .mk 2 false (some 7) none (.mv (.t 1)), .mk 3 false (some 8) none (.fadr 2 (.t 2)), .mk 4 false (some 9) none (.load false 1 (.t 8)), .mk 5 false (some 10) none (.fadr 2 (.t 2)), .mk 6 false (some 11) none (.load false 1 (.t 10)), .mk 7 false (some 12) none (.bin .mul (.t 9) (.t 11)), .mk 8 false (some 13) none (.call 86 [.t 6, .t 7, .t 12]), .mk 9 false (some 4) none (.mv (.t 13))]) .ret)) [.t 4]
theorem c_matrix : compF Tryz.prog 91 = some F_matrix := by kernel_rfl
def F_entry : FnM := FnM.mk 79 (.seq (.lst [.mk 0 false (some 3) none (.box 27 (.t 0)), .mk 1 false (some 6) none (.mv (.c (.lst true [])))]) (.seq (.lst [.mk 0 false (some 14) none (.fadr 2 (.t 3)), .mk 1 false (some 15) none (.load false 1 (.t 14)), .mk 2 false (some 7) none (.mv (.t 15))]) (.seq (.lst [.mk 0 false (some 16) none (.fadr 5 (.t 3)), .mk 1 false (some 17) none (.load false 1 (.t 16)), .mk 2 false (some 18) none (.mv (.t 1)), .mk 3 false (some 19) none (.mv (.t 7)), .mk 4 false (some 20) none (.call 86 [.t 17, .t 18, .t 19]), .mk 5 false (some 21) none (.call 40 [.t 20]), .mk 6 false (some 8) none (.mv (.t 21))]) (.seq (.seq (.flat [.mk 0 true (some 22) none (.fadr 6 (.t 3)), .mk 1 true (some 23) none (.load false 1 (.t 22)), .mk 2 true (some 24) none (.mv (.t 2)), .mk 3 true (some 25) none (.fadr 6 (.t 3)), .mk 4 true (some 26) none (.load false 1 (.t 25)), .mk 5 true (some 27) none (.mv (.t 7)), .mk 8 true (some 30) none (.mv (.t 7)), .mk 11 true (some 33) none (.mv (.c (.val (.int .i64 0)))), .mk 6 false (some 28) none (.call 87 [.t 26, .t 27]), .mk 7 false (some 29) none (.bin .rem (.t 24) (.t 28)), .mk 9 false (some 31) none (.call 86 [.t 23, .t 29, .t 30]), .mk 10 false (some 32) none (.len (.t 31))]) (.block 0 (.loop (.seq (.lst [.mk 0 false (some 34) none (.bin .lss (.t 33) (.t 32))]) (.seq (.cond (.t 34) .skip (.exit 0)) (.seq (.block 1 (.seq (.lst [.mk 0 false (some 35) none (.mv (.t 33)), .mk 1 false (some 36) none (.iadr 1 (.t 31) (.t 33)), .mk 2 false (some 37) none (.load false 1 (.t 36)), .mk 3 false (some 9) none (.mv (.t 35)), .mk 4 false (some 10) none (.mv (.t 37))]) (.lst [.mk 0 false (some 38) none (.mv (.t 8)), .mk 1 false (some 39) none (.mv (.t 9)), .mk 2 false (some 40) none (.mv (.t 8)), .mk 3 false (some 41) none (.mv (.t 9)), .mk 4 false (some 42) none (.iadr 1 (.t 40) (.t 41)), .mk 5 false (some 43) none (.load false 1 (.t 42)), .mk 6 false (some 44) none (.mv (.t 10)), .mk 7 false (some 45) none (.bin .add (.t 43) (.t 44)), .mk 8 false (some 46) none (.call 88 [.t 45]), .mk 9 false (some 47) none (.iadr 1 (.t 38) (.t 39)), .mk 10 false none none (.store 1 (.t 47) (.t 46))]))) (.lst [.mk 0 false (some 48) none (.bin .add (.t 33) (.c (.val (.int .i64 1)))), .mk 1 false (some 33) none (.mv (.t 48))]))))))) (.seq (.seq (.lst [.mk 0 false (some 49) none (.fadr 0 (.t 3)), .mk 1 false (some 50) none (.load false 1 (.t 49)), .mk 2 false (some 51) none (.bin .neq (.t 50) (.c (.val (.int .i64 1))))]) (.cond (.t 51) (.seq (.lst [.mk 0 false (some 52) none (.mv (.t 8)), .mk 1 false (some 6) none (.mv (.t 52))]) .ret) .skip)) (.seq (.lst [.mk 0 false (some 11) none (.mv (.c (.lst true [])))]) (.seq (.seq (.lst [.mk 0 false (some 53) none (.mv (.c (.val (.int .i64 0))))]) (.block 2 (.loop (.seq (.lst [.mk 0 false (some 54) none (.bin .lss (.t 53) (.c (.val (.int .i64 3))))]) (.seq (.cond (.t 54) .skip (.exit 2)) (.seq (.block 3 (.seq (.lst [.mk 0 false (some 55) none (.mv (.t 53)), .mk 1 false (some 12) none (.mv (.t 55))]) (.seq (.lst [.mk 0 false (some 56) none (.mv (.t 7)), .mk 1 false (some 57) none (.mv (.c (.val (.int .i64 0))))]) (.block 4 (.loop (.seq (.lst [.mk 0 false (some 58) none (.bin .lss (.t 57) (.t 56))]) (.seq (.cond (.t 58) .skip (.exit 4)) (.seq (.block 5 (.seq (.lst [.mk 0 false (some 59) none (.mv (.t 57)), .mk 1 false (some 13) none (.mv (.t 59))]) (.flat [.mk 0 true (some 60) none (.mv (.t 11)), .mk 1 true (some 61) none (.load true 11 (.t 3)), .mk 2 true (some 62) none (.mv (.t 12)), .mk 4 true (some 64) none (.mv (.t 13)), .mk 5 true (some 65) none (.mv (.t 7)), .mk 7 true (some 67) none (.mv (.t 8)), .mk 9 true (some 69) none (.fadr 4 (.t 3)), .mk 10 true (some 70) none (.load false 1 (.t 69)), .mk 11 true (some 71) none (.iadr 1 (.t 70) (.c (.val (.int .i64 0)))), .mk 12 true (some 72) none (.load false 1 (.t 71)), .mk 3 false (some 63) none (.call 91 [.t 61, .t 62]), .mk 6 false (some 66) none (.call 86 [.t 63, .t 64, .t 65]), .mk 8 false (some 68) none (.call 90 [.t 66, .t 67]), .mk 13 false (some 73) none (.call 89 [.t 68, .t 72]), .mk 14 false (some 74) none (.bsl 3 1 1 (.val (.int .i64 0)) [(0, .t 73)]), .mk 15 false (some 75) none (.app 3 1 8 (.t 60) (.t 74)), .mk 16 false (some 11) none (.mv (.t 75))]))) (.lst [.mk 0 false (some 76) none (.bin .add (.t 57) (.c (.val (.int .i64 1)))), .mk 1 false (some 57) none (.mv (.t 76))]))))))))) (.lst [.mk 0 false (some 77) none (.bin .add (.t 53) (.c (.val (.int .i64 1)))), .mk 1 false (some 53) none (.mv (.t 77))]))))))) (.seq (.lst [.mk 0 false (some 78) none (.mv (.t 11)), .mk 1 false (some 6) none (.mv (.t 78))]) .ret)))))))) [.t 6]
theorem c_entry : compF Tryz.prog 58 = some F_entry := by kernel_rfl
def F_cloneI : FnM := FnM.mk 8 (.seq (.lst [.mk 0 false (some 2) none (.mv (.c (.lst true [])))]) (.seq (.seq (.lst [.mk 0 false (some 3) none (.mv (.t 0)), .mk 1 false (some 4) none (.snil false (.t 3))]) (.cond (.t 4) (.seq (.lst [.mk 0 false (some 2) none (.mv (.c (.lst true [])))]) .ret) .skip)) (.seq (.lst [.mk 0 false (some 5) none .emp, .mk 1 false (some 6) none (.mv (.t 0)), .mk 2 false (some 7) none (.app 3 1 8 (.t 5) (.t 6)), .mk 3 false (some 2) none (.mv (.t 7))]) .ret))) [.t 2]
theorem c_cloneI : compF Tryz.prog 40 = some F_cloneI := by kernel_rfl
end Go.Proofs.YtadkhechobeccaaGreatDoor.Vm
namespace Go.Proofs.YtadkhechobeccaaGreatDoor.Vm
open Go.RowKit
theorem hmix : Tryz.prog.follows .mixedOrders = true := by kernel_rfl
theorem le_of {a b : Nat} (h : Nat.ble a b = true) : a ≤ b := Nat.le_of_ble_eq_true h
def w32 (n : Int) : Int := IntKind.i32.wrap n
def ints (l : List Int) : List V := l.map I
@[simp] theorem ints_len (l : List Int) : (ints l).length = l.length := by simp [ints]
theorem ints_get {l : List Int} {k : Nat} {x : Int} (h : l[k]? = some x) : (ints l)[k]? = some (I x) := by simp [ints, h]
def dotK (a b : List Int) : Nat → Int
  | 0 => 0
  | k + 1 => w32 (dotK a b k + w32 ((a[k]?).getD 0 * (b[k]?).getD 0))
section
variable {T : Tbl} {M : Nat → Bool} {st : St} {K : V → St → Prop} {Kp : List PanicEntry → St → Prop}
theorem w64_w32 (n : Int) : IntKind.i64.wrap (IntKind.i32.wrap n) = w32 n := by
  unfold w32
  simp only [IntKind.wrap_i64, IntKind.wrap_i32]
  omega
theorem w32_w64 (n : Int) : w32 (IntKind.i64.wrap n) = w32 n := by
  unfold w32
  simp only [IntKind.wrap_i64, IntKind.wrap_i32]
  omega
theorem wrap_v (n : Int) (hK : K (I (w32 n)) st) : CallV Tryz.prog T M 88 [I n] st K Kp := by
  refine fun_ok hmix c_wrap (le_of rfl) ?_
  simp [F_wrap, w64_w32, hK]
theorem row_v (f : Bool) (l : List V) (at_ w : Int) (h1 : 0 ≤ at_ ∧ at_ ≤ 1000000) (h2 : 0 ≤ w ∧ w ≤ 1000000) (h3 : at_ * w + w ≤ l.length) (h4 : ∀ x ∈ l, x.cells.length = 1)
    (hK : ∀ g, K (.lst g ((l.drop (at_ * w).toNat).take w.toNat)) st) : CallV Tryz.prog T M 86 [.lst f l, I at_, I w] st K Kp := by
  refine fun_ok hmix c_row (le_of rfl) ?_
  have e0 : 0 ≤ at_ * w := Int.mul_nonneg h1.1 h2.1
  have e1 : at_ * w ≤ 1000000 * 1000000 := Int.mul_le_mul h1.2 h2.2 h2.1 (by omega)
  have e2 : (at_ + 1) * w = at_ * w + w := by rw [Int.add_mul, Int.one_mul]
  have e3 : (at_ * w + w).toNat - (at_ * w).toNat = w.toNat := by omega
  have e4 : (at_ * w).toNat ≤ (at_ * w + w).toNat := by omega
  have e5 : (at_ * w + w).toNat ≤ l.length := by omega
  simp [F_row, w64 (n := at_ * w) (by omega) (by omega), w64 (n := at_ + 1) (by omega) (by omega), w64 (n := at_ * w + w) (by omega) (by omega), e2, e0, e3, e5, show 0 ≤ at_ * w + w by omega]
  exact ⟨⟨by omega, h4⟩, hK _⟩
end
end Go.Proofs.YtadkhechobeccaaGreatDoor.Vm
namespace Go.Proofs.YtadkhechobeccaaGreatDoor.Vm
open Go.RowKit
def F_below : FnM := FnM.mk 16 (.seq (.lst [.mk 0 false (some 4) none (.mv (.c (.val (.int .i64 0))))]) (.seq (.seq (.lst [.mk 0 false (some 5) none (.mv (.t 1)), .mk 1 false (some 6) none (.bin .lss (.t 5) (.c (.val (.int .i64 1))))]) (.cond (.t 6) (.seq (.lst [.mk 0 false (some 4) none (.mv (.c (.val (.int .i64 0))))]) .ret) .skip)) (.seq (.lst [.mk 0 false (some 7) none (.mv (.t 0)), .mk 1 false (some 8) none (.mv (.t 1)), .mk 2 false (some 9) none (.bin .rem (.t 7) (.t 8)), .mk 3 false (some 0) none (.mv (.t 9))]) (.seq (.seq (.lst [.mk 0 false (some 10) none (.mv (.t 0)), .mk 1 false (some 11) none (.bin .lss (.t 10) (.c (.val (.int .i64 0))))]) (.cond (.t 11) (.lst [.mk 0 false (some 12) none (.mv (.t 0)), .mk 1 false (some 13) none (.mv (.t 1)), .mk 2 false (some 14) none (.bin .add (.t 12) (.t 13)), .mk 3 false (some 0) none (.mv (.t 14))]) .skip)) (.seq (.lst [.mk 0 false (some 15) none (.mv (.t 0)), .mk 1 false (some 4) none (.mv (.t 15))]) .ret))))) [.t 4]
theorem c_below : compF Tryz.prog 16 = some F_below := by kernel_rfl
def F_next : FnM := FnM.mk 64 (.seq (.lst [.mk 0 false (some 4) none (.mv (.c (.val (.int .i64 0))))]) (.seq (.lst [.mk 0 false (some 7) none (.mv (.t 0)), .mk 1 false (some 8) none (.nilck (.t 7)), .mk 2 false (some 9) none (.fadr 1 (.t 8)), .mk 3 false (some 10) none (.load false 1 (.t 9)), .mk 4 false (some 11) none (.bin .add (.t 10) (.c (.val (.int .i64 1)))), .mk 5 false (some 12) none (.nilck (.t 7)), .mk 6 false (some 13) none (.fadr 1 (.t 12)), .mk 7 false none none (.store 1 (.t 13) (.t 11))]) (.seq (.seq (.lst [.mk 0 false (some 14) none (.mv (.t 0)), .mk 1 false (some 15) none (.nilck (.t 14)), .mk 2 false (some 16) none (.fadr 0 (.t 15)), .mk 3 false (some 17) none (.load false 1 (.t 16)), .mk 4 false (some 18) none (.len (.t 17)), .mk 5 false (some 19) none (.bin .eql (.t 18) (.c (.val (.int .i64 0))))]) (.cond (.t 19) (.seq (.lst [.mk 0 false (some 20) none (.mv (.t 0)), .mk 1 false (some 21) none (.nilck (.t 20)), .mk 2 false (some 22) none (.fadr 1 (.t 21)), .mk 3 false (some 23) none (.load false 1 (.t 22)), .mk 4 false (some 24) none (.bin .mul (.t 23) (.c (.val (.int .i64 7919)))), .mk 5 false (some 25) none (.mv (.t 1)), .mk 6 false (some 26) none (.call 16 [.t 24, .t 25]), .mk 7 false (some 4) none (.mv (.t 26))]) .ret) .skip)) (.seq (.flat [.mk 0 true (some 27) none (.mv (.t 0)), .mk 1 true (some 28) none (.nilck (.t 27)), .mk 2 true (some 29) none (.fadr 1 (.t 28)), .mk 3 true (some 30) none (.load false 1 (.t 29)), .mk 4 true (some 31) none (.bin .sub (.t 30) (.c (.val (.int .i64 1)))), .mk 5 true (some 32) none (.mv (.t 0)), .mk 6 true (some 33) none (.nilck (.t 32)), .mk 7 true (some 34) none (.fadr 0 (.t 33)), .mk 8 true (some 35) none (.load false 1 (.t 34)), .mk 9 true (some 36) none (.len (.t 35)), .mk 10 true (some 37) none (.bin .rem (.t 31) (.t 36)), .mk 11 true (some 5) none (.mv (.t 37))]) (.seq (.flat [.mk 0 true (some 38) none (.mv (.t 0)), .mk 1 true (some 39) none (.nilck (.t 38)), .mk 2 true (some 40) none (.fadr 1 (.t 39)), .mk 3 true (some 41) none (.load false 1 (.t 40)), .mk 4 true (some 42) none (.bin .sub (.t 41) (.c (.val (.int .i64 1)))), .mk 5 true (some 43) none (.mv (.t 0)), .mk 6 true (some 44) none (.nilck (.t 43)), .mk 7 true (some 45) none (.fadr 0 (.t 44)), .mk 8 true (some 46) none (.load false 1 (.t 45)), .mk 9 true (some 47) none (.len (.t 46)), .mk 10 true (some 48) none (.bin .quo (.t 42) (.t 47)), .mk 11 true (some 6) none (.mv (.t 48))]) (.seq (.lst [.mk 0 false (some 49) none (.mv (.t 0)), .mk 1 false (some 50) none (.nilck (.t 49)), .mk 2 false (some 51) none (.fadr 0 (.t 50)), .mk 3 false (some 52) none (.load false 1 (.t 51)), .mk 4 false (some 53) none (.mv (.t 5)), .mk 5 false (some 54) none (.iadr 1 (.t 52) (.t 53)), .mk 6 false (some 55) none (.load false 1 (.t 54)), .mk 7 false (some 56) none (.call 16 [.t 55, .c (.val (.int .i64 1073741824))]), .mk 8 false (some 57) none (.mv (.t 6)), .mk 9 false (some 58) none (.mv (.t 5)), .mk 10 false (some 59) none (.bin .add (.c (.val (.int .i64 7919))) (.t 58)), .mk 11 false (some 60) none (.bin .mul (.t 57) (.t 59)), .mk 12 false (some 61) none (.bin .add (.t 56) (.t 60)), .mk 13 false (some 62) none (.mv (.t 1)), .mk 14 false (some 63) none (.call 16 [.t 61, .t 62]), .mk 15 false (some 4) none (.mv (.t 63))]) .ret)))))) [.t 4]
theorem c_next : compF Tryz.prog 10 = some F_next := by kernel_rfl
def F_range : FnM := FnM.mk 19 (.seq (.lst [.mk 0 false (some 6) none (.mv (.c (.val (.int .i64 0))))]) (.seq (.seq (.lst [.mk 0 false (some 7) none (.mv (.t 2)), .mk 1 false (some 8) none (.mv (.t 1)), .mk 2 false (some 9) none (.bin .lss (.t 7) (.t 8))]) (.cond (.t 9) (.seq (.lst [.mk 0 false (some 10) none (.mv (.t 1)), .mk 1 false (some 6) none (.mv (.t 10))]) .ret) .skip)) (.seq (.lst [.mk 0 false (some 11) none (.mv (.t 1)), .mk 1 false (some 12) none (.mv (.t 0)), .mk 2 false (some 13) none (.mv (.t 2)), .mk 3 false (some 14) none (.mv (.t 1)), .mk 4 false (some 15) none (.bin .sub (.t 13) (.t 14)), .mk 5 false (some 16) none (.bin .add (.t 15) (.c (.val (.int .i64 1)))), .mk 6 false (some 17) none (.call 10 [.t 12, .t 16]), .mk 7 false (some 18) none (.bin .add (.t 11) (.t 17)), .mk 8 false (some 6) none (.mv (.t 18))]) .ret))) [.t 6]
theorem c_range : compF Tryz.prog 9 = some F_range := by kernel_rfl
def F_flip : FnM := FnM.mk 9 (.seq (.lst [.mk 0 false (some 4) none (.mv (.c (.val (.bool false))))]) (.seq (.lst [.mk 0 false (some 5) none (.mv (.t 0)), .mk 1 false (some 6) none (.mv (.t 1)), .mk 2 false (some 7) none (.call 10 [.t 5, .t 6]), .mk 3 false (some 8) none (.bin .eql (.t 7) (.c (.val (.int .i64 0)))), .mk 4 false (some 4) none (.mv (.t 8))]) .ret)) [.t 4]
theorem c_flip : compF Tryz.prog 7 = some F_flip := by kernel_rfl
def F_pick : FnM := FnM.mk 12 (.seq (.lst [.mk 0 false (some 4) none (.mv (.c (.val (.int .i64 0))))]) (.seq (.lst [.mk 0 false (some 5) none (.mv (.t 1)), .mk 1 false (some 6) none (.mv (.t 0)), .mk 2 false (some 7) none (.mv (.t 1)), .mk 3 false (some 8) none (.len (.t 7)), .mk 4 false (some 9) none (.call 10 [.t 6, .t 8]), .mk 5 false (some 10) none (.iadr 1 (.t 5) (.t 9)), .mk 6 false (some 11) none (.load false 1 (.t 10)), .mk 7 false (some 4) none (.mv (.t 11))]) .ret)) [.t 4]
theorem c_pick : compF Tryz.prog 28 = some F_pick := by kernel_rfl
end Go.Proofs.YtadkhechobeccaaGreatDoor.Vm
namespace Go.Proofs.YtadkhechobeccaaGreatDoor.Vm
open Go.RowKit
def strm (f : Bool) (xs : List Int) (a : Int) : Blk := .row 25 2 [.agg [.lst f (ints xs), I a]]
section
variable {T : Tbl} {M : Nat → Bool} {st : St} {K : V → St → Prop} {Kp : List PanicEntry → St → Prop}
theorem below_v (x n : Int) (_hx : -9223372036854775808 ≤ x ∧ x ≤ 9223372036854775807) (hn : n ≤ 9223372036854775807) (hK : ∀ r, (n < 1 → r = 0) → (1 ≤ n → 0 ≤ r ∧ r < n) → K (I r) st) : CallV Tryz.prog T M 16 [I x, I n] st K Kp := by
  refine fun_ok hmix c_below (le_of rfl) ?_
  by_cases h : n < 1
  · simp [F_below, h]
    exact hK 0 (fun _ => rfl) (by omega)
  · have h0 : n ≠ 0 := by omega
    have hr := Int.tmod_lt_of_pos x (show 0 < n by omega)
    have hr2 : -n < x.tmod n := by
      have := Int.lt_tmod_of_pos x (show 0 < n by omega)
      exact this
    by_cases h2 : x.tmod n < 0
    · simp [F_below, h, h0, h2, w64 (n := x.tmod n + n) (by omega) (by omega)]
      exact hK _ (by omega) (by omega)
    · simp [F_below, h, h0, h2]
      exact hK _ (by omega) (by omega)
set_option maxRecDepth 10000 in
theorem next_v (s : Nat) (f : Bool) (xs : List Int) (a n : Int) (hs : st[s]? = some (strm f xs a)) (hM : M s = true) (hxs : xs.length ≤ 9223372036854775807) (hin : ∀ x ∈ xs, -9223372036854775808 ≤ x ∧ x ≤ 9223372036854775807) (ha : 0 ≤ a ∧ a ≤ 1000000000) (hn : n ≤ 9223372036854775807)
    (hK : ∀ r, (n < 1 → r = 0) → (1 ≤ n → 0 ≤ r ∧ r < n) → K (I r) (st.set s (strm f xs (a + 1)))) : CallV Tryz.prog T M 10 [.ptr s 1 0 0, I n] st K Kp := by
  have hg : ∀ x, (st.set s x)[s]? = some x := fun x => List.getElem?_set_self (List.getElem?_eq_some_iff.1 hs).1
  have hM' := upM_of (n := st.length) hM
  refine fun_ok hmix c_next (le_of rfl) ?_
  by_cases h : xs.length = 0
  · simp [F_next, hs, strm, hM', w64 (n := a + 1) (by omega) (by omega), hg, h, w64 (n := (a + 1) * 7919) (by omega) (by omega)]
    refine below_v _ _ (by omega) hn fun r h1 h2 => ?_
    simpa [strm] using hK r h1 h2
  · have h0 : (xs.length : Int) ≠ 0 := by omega
    have hz : ((xs.length : Int) == 0) = false := by simpa using h0
    have hq : 0 ≤ a.tmod xs.length := Int.tmod_nonneg _ ha.1
    have hq2 : a.tmod xs.length < xs.length := Int.tmod_lt_of_pos _ (by omega)
    have hd : 0 ≤ a.tdiv xs.length := Int.tdiv_nonneg ha.1 (by omega)
    have hd2 : a.tdiv xs.length ≤ a := Int.tdiv_le_self _ ha.1
    simp [F_next, hs, strm, hM', w64 (n := a + 1) (by omega) (by omega), hg, hz]
    refine wp_mflat [] [] ?_
    simp [hg, h, w64 (n := a) (by omega) (by omega)]
    refine wp_mflat [] [] ?_
    simp [hg, h, w64 (n := a) (by omega) (by omega), w64 (n := a.tdiv xs.length) (by omega) (by omega)]
    have hi : (a.tmod xs.length).toNat < xs.length := by omega
    have hb := hin _ (List.getElem_mem hi)
    have hm0 : 0 ≤ a.tdiv xs.length * (7919 + a.tmod xs.length) := Int.mul_nonneg hd (by omega)
    have hm2 : a.tmod xs.length ≤ a := by
      have h3 := Int.mul_tdiv_add_tmod a xs.length
      have h4 : 0 ≤ (xs.length : Int) * a.tdiv xs.length := Int.mul_nonneg (by omega) hd
      omega
    have hm1 : a.tdiv xs.length * (7919 + a.tmod xs.length) ≤ 1000000000 * 1000007919 := Int.mul_le_mul (by omega) (by omega) (by omega) (by omega)
    simp [hq, ints_get (List.getElem?_eq_getElem hi)]
    refine below_v _ _ hb (by omega) fun r h1 h2 => ?_
    have h2' := h2 (by omega)
    simp [w64 (n := 7919 + a.tmod xs.length) (by omega) (by omega), w64 (n := a.tdiv xs.length * (7919 + a.tmod xs.length)) (by omega) (by omega), w64 (n := r + a.tdiv xs.length * (7919 + a.tmod xs.length)) (by omega) (by omega)]
    refine below_v _ _ (by omega) hn fun r2 h3 h4 => ?_
    simpa [strm] using hK r2 h3 h4
theorem range_v (s : Nat) (f : Bool) (xs : List Int) (a lo hi : Int) (hs : st[s]? = some (strm f xs a)) (hM : M s = true) (hxs : xs.length ≤ 9223372036854775807) (hin : ∀ x ∈ xs, -9223372036854775808 ≤ x ∧ x ≤ 9223372036854775807) (ha : 0 ≤ a ∧ a ≤ 1000000000) (hlo : -1000000000000 ≤ lo) (hhi : hi ≤ 1000000000000) (hle : lo ≤ hi)
    (hK : ∀ r, lo ≤ r → r ≤ hi → K (I r) (st.set s (strm f xs (a + 1)))) : CallV Tryz.prog T M 9 [.ptr s 1 0 0, I lo, I hi] st K Kp := by
  refine fun_ok hmix c_range (le_of rfl) ?_
  have h0 : ¬ hi < lo := by omega
  simp [F_range, h0, w64 (n := hi - lo) (by omega) (by omega), w64 (n := hi - lo + 1) (by omega) (by omega)]
  refine next_v s f xs a _ hs (upM_of hM) hxs hin ha (by omega) fun r h1 h2 => ?_
  simp [w64 (n := lo + r) (by omega) (by omega)]
  exact hK _ (by omega) (by omega)
theorem flip_v (s : Nat) (f : Bool) (xs : List Int) (a n : Int) (hs : st[s]? = some (strm f xs a)) (hM : M s = true) (hxs : xs.length ≤ 9223372036854775807) (hin : ∀ x ∈ xs, -9223372036854775808 ≤ x ∧ x ≤ 9223372036854775807) (ha : 0 ≤ a ∧ a ≤ 1000000000) (hn : n ≤ 1000000)
    (hK : ∀ b, K (Bo b) (st.set s (strm f xs (a + 1)))) : CallV Tryz.prog T M 7 [.ptr s 1 0 0, I n] st K Kp := by
  refine fun_ok hmix c_flip (le_of rfl) ?_
  simp [F_flip]
  refine next_v s f xs a _ hs (upM_of hM) hxs hin ha (by omega) fun r h1 h2 => ?_
  simpa using hK _
end
end Go.Proofs.YtadkhechobeccaaGreatDoor.Vm
namespace Go.Proofs.YtadkhechobeccaaGreatDoor.Vm
open Go.RowKit
def F_sbytes : FnM := FnM.mk 24 (.seq (.lst [.mk 0 false (some 4) none (.mv (.c (.lst true [])))]) (.seq (.lst [.mk 0 false (some 5) none (.mv (.c (.lst true [])))]) (.seq (.seq (.lst [.mk 0 false (some 6) none (.mv (.t 1)), .mk 1 false (some 7) none (.mv (.c (.val (.int .i64 0))))]) (.block 0 (.loop (.seq (.lst [.mk 0 false (some 8) none (.bin .lss (.t 7) (.t 6))]) (.seq (.cond (.t 8) .skip (.exit 0)) (.seq (.block 1 (.seq (.lst [.mk 0 false (some 9) none (.mv (.t 0)), .mk 1 false (some 10) none (.call 7 [.t 9, .c (.val (.int .i64 6))])]) (.cond (.t 10) (.lst [.mk 0 false (some 11) none (.mv (.t 5)), .mk 1 false (some 12) none (.mv (.t 0)), .mk 2 false (some 13) none (.bsl 3 1 2 (.val (.int .i64 0)) [(0, .c (.val (.int .i64 (-128)))), (1, .c (.val (.int .i64 127)))]), .mk 3 false (some 14) none (.call 28 [.t 12, .t 13]), .mk 4 false (some 15) none (.bsl 3 1 1 (.val (.int .i64 0)) [(0, .t 14)]), .mk 5 false (some 16) none (.app 3 1 8 (.t 11) (.t 15)), .mk 6 false (some 5) none (.mv (.t 16))]) (.lst [.mk 0 false (some 17) none (.mv (.t 5)), .mk 1 false (some 18) none (.mv (.t 0)), .mk 2 false (some 19) none (.call 9 [.t 18, .c (.val (.int .i64 (-9))), .c (.val (.int .i64 9))]), .mk 3 false (some 20) none (.bsl 3 1 1 (.val (.int .i64 0)) [(0, .t 19)]), .mk 4 false (some 21) none (.app 3 1 8 (.t 17) (.t 20)), .mk 5 false (some 5) none (.mv (.t 21))])))) (.lst [.mk 0 false (some 22) none (.bin .add (.t 7) (.c (.val (.int .i64 1)))), .mk 1 false (some 7) none (.mv (.t 22))]))))))) (.seq (.lst [.mk 0 false (some 23) none (.mv (.t 5)), .mk 1 false (some 4) none (.mv (.t 23))]) .ret)))) [.t 4]
theorem c_sbytes : compF Tryz.prog 29 = some F_sbytes := by kernel_rfl
def F_gmodel : FnM := FnM.mk 111 (.seq (.lst [.mk 0 false (some 2) none (.alloc 27 (.agg [.val (.int .i64 0), .val (.int .i64 0), .val (.int .i64 0), .val (.int .i64 0), .lst true [], .lst true [], .lst true [], .lst true [], .lst true [], .lst true [], .lst true []]))]) (.seq (.lst [.mk 0 false (some 5) none (.mv (.t 0)), .mk 1 false (some 6) none (.call 9 [.t 5, .c (.val (.int .i64 1)), .c (.val (.int .i64 3))]), .mk 2 false (some 7) none (.mv (.t 0)), .mk 3 false (some 8) none (.bsl 3 1 5 (.val (.int .i64 0)) [(0, .c (.val (.int .i64 2))), (1, .c (.val (.int .i64 3))), (2, .c (.val (.int .i64 5))), (3, .c (.val (.int .i64 8))), (4, .c (.val (.int .i64 16)))]), .mk 4 false (some 9) none (.call 28 [.t 7, .t 8]), .mk 5 false (some 10) none (.mv (.t 0)), .mk 6 false (some 11) none (.bsl 3 1 5 (.val (.int .i64 0)) [(0, .c (.val (.int .i64 1))), (1, .c (.val (.int .i64 2))), (2, .c (.val (.int .i64 3))), (3, .c (.val (.int .i64 4))), (4, .c (.val (.int .i64 5)))]), .mk 7 false (some 12) none (.call 28 [.t 10, .t 11]), .mk 8 false (some 13) none (.bld [.val (.int .i64 0), .val (.int .i64 0), .val (.int .i64 0), .val (.int .i64 0), .lst true [], .lst true [], .lst true [], .lst true [], .lst true [], .lst true [], .lst true []] [(0, 1, .t 6), (1, 1, .t 9), (2, 1, .t 12)]), .mk 9 false (some 3) none (.alloc 27 (.agg [.val (.int .i64 0), .val (.int .i64 0), .val (.int .i64 0), .val (.int .i64 0), .lst true [], .lst true [], .lst true [], .lst true [], .lst true [], .lst true [], .lst true []])), .mk 10 false none none (.store 11 (.t 3) (.t 13))]) (.seq (.lst [.mk 0 false (some 14) none (.mv (.t 0)), .mk 1 false (some 15) none (.fadr 1 (.t 3)), .mk 2 false (some 16) none (.load false 1 (.t 15)), .mk 3 false (some 17) none (.call 9 [.t 14, .c (.val (.int .i64 1)), .t 16]), .mk 4 false (some 18) none (.fadr 3 (.t 3)), .mk 5 false none none (.store 1 (.t 18) (.t 17))]) (.seq (.seq (.lst [.mk 0 false (some 19) none (.mv (.t 0)), .mk 1 false (some 20) none (.call 7 [.t 19, .c (.val (.int .i64 2))])]) (.cond (.t 20) (.lst [.mk 0 false (some 21) none (.fadr 1 (.t 3)), .mk 1 false (some 22) none (.load false 1 (.t 21)), .mk 2 false (some 23) none (.fadr 3 (.t 3)), .mk 3 false none none (.store 1 (.t 23) (.t 22))]) .skip)) (.seq (.seq (.lst [.mk 0 false (some 24) none (.mv (.c (.val (.int .i64 0))))]) (.block 0 (.loop (.seq (.lst [.mk 0 false (some 25) none (.bin .lss (.t 24) (.c (.val (.int .i64 4))))]) (.seq (.cond (.t 25) .skip (.exit 0)) (.seq (.block 1 (.tail [.mk 0 true (some 26) none (.fadr 4 (.t 3)), .mk 1 true (some 27) none (.load false 1 (.t 26)), .mk 2 true (some 28) none (.mv (.t 0)), .mk 3 false (some 29) none (.bsl 3 1 7 (.val (.int .i64 0)) [(0, .c (.val (.int .i64 1))), (1, .c (.val (.int .i64 1))), (2, .c (.val (.int .i64 2))), (3, .c (.val (.int .i64 3))), (4, .c (.val (.int .i64 5))), (5, .c (.val (.int .i64 8))), (6, .c (.val (.int .i64 15)))]), .mk 4 false (some 30) none (.call 28 [.t 28, .t 29]), .mk 5 false (some 31) none (.bsl 3 1 1 (.val (.int .i64 0)) [(0, .t 30)]), .mk 6 false (some 32) none (.app 3 1 8 (.t 27) (.t 31)), .mk 7 true (some 33) none (.fadr 4 (.t 3))] [.mk 8 false none none (.store 1 (.t 33) (.t 32))])) (.lst [.mk 0 false (some 34) none (.bin .add (.t 24) (.c (.val (.int .i64 1)))), .mk 1 false (some 24) none (.mv (.t 34))]))))))) (.seq (.lst [.mk 0 false (some 4) none (.mv (.c (.val (.int .i64 3))))]) (.seq (.seq (.lst [.mk 0 false (some 35) none (.fadr 0 (.t 3)), .mk 1 false (some 36) none (.load false 1 (.t 35))]) (.block 2 (.seq (.lst [.mk 0 false (some 38) none (.bin .eql (.t 36) (.c (.val (.int .i64 2)))), .mk 1 false (some 37) none (.mv (.t 38))]) (.cond (.t 37) (.lst [.mk 0 false (some 4) none (.mv (.c (.val (.int .i64 2))))]) (.seq (.lst [.mk 0 false (some 40) none (.bin .eql (.t 36) (.c (.val (.int .i64 3)))), .mk 1 false (some 39) none (.mv (.t 40))]) (.cond (.t 39) (.lst [.mk 0 false (some 41) none (.mv (.t 0)), .mk 1 false (some 42) none (.call 9 [.t 41, .c (.val (.int .i64 1)), .c (.val (.int .i64 4))]), .mk 2 false (some 4) none (.mv (.t 42))]) .skip)))))) (.seq (.tail [.mk 0 true (some 43) none (.mv (.t 0)), .mk 1 true (some 44) none (.fadr 1 (.t 3)), .mk 2 true (some 45) none (.load false 1 (.t 44)), .mk 3 true (some 46) none (.fadr 2 (.t 3)), .mk 4 true (some 47) none (.load false 1 (.t 46)), .mk 5 true (some 48) none (.bin .mul (.t 45) (.t 47)), .mk 7 true (some 50) none (.mv (.t 0)), .mk 8 true (some 51) none (.fadr 1 (.t 3)), .mk 9 true (some 52) none (.load false 1 (.t 51)), .mk 10 true (some 53) none (.fadr 2 (.t 3)), .mk 11 true (some 54) none (.load false 1 (.t 53)), .mk 12 true (some 55) none (.bin .mul (.t 52) (.t 54)), .mk 6 false (some 49) none (.call 29 [.t 43, .t 48]), .mk 14 true (some 57) none (.fadr 5 (.t 3)), .mk 13 false (some 56) none (.call 29 [.t 50, .t 55]), .mk 15 false none none (.store 1 (.t 57) (.t 49)), .mk 16 true (some 58) none (.fadr 8 (.t 3))] [.mk 17 false none none (.store 1 (.t 58) (.t 56))]) (.seq (.tail [.mk 0 true (some 59) none (.mv (.t 0)), .mk 1 true (some 60) none (.mv (.t 0)), .mk 4 true (some 63) none (.fadr 2 (.t 3)), .mk 5 true (some 64) none (.load false 1 (.t 63)), .mk 8 true (some 67) none (.mv (.t 0)), .mk 9 true (some 68) none (.mv (.t 4)), .mk 10 true (some 69) none (.fadr 2 (.t 3)), .mk 11 true (some 70) none (.load false 1 (.t 69)), .mk 12 true (some 71) none (.bin .mul (.t 68) (.t 70)), .mk 13 true (some 72) none (.fadr 2 (.t 3)), .mk 14 true (some 73) none (.load false 1 (.t 72)), .mk 15 true (some 74) none (.bin .mul (.t 71) (.t 73)), .mk 2 false (some 61) none (.bsl 3 1 4 (.val (.int .i64 0)) [(0, .c (.val (.int .i64 1))), (1, .c (.val (.int .i64 2))), (2, .c (.val (.int .i64 4))), (3, .c (.val (.int .i64 16)))]), .mk 3 false (some 62) none (.call 28 [.t 60, .t 61]), .mk 6 false (some 65) none (.bin .mul (.t 62) (.t 64)), .mk 7 false (some 66) none (.call 29 [.t 59, .t 65]), .mk 17 true (some 76) none (.fadr 6 (.t 3)), .mk 16 false (some 75) none (.call 29 [.t 67, .t 74]), .mk 18 false none none (.store 1 (.t 76) (.t 66)), .mk 19 true (some 77) none (.fadr 7 (.t 3))] [.mk 20 false none none (.store 1 (.t 77) (.t 75))]) (.seq (.seq (.lst [.mk 0 false (some 78) none (.mv (.t 0)), .mk 1 false (some 79) none (.bsl 3 1 4 (.val (.int .i64 0)) [(0, .c (.val (.int .i64 1))), (1, .c (.val (.int .i64 2))), (2, .c (.val (.int .i64 5))), (3, .c (.val (.int .i64 64)))]), .mk 2 false (some 80) none (.call 28 [.t 78, .t 79]), .mk 3 false (some 81) none (.mv (.c (.val (.int .i64 0))))]) (.block 3 (.loop (.seq (.lst [.mk 0 false (some 82) none (.bin .lss (.t 81) (.t 80))]) (.seq (.cond (.t 82) .skip (.exit 3)) (.seq (.block 4 (.tail [.mk 0 true (some 83) none (.fadr 9 (.t 3)), .mk 1 true (some 84) none (.load false 1 (.t 83)), .mk 2 true (some 85) none (.mv (.t 0)), .mk 3 false (some 86) none (.bsl 3 1 5 (.val (.int .i64 0)) [(0, .c (.val (.int .i64 0))), (1, .c (.val (.int .i64 1))), (2, .c (.val (.int .i64 8))), (3, .c (.val (.int .i64 64))), (4, .c (.val (.int .i64 1000)))]), .mk 4 false (some 87) none (.call 28 [.t 85, .t 86]), .mk 5 false (some 88) none (.bsl 3 1 1 (.val (.int .i64 0)) [(0, .t 87)]), .mk 6 false (some 89) none (.app 3 1 8 (.t 84) (.t 88)), .mk 7 true (some 90) none (.fadr 9 (.t 3))] [.mk 8 false none none (.store 1 (.t 90) (.t 89))])) (.lst [.mk 0 false (some 91) none (.bin .add (.t 81) (.c (.val (.int .i64 1)))), .mk 1 false (some 81) none (.mv (.t 91))]))))))) (.seq (.lst [.mk 0 false (some 92) none (.mv (.t 0)), .mk 1 false (some 93) none (.call 9 [.t 92, .c (.val (.int .i64 1)), .c (.val (.int .i64 40))]), .mk 2 false (some 94) none (.bsl 3 1 1 (.val (.int .i64 0)) [(0, .t 93)]), .mk 3 false (some 95) none (.fadr 10 (.t 3)), .mk 4 false none none (.store 1 (.t 95) (.t 94))]) (.seq (.seq (.lst [.mk 0 false (some 96) none (.mv (.t 0)), .mk 1 false (some 97) none (.bsl 3 1 4 (.val (.int .i64 0)) [(0, .c (.val (.int .i64 0))), (1, .c (.val (.int .i64 1))), (2, .c (.val (.int .i64 4))), (3, .c (.val (.int .i64 63)))]), .mk 2 false (some 98) none (.call 28 [.t 96, .t 97]), .mk 3 false (some 99) none (.mv (.c (.val (.int .i64 0))))]) (.block 5 (.loop (.seq (.lst [.mk 0 false (some 100) none (.bin .lss (.t 99) (.t 98))]) (.seq (.cond (.t 100) .skip (.exit 5)) (.seq (.block 6 (.tail [.mk 0 true (some 101) none (.fadr 10 (.t 3)), .mk 1 true (some 102) none (.load false 1 (.t 101)), .mk 2 true (some 103) none (.mv (.t 0)), .mk 3 false (some 104) none (.bsl 3 1 4 (.val (.int .i64 0)) [(0, .c (.val (.int .i64 0))), (1, .c (.val (.int .i64 1))), (2, .c (.val (.int .i64 8))), (3, .c (.val (.int .i64 1000)))]), .mk 4 false (some 105) none (.call 28 [.t 103, .t 104]), .mk 5 false (some 106) none (.bsl 3 1 1 (.val (.int .i64 0)) [(0, .t 105)]), .mk 6 false (some 107) none (.app 3 1 8 (.t 102) (.t 106)), .mk 7 true (some 108) none (.fadr 10 (.t 3))] [.mk 8 false none none (.store 1 (.t 108) (.t 107))])) (.lst [.mk 0 false (some 109) none (.bin .add (.t 99) (.c (.val (.int .i64 1)))), .mk 1 false (some 99) none (.mv (.t 109))]))))))) (.seq (.lst [.mk 0 false (some 110) none (.load true 11 (.t 3)), .mk 1 false none none (.store 11 (.t 2) (.t 110))]) .ret))))))))))))) [.c 2 true 11]
theorem c_gmodel : compF Tryz.prog 6 = some F_gmodel := by kernel_rfl
end Go.Proofs.YtadkhechobeccaaGreatDoor.Vm
namespace Go.Proofs.YtadkhechobeccaaGreatDoor.Vm
open Go.RowKit
structure GS (n sb : Nat) (st s : St) (f : Bool) (xs : List Int) (a : Int) : Prop where
  same : Same n sb st s
  str : s[sb]? = some (strm f xs a)
  hsb : sb < n
  src : xs.length ≤ 9223372036854775807 ∧ ∀ x ∈ xs, -9223372036854775808 ≤ x ∧ x ≤ 9223372036854775807
def But (sb : Nat) (s s' : St) : Prop := s'.length = s.length ∧ ∀ b, b ≠ sb → s'[b]? = s[b]?
theorem But.set (sb : Nat) (s : St) (x : Blk) : But sb s (s.set sb x) := ⟨by simp, fun b hb => List.getElem?_set_ne (Ne.symm hb)⟩
theorem OutS.but {n t k sb : Nat} {s s' : St} {v : V} {l : List V} (h : OutS n t k s v l) (hb : But sb s s') (hn : sb < n) : OutS n t k s' v l := h.keep fun b _ _ _ h1 _ => hb.2 b (by omega)
theorem get_but {sb b : Nat} {s s' : St} {x : Blk} (h : s[b]? = some x) (hb : But sb s s') (hn : b ≠ sb) : s'[b]? = some x := (hb.2 b hn).trans h
section
variable {n sb : Nat} {st s : St} {f : Bool} {xs : List Int} {a : Int} {T : Tbl} {M : Nat → Bool} {K : V → St → Prop} {Kp : List PanicEntry → St → Prop}
theorem GS.next (g : GS n sb st s f xs a) (a' : Int) : GS n sb st (s.set sb (strm f xs a')) f xs a' := ⟨g.same.set (Or.inl rfl) _, get_set g.str _, g.hsb, g.src⟩
theorem GS.more (g : GS n sb st s f xs a) (e : St) : GS n sb st (s ++ e) f xs a := ⟨g.same.more e, get_more g.str e, g.hsb, g.src⟩
theorem GS.set (g : GS n sb st s f xs a) {b : Nat} (hb : n ≤ b) (x : Blk) : GS n sb st (s.set b x) f xs a := ⟨g.same.set (Or.inr hb) x, get_ne g.str (by have := g.hsb; omega) x, g.hsb, g.src⟩
theorem GS.to (g : GS n sb st s f xs a) {s' : St} (hl : s.length ≤ s'.length) (h : ∀ b, b < n → s'[b]? = s[b]?) : GS n sb st s' f xs a := ⟨⟨Nat.le_trans g.same.len hl, fun b h1 h2 => (h b h1).trans (g.same.get b h1 h2)⟩, (h sb g.hsb).trans g.str, g.hsb, g.src⟩
theorem GS.up (g : GS n sb st s f xs a) (M : Nat → Bool) : upM n M s.length = true := by simp [upM, g.same.len]
theorem flip_g (g : GS n sb st s f xs a) (hM : M sb = true) (ha : 0 ≤ a ∧ a ≤ 1000000000) (k : Int) (hk : k ≤ 1000000) (hK : ∀ b s', GS n sb st s' f xs (a + 1) → But sb s s' → K (Bo b) s') : CallV Tryz.prog T M 7 [.ptr sb 1 0 0, I k] s K Kp :=
  flip_v sb f xs a k g.str hM g.src.1 g.src.2 ha hk fun b => hK b _ (g.next _) (But.set _ _ _)
theorem next_g (g : GS n sb st s f xs a) (hM : M sb = true) (ha : 0 ≤ a ∧ a ≤ 1000000000) (k : Int) (hk : 1 ≤ k ∧ k ≤ 1000000) (hK : ∀ r s', 0 ≤ r → r < k → GS n sb st s' f xs (a + 1) → But sb s s' → K (I r) s') : CallV Tryz.prog T M 10 [.ptr sb 1 0 0, I k] s K Kp :=
  next_v sb f xs a k g.str hM g.src.1 g.src.2 ha (by omega) fun r _ h2 => hK r _ (h2 hk.1).1 (h2 hk.1).2 (g.next _) (But.set _ _ _)
theorem range_g (g : GS n sb st s f xs a) (hM : M sb = true) (ha : 0 ≤ a ∧ a ≤ 1000000000) (lo hi : Int) (h1 : -1000000000000 ≤ lo) (h2 : hi ≤ 1000000000000) (h3 : lo ≤ hi) (hK : ∀ r s', lo ≤ r → r ≤ hi → GS n sb st s' f xs (a + 1) → But sb s s' → K (I r) s') : CallV Tryz.prog T M 9 [.ptr sb 1 0 0, I lo, I hi] s K Kp :=
  range_v sb f xs a lo hi g.str hM g.src.1 g.src.2 ha h1 h2 h3 fun r h4 h5 => hK r _ h4 h5 (g.next _) (But.set _ _ _)
theorem pick_g (g : GS n sb st s f xs a) (hM : M sb = true) (ha : 0 ≤ a ∧ a ≤ 1000000000) {b m : Nat} {l : List Int} (hb : s[b]? = some (.row 3 1 (ints l))) (hbs : b ≠ sb) (hm : l.length = m) (hl : 0 < m ∧ m ≤ 1000) (hK : ∀ x s', x ∈ l → GS n sb st s' f xs (a + 1) → But sb s s' → K (I x) s') :
    CallV Tryz.prog T M 28 [.ptr sb 1 0 0, .own b m 0 m] s K Kp := by
  subst hm
  refine fun_ok hmix c_pick (le_of rfl) ?_
  simp [F_pick, hb]
  refine next_g g (upM_of hM) ha _ (by omega) fun r s' h1 h2 g' hbut => ?_
  have hb' := get_but hb hbut hbs
  have hr : r.toNat < l.length := by omega
  simp [hb', h1, show r < (l.length : Int) by omega]
  simp [ints]
  exact hK _ _ (List.getElem_mem hr) g' hbut
theorem ints_cells (l : List Int) : ∀ x ∈ ints l, ∀ y ∈ x.cells, y.leaf = true ∧ y.pl = true := fun x hx y hy => by
  obtain ⟨z, -, rfl⟩ := List.mem_map.1 hx
  simp at hy
  subst hy
  exact ⟨rfl, rfl⟩
theorem ints_append (l m : List Int) : ints (l ++ m) = ints l ++ ints m := by simp [ints]
def BInv (n s0 m : Nat) (st : St) (f : Bool) (xs : List Int) (a : Int) (fr : Fr) (s : St) : Prop :=
  ∃ (k : Nat) (l : List Int) (a' : Int), k ≤ m ∧ l.length = k ∧ (∀ x ∈ l, -128 ≤ x ∧ x ≤ 127) ∧ a ≤ a' ∧ a' ≤ a + 2 * k ∧ GS n s0 st s f xs a' ∧ OutS n 3 1 s (fr.g 5) (ints l) ∧ fr.df = [] ∧ fr.g 0 = .ptr s0 1 0 0 ∧ fr.g 6 = I m ∧ fr.g 7 = I k
theorem sbytes_v (s0 : Nat) (m : Nat) (hm : m ≤ 400) (hs : st[s0]? = some (strm f xs a)) (hM : M s0 = true) (src : xs.length ≤ 9223372036854775807 ∧ ∀ x ∈ xs, -9223372036854775808 ≤ x ∧ x ≤ 9223372036854775807) (ha : 0 ≤ a ∧ a ≤ 100000000)
    (hK : ∀ g l a', l.length = m → (∀ x ∈ l, -128 ≤ x ∧ x ≤ 127) → a ≤ a' → a' ≤ a + 2 * m → K (.lst g (ints l)) (st.set s0 (strm f xs a'))) : CallV Tryz.prog T M 29 [.ptr s0 1 0 0, I m] st K Kp := by
  have hlt : s0 < st.length := (List.getElem?_eq_some_iff.1 hs).1
  refine CallV.give (fun_ok hmix c_sbytes (le_of rfl) ?_)
  simp [F_sbytes]
  refine wp_mloop (BInv st.length s0 m st f xs a) (fun fr _ => m - nat (fr.g 7))
    ⟨0, [], a, by simp, rfl, by simp, by simp, by simp, ⟨Same.refl (Nat.le_refl _), hs, hlt, src⟩, by simpa [ints] using OutS.nil _ _ _ _, by simp, by simp, by simp, by simp⟩ ?_
  rintro fr s ⟨k, l, a', hk, hl, hr, ha1, ha2, g, o, hdf, g0, g6, g7⟩
  have hup : upM st.length M s0 = true := upM_of hM
  by_cases hlt2 : k < m
  · simp [g6, g7, g0, hlt2]
    refine flip_g g hup (by omega) 6 (by omega) fun b s1 g1 b1 => ?_
    have o1 := o.but b1 hlt
    have fin : ∀ (a2 : Int) (s2 : St) (x : Int) (fr' : Fr) {K' : V → St → Prop}, GS st.length s0 st s2 f xs a2 → a' ≤ a2 → a2 ≤ a' + 2 → OutS st.length 3 1 s2 (fr.g 5) (ints l) → -128 ≤ x ∧ x ≤ 127 →
        (∀ v s3, OutS st.length 3 1 s3 v (ints (l ++ [x])) → GS st.length s0 st s3 f xs a2 → K' v s3) → obind2 (mApp (liftM (upM st.length M)) 3 1 8 (s2 ++ [.row 3 1 [I x]]) (fr.g 5) (.own s2.length 1 0 1)) K' := fun a2 s2 x fr' K' g2 h1 h2 o2 hx hK' => by
      refine app_out (o2.more _) (by have := g2.same.len; simp; omega) (news := [I x]) (by simp) (by simp) (Or.inl (by simp)) (fun b _ hb _ j => by simp [upM, hb]) (by simp; omega) (by simp; omega) fun v s3 o3 hl3 hb3 _ _ => ?_
      exact hK' v s3 (by rw [ints_append]; exact o3) ((g2.more _).to hl3 hb3)
    have last : ∀ (a2 : Int) (s3 : St) (x : Int) (v : V) (fr' : Fr), GS st.length s0 st s3 f xs a2 → a' ≤ a2 → a2 ≤ a' + 2 → OutS st.length 3 1 s3 v (ints (l ++ [x])) → -128 ≤ x ∧ x ≤ 127 → fr'.g 5 = v → fr'.df = [] → fr'.g 0 = .ptr s0 1 0 0 → fr'.g 6 = I m → fr'.g 7 = I ((k : Int) + 1) → BInv st.length s0 m st f xs a fr' s3 := fun a2 s3 x v fr' g3 h1 h2 o3 hx e5 e0 e1 e6 e7 =>
      ⟨k + 1, l ++ [x], a2, by omega, by simp [hl], fun y hy => by
        rcases List.mem_append.1 hy with hy | hy
        · exact hr y hy
        · simp at hy; subst hy; exact hx, by omega, by push_cast; omega, g3, by rw [e5]; exact o3, e0, e1, e6, by rw [e7]; simp⟩
    cases b with
    | true =>
      simp
      have e1 : (s1 ++ [Blk.row 3 1 [I (-128), I 127]])[s1.length]? = some (.row 3 1 (ints [-128, 127])) := by simp [ints]
      have hne : List.length s1 ≠ s0 := Nat.ne_of_gt (Nat.lt_of_lt_of_le hlt g1.same.len)
      refine pick_g (g1.more _) hup (by omega) e1 hne rfl (by simp) fun x s2 hx g2 b2 => ?_
      have o2 := (o1.more _).but b2 hlt
      have hx' : -128 ≤ x ∧ x ≤ 127 := by simp at hx; omega
      simp
      refine fin (a' + 1 + 1) s2 x fr g2 (by omega) (by omega) o2 hx' fun v s3 o3 g3 => ?_
      simp [w64 (n := (k : Int) + 1) (by omega) (by omega)]
      exact ⟨last (a' + 1 + 1) s3 x v _ g3 (by omega) (by omega) o3 hx' (by simp) (by simp [hdf]) (by simp [g0]) (by simp [g6]) (by simp), by omega⟩
    | false =>
      simp
      refine range_g g1 hup (by omega) (-9) 9 (by omega) (by omega) (by omega) fun x s2 hx1 hx2 g2 b2 => ?_
      have o2 := o1.but b2 hlt
      simp
      refine fin (a' + 1 + 1) s2 x fr g2 (by omega) (by omega) o2 (by omega) fun v s3 o3 g3 => ?_
      simp [w64 (n := (k : Int) + 1) (by omega) (by omega)]
      exact ⟨last (a' + 1 + 1) s3 x v _ g3 (by omega) (by omega) o3 (by omega) (by simp) (by simp [hdf]) (by simp [g0]) (by simp [g6]) (by simp), by omega⟩
  · obtain rfl : k = m := by omega
    simp [g6, g7, hdf]
    obtain ⟨gg, hfr⟩ := o.frz (ints_cells l)
    refine ⟨_, hfr, g.same.low g.str (by simp [V.low]), ?_⟩
    rw [g.same.take g.str]
    exact hK gg l a' hl hr ha1 ha2
end
end Go.Proofs.YtadkhechobeccaaGreatDoor.Vm
namespace Go.Proofs.YtadkhechobeccaaGreatDoor.Vm
open Go.RowKit
def F_refEntry : FnM := FnM.mk 89 (.seq (.lst [.mk 0 false (some 3) none (.box 27 (.t 0)), .mk 1 false (some 6) none (.mv (.c (.lst true [])))]) (.seq (.lst [.mk 0 false (some 14) none (.fadr 2 (.t 3)), .mk 1 false (some 15) none (.load false 1 (.t 14)), .mk 2 false (some 7) none (.mv (.t 15))]) (.seq (.lst [.mk 0 false (some 16) none (.mv (.t 2)), .mk 1 false (some 17) none (.fadr 6 (.t 3)), .mk 2 false (some 18) none (.load false 1 (.t 17)), .mk 3 false (some 19) none (.len (.t 18)), .mk 4 false (some 20) none (.mv (.t 7)), .mk 5 false (some 21) none (.bin .quo (.t 19) (.t 20)), .mk 6 false (some 22) none (.bin .rem (.t 16) (.t 21)), .mk 7 false (some 8) none (.mv (.t 22))]) (.seq (.lst [.mk 0 false (some 9) none (.mv (.c (.lst true []))), .mk 1 false (some 10) none (.mv (.c (.lst true [])))]) (.seq (.seq (.lst [.mk 0 false (some 23) none (.mv (.t 7)), .mk 1 false (some 24) none (.mv (.c (.val (.int .i64 0))))]) (.block 0 (.loop (.seq (.lst [.mk 0 false (some 25) none (.bin .lss (.t 24) (.t 23))]) (.seq (.cond (.t 25) .skip (.exit 0)) (.seq (.block 1 (.seq (.lst [.mk 0 false (some 26) none (.mv (.t 24)), .mk 1 false (some 11) none (.mv (.t 26))]) (.flat [.mk 0 true (some 27) none (.mv (.t 9)), .mk 1 true (some 28) none (.fadr 5 (.t 3)), .mk 2 true (some 29) none (.load false 1 (.t 28)), .mk 3 true (some 30) none (.mv (.t 1)), .mk 4 true (some 31) none (.mv (.t 7)), .mk 5 true (some 32) none (.bin .mul (.t 30) (.t 31)), .mk 6 true (some 33) none (.mv (.t 11)), .mk 7 true (some 34) none (.bin .add (.t 32) (.t 33)), .mk 8 true (some 35) none (.iadr 1 (.t 29) (.t 34)), .mk 9 true (some 36) none (.load false 1 (.t 35)), .mk 10 true (some 37) none (.fadr 6 (.t 3)), .mk 11 true (some 38) none (.load false 1 (.t 37)), .mk 12 true (some 39) none (.mv (.t 8)), .mk 13 true (some 40) none (.mv (.t 7)), .mk 14 true (some 41) none (.bin .mul (.t 39) (.t 40)), .mk 15 true (some 42) none (.mv (.t 11)), .mk 16 true (some 43) none (.bin .add (.t 41) (.t 42)), .mk 17 true (some 44) none (.iadr 1 (.t 38) (.t 43)), .mk 18 true (some 45) none (.load false 1 (.t 44)), .mk 19 true (some 46) none (.bin .add (.t 36) (.t 45)), .mk 20 false (some 47) none (.bsl 3 1 1 (.val (.int .i64 0)) [(0, .t 46)]), .mk 21 false (some 48) none (.app 3 1 8 (.t 27) (.t 47)), .mk 22 false (some 9) none (.mv (.t 48))]))) (.lst [.mk 0 false (some 49) none (.bin .add (.t 24) (.c (.val (.int .i64 1)))), .mk 1 false (some 24) none (.mv (.t 49))]))))))) (.seq (.seq (.lst [.mk 0 false (some 50) none (.fadr 0 (.t 3)), .mk 1 false (some 51) none (.load false 1 (.t 50)), .mk 2 false (some 52) none (.bin .neq (.t 51) (.c (.val (.int .i64 1))))]) (.cond (.t 52) (.seq (.lst [.mk 0 false (some 53) none (.mv (.t 9)), .mk 1 false (some 6) none (.mv (.t 53))]) .ret) .skip)) (.seq (.seq (.lst [.mk 0 false (some 54) none (.mv (.c (.val (.int .i64 0))))]) (.block 2 (.loop (.seq (.lst [.mk 0 false (some 55) none (.bin .lss (.t 54) (.c (.val (.int .i64 3))))]) (.seq (.cond (.t 55) .skip (.exit 2)) (.seq (.block 3 (.seq (.lst [.mk 0 false (some 56) none (.mv (.t 54)), .mk 1 false (some 12) none (.mv (.t 56))]) (.seq (.lst [.mk 0 false (some 57) none (.mv (.t 7)), .mk 1 false (some 58) none (.mv (.c (.val (.int .i64 0))))]) (.block 4 (.loop (.seq (.lst [.mk 0 false (some 59) none (.bin .lss (.t 58) (.t 57))]) (.seq (.cond (.t 59) .skip (.exit 4)) (.seq (.block 5 (.seq (.lst [.mk 0 false (some 60) none (.mv (.t 58)), .mk 1 false (some 13) none (.mv (.t 60))]) (.flat [.mk 0 true (some 61) none (.mv (.t 10)), .mk 1 true (some 62) none (.fadr 7 (.t 3)), .mk 2 true (some 63) none (.load false 1 (.t 62)), .mk 3 true (some 64) none (.mv (.t 12)), .mk 4 true (some 65) none (.mv (.t 7)), .mk 5 true (some 66) none (.bin .mul (.t 64) (.t 65)), .mk 6 true (some 67) none (.mv (.t 7)), .mk 7 true (some 68) none (.bin .mul (.t 66) (.t 67)), .mk 8 true (some 69) none (.mv (.t 12)), .mk 9 true (some 70) none (.bin .add (.t 69) (.c (.val (.int .i64 1)))), .mk 10 true (some 71) none (.mv (.t 7)), .mk 11 true (some 72) none (.bin .mul (.t 70) (.t 71)), .mk 12 true (some 73) none (.mv (.t 7)), .mk 13 true (some 74) none (.bin .mul (.t 72) (.t 73)), .mk 14 true (some 75) none (.sl 1 (.t 63) (some (.t 68)) (some (.t 74))), .mk 15 true (some 76) none (.mv (.t 13)), .mk 16 true (some 77) none (.mv (.t 9)), .mk 18 true (some 79) none (.fadr 4 (.t 3)), .mk 19 true (some 80) none (.load false 1 (.t 79)), .mk 20 true (some 81) none (.iadr 1 (.t 80) (.c (.val (.int .i64 0)))), .mk 21 true (some 82) none (.load false 1 (.t 81)), .mk 17 false (some 78) none (.call 47 [.t 75, .t 76, .t 77]), .mk 22 false (some 83) none (.call 83 [.t 78, .t 82]), .mk 23 false (some 84) none (.bsl 3 1 1 (.val (.int .i64 0)) [(0, .t 83)]), .mk 24 false (some 85) none (.app 3 1 8 (.t 61) (.t 84)), .mk 25 false (some 10) none (.mv (.t 85))]))) (.lst [.mk 0 false (some 86) none (.bin .add (.t 58) (.c (.val (.int .i64 1)))), .mk 1 false (some 58) none (.mv (.t 86))]))))))))) (.lst [.mk 0 false (some 87) none (.bin .add (.t 54) (.c (.val (.int .i64 1)))), .mk 1 false (some 54) none (.mv (.t 87))]))))))) (.seq (.lst [.mk 0 false (some 88) none (.mv (.t 10)), .mk 1 false (some 6) none (.mv (.t 88))]) .ret)))))))) [.t 6]
theorem c_refEntry : compF Tryz.prog 60 = some F_refEntry := by kernel_rfl
def F_refRow : FnM := FnM.mk 34 (.seq (.lst [.mk 0 false (some 6) none (.mv (.c (.val (.int .i64 0))))]) (.seq (.lst [.mk 0 false (some 7) none (.mv (.c (.val (.int .i64 0))))]) (.seq (.seq (.lst [.mk 0 false (some 10) none (.mv (.t 2)), .mk 1 false (some 11) none (.len (.t 10)), .mk 2 false (some 12) none (.mv (.c (.val (.int .i64 0))))]) (.block 0 (.loop (.seq (.lst [.mk 0 false (some 13) none (.bin .lss (.t 12) (.t 11))]) (.seq (.cond (.t 13) .skip (.exit 0)) (.seq (.block 1 (.seq (.lst [.mk 0 false (some 14) none (.mv (.t 12)), .mk 1 false (some 15) none (.iadr 1 (.t 10) (.t 12)), .mk 2 false (some 16) none (.load false 1 (.t 15)), .mk 3 false (some 8) none (.mv (.t 14)), .mk 4 false (some 9) none (.mv (.t 16))]) (.lst [.mk 0 false (some 17) none (.mv (.t 7)), .mk 1 false (some 18) none (.mv (.t 0)), .mk 2 false (some 19) none (.mv (.t 1)), .mk 3 false (some 20) none (.mv (.t 2)), .mk 4 false (some 21) none (.len (.t 20)), .mk 5 false (some 22) none (.bin .mul (.t 19) (.t 21)), .mk 6 false (some 23) none (.mv (.t 8)), .mk 7 false (some 24) none (.bin .add (.t 22) (.t 23)), .mk 8 false (some 25) none (.iadr 1 (.t 18) (.t 24)), .mk 9 false (some 26) none (.load false 1 (.t 25)), .mk 10 false (some 27) none (.mv (.t 9)), .mk 11 false (some 28) none (.bin .mul (.t 26) (.t 27)), .mk 12 false (some 29) none (.call 84 [.t 28]), .mk 13 false (some 30) none (.bin .add (.t 17) (.t 29)), .mk 14 false (some 31) none (.call 84 [.t 30]), .mk 15 false (some 7) none (.mv (.t 31))]))) (.lst [.mk 0 false (some 32) none (.bin .add (.t 12) (.c (.val (.int .i64 1)))), .mk 1 false (some 12) none (.mv (.t 32))]))))))) (.seq (.lst [.mk 0 false (some 33) none (.mv (.t 7)), .mk 1 false (some 6) none (.mv (.t 33))]) .ret)))) [.t 6]
theorem c_refRow : compF Tryz.prog 47 = some F_refRow := by kernel_rfl
def F_refShift : FnM := FnM.mk 13 (.seq (.lst [.mk 0 false (some 4) none (.mv (.c (.val (.int .i64 0))))]) (.seq (.flat [.mk 0 true (some 5) none (.mv (.t 0)), .mk 1 true (some 6) none (.mv (.t 1)), .mk 2 true (some 7) none (.bin .sub (.t 6) (.c (.val (.int .i64 1)))), .mk 3 true (some 8) none (.bin .shl (.c (.val (.int .i64 1))) (.t 7)), .mk 4 true (some 9) none (.bin .add (.t 5) (.t 8)), .mk 5 true (some 10) none (.mv (.t 1)), .mk 6 true (some 11) none (.bin .shl (.c (.val (.int .i64 1))) (.t 10)), .mk 7 false (some 12) none (.call 111 [.t 9, .t 11]), .mk 8 false (some 4) none (.mv (.t 12))]) .ret)) [.t 4]
theorem c_refShift : compF Tryz.prog 83 = some F_refShift := by kernel_rfl
def F_floorDiv : FnM := FnM.mk 16 (.seq (.lst [.mk 0 false (some 4) none (.mv (.c (.val (.int .i64 0))))]) (.seq (.lst [.mk 0 false (some 6) none (.mv (.t 0)), .mk 1 false (some 7) none (.mv (.t 1)), .mk 2 false (some 8) none (.bin .quo (.t 6) (.t 7)), .mk 3 false (some 5) none (.mv (.t 8))]) (.seq (.seq (.lst [.mk 0 false (some 9) none (.mv (.t 0)), .mk 1 false (some 10) none (.mv (.t 1)), .mk 2 false (some 11) none (.bin .rem (.t 9) (.t 10)), .mk 3 false (some 12) none (.bin .lss (.t 11) (.c (.val (.int .i64 0))))]) (.cond (.t 12) (.lst [.mk 0 false (some 13) none (.mv (.t 5)), .mk 1 false (some 14) none (.bin .sub (.t 13) (.c (.val (.int .i64 1)))), .mk 2 false (some 5) none (.mv (.t 14))]) .skip)) (.seq (.lst [.mk 0 false (some 15) none (.mv (.t 5)), .mk 1 false (some 4) none (.mv (.t 15))]) .ret)))) [.t 4]
theorem c_floorDiv : compF Tryz.prog 111 = some F_floorDiv := by kernel_rfl
def F_wrapped : FnM := FnM.mk 7 (.seq (.lst [.mk 0 false (some 2) none (.mv (.c (.val (.int .i64 0))))]) (.seq (.lst [.mk 0 false (some 3) none (.mv (.t 0)), .mk 1 false (some 4) none (.conv .u32 (.t 3)), .mk 2 false (some 5) none (.conv .i32 (.t 4)), .mk 3 false (some 6) none (.conv .i64 (.t 5)), .mk 4 false (some 2) none (.mv (.t 6))]) .ret)) [.t 2]
theorem c_wrapped : compF Tryz.prog 84 = some F_wrapped := by kernel_rfl
def F_within : FnM := FnM.mk 15 (.seq (.lst [.mk 0 false (some 6) none (.mv (.c (.val (.bool false))))]) (.seq (.lst [.mk 0 false (some 7) none (.mv (.t 0)), .mk 1 false (some 8) none (.mv (.t 1)), .mk 2 false (some 9) none (.bin .geq (.t 7) (.t 8)), .mk 3 false (some 10) none (.mv (.t 9)), .mk 4 false (some 11) (some (10, true)) (.mv (.t 0)), .mk 5 false (some 12) (some (10, true)) (.mv (.t 2)), .mk 6 false (some 13) (some (10, true)) (.bin .leq (.t 11) (.t 12)), .mk 7 false (some 14) none (.pick (.t 10) (.t 13) (.c (.val (.bool false)))), .mk 8 false (some 6) none (.mv (.t 14))]) .ret)) [.t 6]
theorem c_within : compF Tryz.prog 56 = some F_within := by kernel_rfl
def F_equalI : FnM := FnM.mk 26 (.seq (.lst [.mk 0 false (some 4) none (.mv (.c (.val (.bool false))))]) (.seq (.seq (.lst [.mk 0 false (some 6) none (.mv (.t 0)), .mk 1 false (some 7) none (.len (.t 6)), .mk 2 false (some 8) none (.mv (.t 1)), .mk 3 false (some 9) none (.len (.t 8)), .mk 4 false (some 10) none (.bin .neq (.t 7) (.t 9))]) (.cond (.t 10) (.seq (.lst [.mk 0 false (some 4) none (.mv (.c (.val (.bool false))))]) .ret) .skip)) (.seq (.seq (.lst [.mk 0 false (some 11) none (.mv (.t 0)), .mk 1 false (some 12) none (.len (.t 11)), .mk 2 false (some 13) none (.mv (.c (.val (.int .i64 0))))]) (.block 0 (.loop (.seq (.lst [.mk 0 false (some 14) none (.bin .lss (.t 13) (.t 12))]) (.seq (.cond (.t 14) .skip (.exit 0)) (.seq (.block 1 (.seq (.lst [.mk 0 false (some 15) none (.mv (.t 13)), .mk 1 false (some 5) none (.mv (.t 15))]) (.seq (.flat [.mk 0 true (some 16) none (.mv (.t 0)), .mk 1 true (some 17) none (.mv (.t 5)), .mk 2 true (some 18) none (.iadr 1 (.t 16) (.t 17)), .mk 3 true (some 19) none (.load false 1 (.t 18)), .mk 4 true (some 20) none (.mv (.t 1)), .mk 5 true (some 21) none (.mv (.t 5)), .mk 6 true (some 22) none (.iadr 1 (.t 20) (.t 21)), .mk 7 true (some 23) none (.load false 1 (.t 22)), .mk 8 true (some 24) none (.bin .neq (.t 19) (.t 23))]) (.cond (.t 24) (.seq (.lst [.mk 0 false (some 4) none (.mv (.c (.val (.bool false))))]) .ret) .skip)))) (.lst [.mk 0 false (some 25) none (.bin .add (.t 13) (.c (.val (.int .i64 1)))), .mk 1 false (some 13) none (.mv (.t 25))]))))))) (.seq (.lst [.mk 0 false (some 4) none (.mv (.c (.val (.bool true))))]) .ret)))) [.t 4]
theorem c_equalI : compF Tryz.prog 13 = some F_equalI := by kernel_rfl
end Go.Proofs.YtadkhechobeccaaGreatDoor.Vm
namespace Go.Proofs.YtadkhechobeccaaGreatDoor.Vm
open Go.RowKit Go.Sort
section
variable {α : Type} [Inhabited α] {enc : α → Value} {w : World} {g n : Nat} {os : Array Obj} {cur : Array Value} {e : TypeId} {fr : Nat × Nat}
theorem sorted_heap (d : Array α) (hb : w.heap[g]? = some (.cells cur e fr)) : (sortWorld enc w g 0 n d os).heap[g]? = some (.cells (putCells enc 0 d cur) e fr) := by
  have hg : g < w.heap.size := (Array.getElem?_eq_some_iff.1 hb).1
  unfold sortWorld
  rw [heap_grow_old _ _ (by simpa using hg)]
  simp [putRow, mapBlock, Sort.ahead, Array.getElem?_modify, hb, onCells]
theorem sorted_grown (d : Array α) : w.grownBy (sortWorld enc w g 0 n d os) (some g) := by
  unfold sortWorld
  refine ⟨rfl, rfl, rfl, by simp, fun k hk hne => ?_⟩
  rw [heap_grow_old _ _ (by simpa using hk)]
  have : g ≠ k := fun e => hne (by rw [e])
  simp [putRow, mapBlock, Sort.ahead, Array.getElem?_modify, this]
theorem holds_row {d : Array α} (hb : w.heap[g]? = some (.cells cur e (0, 0))) (h : ∀ j, j < d.size → cur[j]? = some (enc d[j]!)) : Holds enc w g 0 d := fun j hj => by
  refine ⟨?_, by simp [World.frozen?, hb]⟩
  simp only [World.cell?, hb, Nat.zero_add, Option.isSome_none, Bool.false_eq_true, if_false]
  exact h j hj
theorem put_at {d : Array α} {j : Nat} (hj : j < d.size) (hc : j < cur.size) : (putCells enc 0 d cur)[j]? = some (enc d[j]!) := by
  simp [putCells, hc, hj]
end
section
variable {P : Program} {T : Tbl} {M : Nat → Bool} {st : St} {K : V → St → Prop} {Kp : List PanicEntry → St → Prop} {α : Type} [Inhabited α] {enc : α → Value}
def encs (enc : α → Value) (d : Array α) : List V := d.toList.map fun x => .val (enc x)
theorem encs_get {d : Array α} {j : Nat} (hj : j < d.size) : (encs enc d)[j]? = some (.val (enc d[j]!)) := by simp [encs, hj]
theorem encs_mem {d : Array α} {j : Nat} {x : V} (h : (encs enc d)[j]? = some x) : j < d.size ∧ x = .val (enc d[j]!) := by
  have hj : j < d.size := by have := (List.getElem?_eq_some_iff.1 h).1; simpa [encs] using this
  rw [encs_get hj] at h
  exact ⟨hj, (Option.some.inj h).symm⟩
theorem mid_args {E : Env} {w : World} {mid : List Value} {x : V} {us' : List Value} (hn : us'.length = mid.length + 1) (h : ∀ (i : Nat) (y : V) (u : Value), (mid.map V.val ++ [x])[i]? = some y → us'[i]? = some u → Rel E st w y u) : ∃ u, us' = mid ++ [u] ∧ Rel E st w x u := by
  have hu : us'[mid.length]? = some us'[mid.length] := List.getElem?_eq_getElem (by omega)
  refine ⟨us'[mid.length], List.ext_getElem? fun i => ?_, h mid.length x _ (by simp) hu⟩
  by_cases hi : i < mid.length
  · have h1 : us'[i]? = some us'[i] := List.getElem?_eq_getElem (by omega)
    have h0 : (mid.map V.val ++ [x])[i]? = some (.val mid[i]) := by rw [List.getElem?_append_left (by simpa using hi), List.getElem?_map, List.getElem?_eq_getElem hi]; rfl
    have h2 := h i _ _ h0 h1
    rw [List.getElem?_append_left hi, h1, h2.lit, List.getElem?_eq_getElem hi]
  · by_cases e : i = mid.length
    · subst e; rw [hu]; simp
    · rw [List.getElem?_eq_none (by omega), List.getElem?_eq_none (by simp; omega)]
theorem CallV.sorted {f g b t : Nat} {caps : List V} {d : Array α} {R : Array α → Prop} (mid : List Value) (hx : entersX P f = true) (hone : ∀ x, (enc x).oneCell' = true) (hb : st[b]? = some (.row t 1 (encs enc d))) (h0 : 0 < d.size) (hM : M b = true)
    (h : ∀ B w0 E w u cap, Rep B w0 E st w → Rel E st w (.fn g caps) u → (∀ b' t' k' xs', st[b']? = some (.row t' k' xs') → b' ≠ b → 0 < E.κ b' → E.φ b' ≠ E.φ b) → ¬ E.Z (E.φ b) → Holds enc w (E.φ b) 0 d → E.φ b < w.heap.size → Calls P f (Value.slice (some ⟨E.φ b, 0, none⟩) d.size cap :: (mid ++ [u])).toArray w fun e w' => e = .returned (.tuple #[]) ∧ ∃ d' n os, R d' ∧ d'.size = d.size ∧ w' = sortWorld enc w (E.φ b) 0 n d' os)
    (hK : ∀ d', R d' → d'.size = d.size → K (.tup []) (st.set b (.row t 1 (encs enc d')))) : CallV P T M f (.own b d.size 0 d.size :: (mid.map V.val ++ [.fn g caps])) st K Kp := by
  refine ⟨hx, fun B w0 E w us hR hT hu => ?_⟩
  obtain ⟨hu1, hu2⟩ := hu
  match us, hu1 with
  | u1 :: us', hu1 =>
    have r1 := hu2 0 _ _ rfl rfl
    obtain ⟨u2, rfl, r2⟩ := mid_args (us' := us') (by simpa using hu1) fun i y u h1 h2 => hu2 (i + 1) y u h1 h2
    obtain ⟨⟨k0, k1, k2, k3, k4⟩, k5⟩ := hR.ok b t 1 _ hb
    have hlen : (encs enc d).length = d.size := by simp [encs]
    have hκ : 0 < E.κ b := by omega
    obtain ⟨f1, cur, f2, f3, f4⟩ := k4 hκ
    have hcur : ∀ j, j < d.size → cur[j]? = some (enc d[j]!) := fun j hj => by
      obtain ⟨u, q1, q2⟩ := f4 j _ (encs_get hj) 0 _ rfl
      rw [q2.lit] at q1
      simpa using q1
    cases r1 with
    | pure r1 => cases r1
    | own _ _ _ _ _ hbl h1 hh =>
      obtain ⟨-, g2⟩ := hh t 1 _ hb
      obtain ⟨g3, A, rfl, g4⟩ := g2 hlen.symm
      obtain rfl := g4 (by omega)
      have hap : ∀ b' t' k' xs', st[b']? = some (.row t' k' xs') → b' ≠ b → 0 < E.κ b' → E.φ b' ≠ E.φ b := fun b' t' k' xs' h1 h2 h3 h4 => h2 (hR.inj b' b t' k' xs' t 1 _ h1 hb h3 hκ h4)
      have hc := h B w0 E w u2 (E.κ b - 0) hR r2 hap f1 (holds_row f2 hcur) (hR.mem hb hκ)
      simp only [Nat.zero_mul]
      refine Calls.mono hc fun e w' ⟨he, d', n, os, hR', hs, hw'⟩ => ?_
      subst he
      subst hw'
      have hlen' : (encs enc d').length = d'.size := by simp [encs]
      have hcs : cur.size = E.κ b := by omega
      obtain ⟨q1, q2⟩ := Rep.one_name (M := fun b _ => M b) (st' := st.set b (.row t 1 (encs enc d'))) hR (n := b) (g := E.φ b) (c := E.κ b) (t := t) (k := 1) (xs := encs enc d') (cur := putCells enc 0 d' cur) (row := some (E.φ b))
        (Or.inr ⟨_, hb, by omega, fun _ => ⟨rfl, rfl⟩, rfl, Or.inr ⟨rfl, hκ, fun p _ hMp => by simp only [hM] at hMp; cases hMp⟩⟩) (sorted_grown d') (sorted_heap d' f2) (Or.inl rfl) (by omega) k1 (by omega) (by simp [putCells, hcs]) (fun i x hx => by
          obtain ⟨-, rfl⟩ := encs_mem hx
          refine ⟨rfl, fun j y hy => ?_⟩
          match j, hy with
          | 0, hy => cases hy; exact hone _) (fun i x hx j y hy => by
          obtain ⟨hi, rfl⟩ := encs_mem hx
          match j, hy with
          | 0, hy =>
            cases hy
            refine ⟨enc d'[i]!, ?_, .pure (.val _)⟩
            rw [Nat.mul_one, Nat.add_zero]
            exact put_at hi (by omega))
      exact ⟨_, _, .tup [], q1, q2, .tup [] [] rfl (fun i y u hy => by simp at hy), hK d' hR' hs⟩
def Src (st : St) (b : Nat) (v : V) (sc : List Int) : Prop := (∃ f, v = .lst f (sc.map fun x => .val (.int .i64 x))) ∨ ∃ b2 t2, v = .own b2 sc.length 0 sc.length ∧ b2 ≠ b ∧ st[b2]? = some (.row t2 1 (sc.map fun x => .val (.int .i64 x)))
theorem box_sees {E : Env} {w : World} {B : Nat} {w0 : World} {b b' t' : Nat} {v : V} {sc : List Int} {u : Value} (hR : Rep B w0 E st w) (hv : Src st b v sc) (hap : ∀ b' t' k' xs', st[b']? = some (.row t' k' xs') → b' ≠ b → 0 < E.κ b' → E.φ b' ≠ E.φ b) (hnz : ¬ E.Z (E.φ b)) (hb : st[b']? = some (.row t' 1 [v])) (hu : Rel E st w (.ptr b' 1 0 0) u) (h0 : 0 < sc.length) :
    ∃ sb so cap, u = .pointer (some ⟨E.φ b', 0, none⟩) ∧ 0 < E.κ b' ∧ E.φ b' < w.heap.size ∧ w.cell? ⟨E.φ b', 0, none⟩ = some (.slice (some ⟨sb, so, none⟩) sc.length cap) ∧ sb ≠ E.φ b ∧ sb < w.heap.size ∧ ∀ i x, sc[i]? = some x → w.cell? ⟨sb, so + i, none⟩ = some (.int .i64 x) := by
  obtain ⟨⟨k0, k1, k2, k3, k4⟩, k5⟩ := hR.ok b' t' 1 _ hb
  cases hu with
  | pure h => cases h
  | ptr _ _ _ _ _ hbl h1 hh =>
    obtain ⟨-, g2⟩ := hh t' 1 _ hb
    obtain ⟨-, hκ, rfl⟩ := g2 rfl
    obtain ⟨f1, cur, f2, f3, f4⟩ := k4 hκ
    have hvc : v.cells[0]? = some v := by rcases hv with ⟨f, rfl⟩ | ⟨b2, t2, rfl, -⟩ <;> rfl
    obtain ⟨u, q1, q2⟩ := f4 0 _ rfl 0 _ hvc
    have hcell : w.cell? ⟨E.φ b', 0, none⟩ = some u := by
      simp only [World.cell?, f2, Option.isSome_none, Bool.false_eq_true, if_false]
      simpa using q1
    rcases hv with ⟨f, rfl⟩ | ⟨b2, t2, rfl, hne, hb2⟩
    · cases q2 with
      | pure q2 =>
        generalize hxs : (sc.map fun x => V.val (.int .i64 x)) = xs at q2
        cases q2 with
        | nil f A c h =>
          have : sc = [] := by simpa using hxs
          simp [this] at h0
        | lst f xs p n c k us hn hc hf hs hZ hk hl hw hr =>
          subst hxs
          obtain ⟨pb, po, ps⟩ := p
          simp at hs hn
          subst hs
          subst hn
          refine ⟨pb, po, c, by simp, hκ, hR.mem hb hκ, hcell, fun e => hnz (e ▸ hZ), hR.zlt _ hZ, fun i x hx => ?_⟩
          have hx' : (sc.map fun x => V.val (.int .i64 x))[i]? = some (.val (.int .i64 x)) := by simp [hx]
          have e1 := hw i _ hx' 0 _ rfl
          have e2 := hr i _ hx' 0 _ rfl
          have hk1 : k = 1 := (hk i _ hx').symm.trans rfl
          subst hk1
          generalize us i 0 = v at e1 e2
          cases e2 with
          | val => simpa using e1
    · obtain ⟨⟨p0, p1, p2, p3, p4⟩, p5⟩ := hR.ok b2 t2 1 _ hb2
      have hlen : (sc.map fun x => V.val (.int .i64 x)).length = sc.length := by simp
      have hκ2 : 0 < E.κ b2 := by omega
      obtain ⟨r1, cur2, r2, r3, r4⟩ := p4 hκ2
      cases q2 with
      | pure q2 => cases q2
      | own _ _ _ _ _ _ _ hh2 =>
        obtain ⟨-, g3⟩ := hh2 t2 1 _ hb2
        obtain ⟨-, A, rfl, g4⟩ := g3 hlen.symm
        obtain rfl := g4 (by omega)
        refine ⟨E.φ b2, 0, _, by simp, hκ, hR.mem hb hκ, by simpa using hcell, hap b2 t2 1 _ hb2 hne hκ2, hR.mem hb2 hκ2, fun i x hx => ?_⟩
        have hx' : (sc.map fun x => V.val (.int .i64 x))[i]? = some (.val (.int .i64 x)) := by simp [hx]
        obtain ⟨y, e1, e2⟩ := r4 i _ hx' 0 _ rfl
        rw [e2.lit] at e1
        simp only [World.cell?, r2, Option.isSome_none, Bool.false_eq_true, if_false]
        simpa using e1
theorem sort_other {w : World} {g n : Nat} {d : Array α} {os : Array Obj} {a : Addr} (h : a.block ≠ g) (hb : a.block < w.heap.size) : (sortWorld enc w g 0 n d os).cell? a = w.cell? a := by
  have e : (sortWorld enc w g 0 n d os).heap[a.block]? = w.heap[a.block]? := by
    unfold sortWorld
    rw [heap_grow_old _ _ (by simpa using hb)]
    have : g ≠ a.block := fun e => h e.symm
    simp [putRow, mapBlock, Sort.ahead, Array.getElem?_modify, this]
  simp only [World.cell?, e]
end
end Go.Proofs.YtadkhechobeccaaGreatDoor.Vm
namespace Go.Proofs.YtadkhechobeccaaGreatDoor.Vm
open Go.RowKit
section
variable {P : Program} {T : Tbl} {M M' : Nat → Bool} {st : St} {K : V → St → Prop} {Kp : List PanicEntry → St → Prop}
theorem CallV.of_frozen {f : Nat} {args args' : List V} {R : Value → Prop} (h : CallV P T M' f args' [] (fun v _ => ∃ u, v = .val u ∧ R u) (fun _ _ => False)) (hl : args'.length = args.length)
    (hf : ∀ (i : Nat) (a a' : V), args[i]? = some a → args'[i]? = some a' → Frz 0 st a a') (ht : ∀ g, T.t g = none) (hpin : ∀ B w0 w, B ≤ w0.heap.size → Below B w0 w → T.pin B w0 → T.pin w.heap.size w) (hK : ∀ u, R u → K (.val u) st) : CallV P T M f args st K Kp := by
  refine ⟨h.1, fun B w0 E w us hR hT hu => ?_⟩
  have hE : Ext (E.froze 0 st) (st.take 0) w ⟨fun _ => 0, fun _ => 0, fun b => b < w.heap.size⟩ [] w := by
    refine ⟨by simp, fun g hg => ?_, fun _ _ _ h => h, fun b t k xs hb => by simp at hb⟩
    rcases hg with hg | ⟨b, t, k, xs, -, hb, hk, rfl⟩
    · exact hR.zlt g hg
    · exact hR.mem hb hk
  have hu' : Pw ⟨fun _ => 0, fun _ => 0, fun b => b < w.heap.size⟩ [] w args' us := by
    refine ⟨by rw [hl]; exact hu.1, fun i a' u ha' hu2 => ?_⟩
    have hi : i < args.length := by rw [← hl]; exact (List.getElem?_eq_some_iff.1 ha').1
    have hr := hu.2 i args[i] u (List.getElem?_eq_getElem hi) hu2
    exact (Rel.frz hR (Nat.zero_le _) (hf i _ a' (List.getElem?_eq_getElem hi) ha') hr).mono hE
  refine (h.2 w.heap.size w _ w us (rep_start w) ⟨fun g x hx => (by rw [ht] at hx; cases hx), hpin B w0 w hR.base hR.below hT.2⟩ hu').mono fun e w' he => ?_
  cases e with
  | returned u =>
    obtain ⟨E', st', v, h1, h2, h3, u', rfl, hR'⟩ := he
    obtain rfl := h3.lit
    have hb := h1.below
    obtain ⟨g1, g2⟩ := Rep.idle (M := fun b _ => M b) hR (w' := w') ⟨hb.os, hb.tape, hb.output, hb.size, fun k hk _ => hb.block k hk⟩
    exact ⟨E, st, .val u, g1, g2, .pure (.val _), hK _ hR'⟩
  | panicked c => obtain ⟨E', st', h1, h2, h3⟩ := he; exact h3.elim
  | outgrown => exact he.elim
theorem Rep.zmore {B : Nat} {w0 : World} {E : Env} {w : World} {M : Nat → Nat → Bool} (h : Rep B w0 E st w) {Z' : Nat → Prop} (h1 : ∀ g, E.Z g → Z' g) (h2 : ∀ g, Z' g → E.Z g ∨ (g < w.heap.size ∧ ∀ (b t k : Nat) (xs : List V), st[b]? = some (.row t k xs) → 0 < E.κ b → E.φ b ≠ g)) :
    Rep B w0 ⟨E.φ, E.κ, Z'⟩ st w ∧ Stp M E st w ⟨E.φ, E.κ, Z'⟩ st w := by
  have hext : Ext E st w ⟨E.φ, E.κ, Z'⟩ st w := ⟨Nat.le_refl _, h1, fun _ _ _ h => h, fun _ _ _ xs _ h => ⟨xs, h, Nat.le_refl _, fun _ => ⟨rfl, rfl⟩⟩⟩
  refine ⟨⟨h.base, h.below, fun g hg => ?_, fun b t k xs hx => ?_, h.inj⟩, hext, fun b t k xs hx hk => Or.inl ⟨(List.getElem?_eq_some_iff.1 hx).1, rfl, hk⟩, fun _ _ _ => rfl, Nat.le_refl _⟩
  · rcases h2 g hg with h3 | ⟨h3, -⟩
    · exact h.zlt g h3
    · exact h3
  · obtain ⟨⟨k0, k1, k2, k3, k4⟩, k5⟩ := h.ok b t k xs hx
    refine ⟨⟨k0, k1, k2, k3, fun hk => ?_⟩, k5⟩
    obtain ⟨g1, cur, g2, g3, g4⟩ := k4 hk
    refine ⟨fun hz => ?_, cur, g2, g3, fun i x hi j y hy => ?_⟩
    · rcases h2 _ hz with h3 | ⟨-, h3⟩
      · exact g1 h3
      · exact h3 b t k xs hx hk rfl
    · obtain ⟨u, f1, f2⟩ := g4 i x hi j y hy
      exact ⟨u, f1, f2.mono hext⟩
theorem CallV.of_frozen_row {f : Nat} {args args' : List V} {xs : List V} (h : CallV P T M' f args' [] (fun v st' => ∃ b t, v = .own b xs.length 0 xs.length ∧ st'[b]? = some (.row t 1 xs)) (fun _ _ => False)) (hx : ∀ x ∈ xs, ∃ u, x = .val u ∧ u.oneCell' = true) (h0 : xs ≠ []) (hl : args'.length = args.length)
    (hf : ∀ (i : Nat) (a a' : V), args[i]? = some a → args'[i]? = some a' → Frz 0 st a a') (ht : ∀ g, T.t g = none) (hpin : ∀ B w0 w, B ≤ w0.heap.size → Below B w0 w → T.pin B w0 → T.pin w.heap.size w) (hK : K (.lst false xs) st) : CallV P T M f args st K Kp := by
  refine ⟨h.1, fun B w0 E w us hR hT hu => ?_⟩
  have hE : Ext (E.froze 0 st) (st.take 0) w ⟨fun _ => 0, fun _ => 0, fun b => b < w.heap.size⟩ [] w := by
    refine ⟨by simp, fun g hg => ?_, fun _ _ _ h => h, fun b t k xs hb => by simp at hb⟩
    rcases hg with hg | ⟨b, t, k, xs, -, hb, hk, rfl⟩
    · exact hR.zlt g hg
    · exact hR.mem hb hk
  have hu' : Pw ⟨fun _ => 0, fun _ => 0, fun b => b < w.heap.size⟩ [] w args' us := by
    refine ⟨by rw [hl]; exact hu.1, fun i a' u ha' hu2 => ?_⟩
    have hi : i < args.length := by rw [← hl]; exact (List.getElem?_eq_some_iff.1 ha').1
    have hr := hu.2 i args[i] u (List.getElem?_eq_getElem hi) hu2
    exact (Rel.frz hR (Nat.zero_le _) (hf i _ a' (List.getElem?_eq_getElem hi) ha') hr).mono hE
  refine (h.2 w.heap.size w _ w us (rep_start w) ⟨fun g x hx => (by rw [ht] at hx; cases hx), hpin B w0 w hR.base hR.below hT.2⟩ hu').mono fun e w' he => ?_
  cases e with
  | returned u =>
    obtain ⟨E', st', v, h1, h2, h3, b, t, rfl, hb⟩ := he
    have hbl := h1.below
    obtain ⟨g1, g2⟩ := Rep.idle (M := fun b _ => M b) hR (w' := w') ⟨hbl.os, hbl.tape, hbl.output, hbl.size, fun k hk _ => hbl.block k hk⟩
    have hlen : 0 < xs.length := by
      cases xs with
      | nil => exact absurd rfl h0
      | cons => simp
    obtain ⟨⟨k0, k1, k2, k3, k4⟩, k5⟩ := h1.ok b t 1 xs hb
    have hκ : 0 < E'.κ b := by omega
    obtain ⟨q1, cur, q2, q3, q4⟩ := k4 hκ
    have hnew : w.heap.size ≤ E'.φ b := by
      rcases h2.far b t 1 xs hb hκ with ⟨a1, -⟩ | a1
      · simp at a1
      · exact a1
    have hlt : E'.φ b < w'.heap.size := h1.mem hb hκ
    obtain ⟨z1, z2⟩ := g1.zmore (M := fun b _ => M b) (Z' := fun g => E.Z g ∨ g = E'.φ b) (fun g hg => Or.inl hg) (fun g hg => by
      rcases hg with hg | rfl
      · exact Or.inl hg
      · exact Or.inr ⟨hlt, fun b2 t2 k2 xs2 hx2 hk2 e => by have := hR.mem hx2 hk2; omega⟩)
    refine ⟨_, st, .lst false xs, z1, g2.trans z2, ?_, hK⟩
    cases h3 with
    | pure h => cases h
    | own _ _ _ _ _ hb1 ho hh =>
      obtain ⟨-, e2⟩ := hh t 1 xs hb
      obtain ⟨-, A, rfl, e3⟩ := e2 rfl
      obtain rfl := e3 (by omega)
      refine .pure (.lst false xs ⟨E'.φ b, 0 * 1, none⟩ xs.length (E'.κ b - 0) 1 (fun i _ => (cur[i * 1 + 0]?).getD undef) rfl (by omega) (fun h => by cases h) rfl (Or.inr rfl) (fun i x hi => ?_) (fun i x hi j y hy => ?_) (fun i x hi j y hy => ?_) (fun i x hi j y hy => ?_))
      · obtain ⟨u, rfl, -⟩ := hx x (List.mem_of_getElem? hi); rfl
      · exact (k3 i x hi).2 j y hy
      · obtain ⟨u, rfl, -⟩ := hx x (List.mem_of_getElem? hi)
        match j, hy with
        | 0, hy =>
          obtain ⟨u', f1, f2⟩ := q4 i _ hi 0 _ rfl
          rw [cell_of_row w' _ _ _ _ _ q2]
          rw [show 0 * 1 + (i * 1 + 0) = i * 1 + 0 by omega, f1]
          rfl
      · obtain ⟨u, rfl, -⟩ := hx x (List.mem_of_getElem? hi)
        match j, hy with
        | 0, hy =>
          cases hy
          obtain ⟨u', f1, f2⟩ := q4 i _ hi 0 _ rfl
          simp only [f1, Option.getD_some]
          rw [f2.lit]
          exact .val _
  | panicked c => obtain ⟨E', st', h1, h2, h3⟩ := he; exact h3.elim
  | outgrown => exact he.elim
end
end Go.Proofs.YtadkhechobeccaaGreatDoor.Vm
namespace Go.Proofs.YtadkhechobeccaaGreatDoor.Vm
open Go.RowKit
def F_tainted : FnM := FnM.mk 111 (.seq (.lst [.mk 0 false (some 3) none (.box 27 (.t 1)), .mk 1 false (some 4) none (.alloc 27 (.agg [.val (.int .i64 0), .val (.int .i64 0), .val (.int .i64 0), .val (.int .i64 0), .lst true [], .lst true [], .lst true [], .lst true [], .lst true [], .lst true [], .lst true []]))]) (.seq (.lst [.mk 0 false (some 8) none (.fadr 4 (.t 3)), .mk 1 false (some 9) none (.fadr 5 (.t 3)), .mk 2 false (some 10) none (.fadr 6 (.t 3)), .mk 3 false (some 11) none (.fadr 7 (.t 3)), .mk 4 false (some 12) none (.fadr 8 (.t 3)), .mk 5 false (some 13) none (.fadr 9 (.t 3)), .mk 6 false (some 14) none (.fadr 10 (.t 3)), .mk 7 false (some 15) none (.bsl 100 1 7 (.val (Value.pointer none)) [(0, .t 8), (1, .t 9), (2, .t 10), (3, .t 11), (4, .t 12), (5, .t 13), (6, .t 14)]), .mk 8 false (some 5) none (.mv (.t 15))]) (.seq (.lst [.mk 0 false (some 16) none (.mv (.t 5)), .mk 1 false (some 17) none (.mv (.t 0)), .mk 2 false (some 18) none (.mv (.t 5)), .mk 3 false (some 19) none (.len (.t 18)), .mk 4 false (some 20) none (.call 10 [.t 17, .t 19]), .mk 5 false (some 21) none (.iadr 1 (.t 16) (.t 20)), .mk 6 false (some 22) none (.load false 1 (.t 21)), .mk 7 false (some 6) none (.mv (.t 22))]) (.seq (.seq (.lst [.mk 0 false (some 23) none (.mv (.t 6)), .mk 1 false (some 24) none (.nilck (.t 23)), .mk 2 false (some 25) none (.load false 1 (.t 24)), .mk 3 false (some 26) none (.len (.t 25)), .mk 4 false (some 27) none (.bin .eql (.t 26) (.c (.val (.int .i64 0))))]) (.cond (.t 27) (.lst [.mk 0 false (some 28) none (.mv (.t 6)), .mk 1 false (some 29) none (.flit 1 (.val (.int .i64 0))), .mk 2 false (some 30) none (.nilck (.t 28)), .mk 3 false none none (.store 1 (.t 30) (.t 29))]) .skip)) (.seq (.seq (.lst [.mk 0 false (some 31) none (.mv (.t 0)), .mk 1 false (some 32) none (.call 10 [.t 31, .c (.val (.int .i64 7))])]) (.block 0 (.seq (.lst [.mk 0 false (some 50) none (.bin .eql (.t 32) (.c (.val (.int .i64 0)))), .mk 1 false (some 49) none (.mv (.t 50))]) (.cond (.t 49) (.lst [.mk 0 false (some 51) none (.mv (.t 0)), .mk 1 false (some 52) none (.call 9 [.t 51, .c (.val (.int .i64 0)), .c (.val (.int .i64 4))]), .mk 2 false (some 53) none (.fadr 0 (.t 3)), .mk 3 false none none (.store 1 (.t 53) (.t 52))]) (.seq (.lst [.mk 0 false (some 55) none (.bin .eql (.t 32) (.c (.val (.int .i64 1)))), .mk 1 false (some 54) none (.mv (.t 55))]) (.cond (.t 54) (.tail [.mk 0 true (some 56) none (.fadr 1 (.t 3)), .mk 1 true (some 57) none (.load false 1 (.t 56)), .mk 2 true (some 58) none (.mv (.t 0)), .mk 3 false (some 59) none (.bsl 3 1 3 (.val (.int .i64 0)) [(0, .c (.val (.int .i64 1))), (1, .c (.val (.int .i64 (-1)))), (2, .c (.val (.int .i64 100)))]), .mk 4 false (some 60) none (.call 28 [.t 58, .t 59]), .mk 5 false (some 61) none (.bin .add (.t 57) (.t 60)), .mk 6 true (some 62) none (.fadr 1 (.t 3))] [.mk 7 false none none (.store 1 (.t 62) (.t 61))]) (.seq (.lst [.mk 0 false (some 64) none (.bin .eql (.t 32) (.c (.val (.int .i64 2)))), .mk 1 false (some 63) none (.mv (.t 64))]) (.cond (.t 63) (.tail [.mk 0 true (some 65) none (.fadr 2 (.t 3)), .mk 1 true (some 66) none (.load false 1 (.t 65)), .mk 2 true (some 67) none (.mv (.t 0)), .mk 3 false (some 68) none (.bsl 3 1 3 (.val (.int .i64 0)) [(0, .c (.val (.int .i64 1))), (1, .c (.val (.int .i64 (-1)))), (2, .c (.val (.int .i64 5)))]), .mk 4 false (some 69) none (.call 28 [.t 67, .t 68]), .mk 5 false (some 70) none (.bin .add (.t 66) (.t 69)), .mk 6 true (some 71) none (.fadr 2 (.t 3))] [.mk 7 false none none (.store 1 (.t 71) (.t 70))]) (.seq (.lst [.mk 0 false (some 73) none (.bin .eql (.t 32) (.c (.val (.int .i64 3)))), .mk 1 false (some 72) none (.mv (.t 73))]) (.cond (.t 72) (.tail [.mk 0 true (some 74) none (.fadr 3 (.t 3)), .mk 1 true (some 75) none (.load false 1 (.t 74)), .mk 2 true (some 76) none (.mv (.t 0)), .mk 3 false (some 77) none (.bsl 3 1 2 (.val (.int .i64 0)) [(0, .c (.val (.int .i64 1))), (1, .c (.val (.int .i64 (-20))))]), .mk 4 false (some 78) none (.call 28 [.t 76, .t 77]), .mk 5 false (some 79) none (.bin .add (.t 75) (.t 78)), .mk 6 true (some 80) none (.fadr 3 (.t 3))] [.mk 7 false none none (.store 1 (.t 80) (.t 79))]) (.seq (.lst [.mk 0 false (some 82) none (.bin .eql (.t 32) (.c (.val (.int .i64 4)))), .mk 1 false (some 81) none (.mv (.t 82))]) (.cond (.t 81) (.lst [.mk 0 false (some 83) none (.mv (.t 6)), .mk 1 false (some 84) none (.mv (.t 6)), .mk 2 false (some 85) none (.nilck (.t 84)), .mk 3 false (some 86) none (.load false 1 (.t 85)), .mk 4 false (some 87) none (.sl 1 (.t 86) (some (.c (.val (.int .i64 1)))) none), .mk 5 false (some 88) none (.nilck (.t 83)), .mk 6 false none none (.store 1 (.t 88) (.t 87))]) (.seq (.lst [.mk 0 false (some 90) none (.bin .eql (.t 32) (.c (.val (.int .i64 5)))), .mk 1 false (some 89) none (.mv (.t 90))]) (.cond (.t 89) (.tail [.mk 0 true (some 91) none (.mv (.t 6)), .mk 1 true (some 92) none (.mv (.t 6)), .mk 2 true (some 93) none (.nilck (.t 92)), .mk 3 true (some 94) none (.load false 1 (.t 93)), .mk 4 true (some 95) none (.mv (.t 6)), .mk 5 true (some 96) none (.nilck (.t 95)), .mk 6 true (some 97) none (.load false 1 (.t 96)), .mk 7 true (some 98) none (.len (.t 97)), .mk 8 true (some 99) none (.mv (.t 6)), .mk 9 true (some 100) none (.nilck (.t 99)), .mk 10 true (some 101) none (.load false 1 (.t 100)), .mk 11 true (some 102) none (.len (.t 101)), .mk 12 true (some 103) none (.slf 1 (.t 94) none (.t 98) (.t 102)), .mk 13 true (some 104) none (.mv (.t 0)), .mk 14 false (some 105) none (.bsl 3 1 4 (.val (.int .i64 0)) [(0, .c (.val (.int .i64 0))), (1, .c (.val (.int .i64 1))), (2, .c (.val (.int .i64 200))), (3, .c (.val (.int .i64 (-200))))]), .mk 15 false (some 106) none (.call 28 [.t 104, .t 105]), .mk 16 false (some 107) none (.bsl 3 1 1 (.val (.int .i64 0)) [(0, .t 106)]), .mk 17 false (some 108) none (.app 3 1 8 (.t 103) (.t 107)), .mk 18 true (some 109) none (.nilck (.t 91))] [.mk 19 false none none (.store 1 (.t 109) (.t 108))]) (.seq (.lst [.mk 0 false (some 33) none (.mv (.t 6)), .mk 1 false (some 34) none (.nilck (.t 33)), .mk 2 false (some 35) none (.load false 1 (.t 34)), .mk 3 false (some 36) none (.app 3 1 8 (.c (.lst true [])) (.t 35)), .mk 4 false (some 7) none (.mv (.t 36))]) (.seq (.lst [.mk 0 false (some 37) none (.mv (.t 7)), .mk 1 false (some 38) none (.mv (.t 0)), .mk 2 false (some 39) none (.mv (.t 7)), .mk 3 false (some 40) none (.len (.t 39)), .mk 4 false (some 41) none (.call 10 [.t 38, .t 40]), .mk 5 false (some 42) none (.mv (.t 0)), .mk 6 false (some 43) none (.bsl 3 1 6 (.val (.int .i64 0)) [(0, .c (.val (.int .i64 0))), (1, .c (.val (.int .i64 (-1)))), (2, .c (.val (.int .i64 16))), (3, .c (.val (.int .i64 128))), (4, .c (.val (.int .i64 (-129)))), (5, .c (.val (.int .i64 1001)))]), .mk 7 false (some 44) none (.call 28 [.t 42, .t 43]), .mk 8 false (some 45) none (.iadr 1 (.t 37) (.t 41)), .mk 9 false none none (.store 1 (.t 45) (.t 44))]) (.lst [.mk 0 false (some 46) none (.mv (.t 6)), .mk 1 false (some 47) none (.mv (.t 7)), .mk 2 false (some 48) none (.nilck (.t 46)), .mk 3 false none none (.store 1 (.t 48) (.t 47))]))))))))))))))))) (.seq (.lst [.mk 0 false (some 110) none (.load true 11 (.t 3)), .mk 1 false none none (.store 11 (.t 4) (.t 110))]) .ret)))))) [.c 4 true 11]
theorem c_tainted : compF Tryz.prog 48 = some F_tainted := by kernel_rfl
def F_maybe : FnM := FnM.mk 12 (.seq (.lst [.mk 0 false (some 2) none (.alloc 27 (.agg [.val (.int .i64 0), .val (.int .i64 0), .val (.int .i64 0), .val (.int .i64 0), .lst true [], .lst true [], .lst true [], .lst true [], .lst true [], .lst true [], .lst true []]))]) (.seq (.lst [.mk 0 false (some 4) none (.mv (.t 0)), .mk 1 false (some 5) none (.call 6 [.t 4]), .mk 2 false (some 3) none (.alloc 27 (.agg [.val (.int .i64 0), .val (.int .i64 0), .val (.int .i64 0), .val (.int .i64 0), .lst true [], .lst true [], .lst true [], .lst true [], .lst true [], .lst true [], .lst true []])), .mk 3 false none none (.store 11 (.t 3) (.t 5))]) (.seq (.seq (.lst [.mk 0 false (some 6) none (.mv (.t 0)), .mk 1 false (some 7) none (.call 7 [.t 6, .c (.val (.int .i64 4))])]) (.cond (.t 7) (.lst [.mk 0 false (some 8) none (.mv (.t 0)), .mk 1 false (some 9) none (.load true 11 (.t 3)), .mk 2 false (some 10) none (.call 48 [.t 8, .t 9]), .mk 3 false none none (.store 11 (.t 3) (.t 10))]) .skip)) (.seq (.lst [.mk 0 false (some 11) none (.load true 11 (.t 3)), .mk 1 false none none (.store 11 (.t 2) (.t 11))]) .ret)))) [.c 2 true 11]
theorem c_maybe : compF Tryz.prog 21 = some F_maybe := by kernel_rfl
end Go.Proofs.YtadkhechobeccaaGreatDoor.Vm
namespace Go.Proofs.YtadkhechobeccaaGreatDoor
open Go.RowKit
theorem inB_and {lo hi n : Int} (h : inB lo hi n = true) : lo ≤ n ∧ n ≤ hi := by
  simpa only [inB, Bool.and_eq_true, decide_eq_true_eq] using h
theorem all_and {l : List Int} {lo hi : Int} (h : l.all (inB lo hi) = true) : ∀ x ∈ l, lo ≤ x ∧ x ≤ hi := fun x hx => inB_and (List.all_eq_true.1 h x hx)
theorem rowsM_le {n w : Nat} (h : 1 ≤ rowsM n w) : n = rowsM n w * w := by
  unfold rowsM at h ⊢
  split at h
  · rename_i h1
    rw [if_pos h1, Nat.div_mul_cancel (Nat.dvd_of_mod_eq_zero h1)]
  · omega
theorem GenM.of_ok {m : LModel} (h : chkM m = 0) : GenM m := by
  unfold chkM at h
  split at h
  · rename_i h1
    obtain ⟨hk, hv1, hv2, hd1, hd2⟩ := sizedM_in h1
    split at h
    · rename_i h2
      split at h
      · rename_i h3
        split at h
        · rename_i h4
          simp only [formM, Bool.and_eq_true, beq_iff_eq] at h3
          obtain ⟨⟨⟨f1, ⟨⟨⟨f2, f3⟩, f4⟩, f5⟩⟩, f6⟩, f7⟩ := h3
          simp only [valM, Bool.and_eq_true] at h4
          obtain ⟨⟨⟨⟨v1, v2⟩, v3⟩, v4⟩, v5⟩ := h4
          have v2' := all_and v2
          have f5' := inB_and f5
          have f6' := inB_and f6
          have f7' := inB_and f7
          have hw : m.width.toNat = m.width := Int.toNat_of_nonneg (by omega)
          have sub : ∀ {l : List Int}, l ∈ [m.embed, m.place, m.mix, m.out] → ∀ x ∈ l, -128 ≤ x ∧ x ≤ 127 := fun hl x hx => v2' x (List.mem_flatten.2 ⟨_, hl, hx⟩)
          refine ⟨by omega, ⟨hv1, hv2⟩, ⟨hd1, hd2⟩, inB_and h2, ⟨by omega, all_and v1⟩, ⟨f3, sub (by simp)⟩, ⟨⟨(rowsM m.place.length m.width.toNat : Nat), f5'.1, f5'.2, ?_⟩, sub (by simp)⟩, ⟨?_, sub (by simp)⟩, ⟨f4, sub (by simp)⟩, ⟨by omega, all_and v3⟩, ⟨by omega, all_and v4, ?_⟩⟩
          · have := rowsM_le (n := m.place.length) (w := m.width.toNat) (by omega)
            have e : ((rowsM m.place.length m.width.toNat * m.width.toNat : Nat) : Int) = (rowsM m.place.length m.width.toNat : Nat) * m.width := by push_cast; rw [hw]
            omega
          · unfold mixM at f1
            by_cases c1 : m.kind = 1
            · rw [if_pos c1, beq_iff_eq] at f1
              exact ⟨3, by omega, by omega, fun _ => rfl, fun c => by omega, f1⟩
            · rw [if_neg c1] at f1
              by_cases c2 : m.kind = 2
              · rw [if_pos c2, beq_iff_eq] at f1
                exact ⟨2, by omega, by omega, fun c => by omega, fun _ => rfl, f1⟩
              · rw [if_neg c2] at f1
                have f1' := inB_and f1
                have hdd := dd_small ⟨hd1, hd2⟩
                refine ⟨(rowsM m.mix.length (m.width * m.width).toNat : Nat), f1'.1, f1'.2, fun c => absurd c c1, fun c => absurd c c2, ?_⟩
                have := rowsM_le (n := m.mix.length) (w := (m.width * m.width).toNat) (by omega)
                have e : ((rowsM m.mix.length (m.width * m.width).toNat * (m.width * m.width).toNat : Nat) : Int) = (rowsM m.mix.length (m.width * m.width).toNat : Nat) * m.width * m.width := by
                  push_cast
                  rw [Int.toNat_of_nonneg (by omega), Int.mul_assoc]
                omega
          · cases ho : m.odds with
            | nil => rw [ho] at f7'; simp at f7'
            | cons a l =>
              refine ⟨a, rfl, ?_⟩
              have h5 := all_and v4 a (by rw [ho]; simp)
              rw [ho] at v5
              simp at v5
              omega
        · cases h
      · cases h
    · cases h
  · rename_i h1
    exact absurd h h1
end Go.Proofs.YtadkhechobeccaaGreatDoor
namespace Go.Proofs.YtadkhechobeccaaGreatDoor
open Go.RowKit Go.ChangeShapes
theorem laid_out : laidOutB Tryz.prog = true := by kernel_rfl
theorem readable_ints : Tryz.prog.readableRec 22 = true := by kernel_rfl
theorem row_ints : 22 < Tryz.prog.types.size := of_decide_eq_true (by kernel_rfl)
theorem cells_int : Tryz.prog.cellsOf 3 = 1 := by kernel_rfl
set_option maxRecDepth 100000 in
theorem li_of {H : Type} {enc : TypeId × Value → H} {W : World} {base : Nat} {v : Value} {d : DataW H} {p : List MemPlace}
    (hv : Value.okWide Tryz.prog W .any base 22 v) (h : DataW.Trod enc Tryz.prog W 0 (fun _ => true) true 22 v d p) : ∃ xs, LI W v xs := by
  obtain ⟨A, n, c, rfl⟩ := Go.WideShapes.okWide_slice Tryz.underlying22 hv
  obtain ⟨fuel, hf⟩ := h
  rcases open_ints Tryz.underlying22 Tryz.underlying3 cells_int hf with ⟨hcs, -⟩ | ⟨a, len, cap, zs, hcs, -, hle, hmax, hall, -, hcell, hwf⟩
  · simp [Value.cells] at hcs
    obtain ⟨rfl, rfl, rfl⟩ := hcs
    exact ⟨[], Sl.nil_ W, Nat.zero_le _, fun x hx => by cases hx⟩
  · simp [Value.cells] at hcs
    obtain ⟨rfl, rfl, rfl⟩ := hcs
    simp only [if_true] at hall
    have hl : (zs.take n).length = n := by rw [List.length_take]; omega
    refine ⟨zs.take n, ⟨some a, c, by rw [i64s_length, hl], by rw [i64s_length, hl]; exact hle, hmax, fun h0 => ?_⟩, by rw [hl]; omega, fun x hx => ?_⟩
    · rw [i64s_length, hl] at h0
      obtain ⟨b, off, rfl, hc⟩ := ints_at hcell (by omega)
      refine ⟨b, off, rfl, fun j u hu => ?_⟩
      have hj : j < n := by
        have := (List.getElem?_eq_some_iff.1 hu).1
        rwa [i64s_length, hl] at this
      rw [i64s_at (by rw [hl]; exact hj)] at hu
      injection hu with hu
      subst hu
      rw [hc j (by omega)]
      simp [hj]
    · exact bounds_i64 (hwf x (List.mem_of_mem_take hx))
end Go.Proofs.YtadkhechobeccaaGreatDoor
