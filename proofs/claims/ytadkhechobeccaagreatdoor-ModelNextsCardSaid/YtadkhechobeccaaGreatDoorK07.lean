/-
  Small functions and the stream of the generator, as the value machine turns them and run by it.
  Functions as the value machine turns them.
  The value machine: a row that the library has sorted.
  The value machine: a call that only reads, seen from an empty state, so that its arguments may be rows that still grow.
  A drawn model is valid.
  A slice of ints that came in, read as a list.
-/
import Derived.Test.YtadkhechobeccaaGreatDoorK04
import Derived.Shelf.SlSortCmp.Kit1
import Derived.Test.YtadkhechobeccaaGreatDoorK05
import Derived.Test.YtadkhechobeccaaGreatDoorK06
import Derived.Test.YtadkhechobeccaaGreatDoorK01
import Derived.OpenShut
import Derived.Carry
import Derived.ProofKit
namespace Go.Proofs.YtadkhechobeccaaGreatDoor.Vm
open Go.RowKit
def F_wrap : FnM := FnM.mk 6 (MC.seq (MC.lst [MO.mk 0 false (some 2) none (MOp.mv (Od.c (V.val (Value.int IntKind.i64 0))))]) (MC.seq (MC.lst [MO.mk 0 false (some 3) none (MOp.mv (Od.t 0)), MO.mk 1 false (some 4) none (MOp.conv IntKind.i32 (Od.t 3)), MO.mk 2 false (some 5) none (MOp.conv IntKind.i64 (Od.t 4)), MO.mk 3 false (some 2) none (MOp.mv (Od.t 5))]) MC.ret)) [RV.t 2]
theorem c_wrap : compF Tryz.prog 88 = some F_wrap := by kernel_rfl
def F_dot : FnM := FnM.mk 27 (MC.seq (MC.lst [MO.mk 0 false (some 4) none (MOp.mv (Od.c (V.val (Value.int IntKind.i64 0))))]) (MC.seq (MC.lst [MO.mk 0 false (some 5) none (MOp.mv (Od.c (V.val (Value.int IntKind.i64 0))))]) (MC.seq (MC.seq (MC.lst [MO.mk 0 false (some 7) none (MOp.mv (Od.t 0)), MO.mk 1 false (some 8) none (MOp.len (Od.t 7)), MO.mk 2 false (some 9) none (MOp.mv (Od.c (V.val (Value.int IntKind.i64 0))))]) (MC.block 0 (MC.loop (MC.seq (MC.lst [MO.mk 0 false (some 10) none (MOp.bin BinOp.lss (Od.t 9) (Od.t 8))]) (MC.seq (MC.cond (Od.t 10) MC.skip (MC.exit 0)) (MC.seq (MC.block 1 (MC.seq (MC.lst [MO.mk 0 false (some 11) none (MOp.mv (Od.t 9)), MO.mk 1 false (some 6) none (MOp.mv (Od.t 11))]) (MC.flat [MO.mk 0 true (some 12) none (MOp.mv (Od.t 5)), MO.mk 1 true (some 13) none (MOp.mv (Od.t 0)), MO.mk 2 true (some 14) none (MOp.mv (Od.t 6)), MO.mk 3 true (some 15) none (MOp.iadr 1 (Od.t 13) (Od.t 14)), MO.mk 4 true (some 16) none (MOp.load false 1 (Od.t 15)), MO.mk 5 true (some 17) none (MOp.mv (Od.t 1)), MO.mk 6 true (some 18) none (MOp.mv (Od.t 6)), MO.mk 7 true (some 19) none (MOp.iadr 1 (Od.t 17) (Od.t 18)), MO.mk 8 true (some 20) none (MOp.load false 1 (Od.t 19)), MO.mk 9 true (some 21) none (MOp.bin BinOp.mul (Od.t 16) (Od.t 20)), MO.mk 10 false (some 22) none (MOp.call 88 [Od.t 21]), MO.mk 11 false (some 23) none (MOp.bin BinOp.add (Od.t 12) (Od.t 22)), MO.mk 12 false (some 24) none (MOp.call 88 [Od.t 23]), MO.mk 13 false (some 5) none (MOp.mv (Od.t 24))]))) (MC.lst [MO.mk 0 false (some 25) none (MOp.bin BinOp.add (Od.t 9) (Od.c (V.val (Value.int IntKind.i64 1)))), MO.mk 1 false (some 9) none (MOp.mv (Od.t 25))]))))))) (MC.seq (MC.lst [MO.mk 0 false (some 26) none (MOp.mv (Od.t 5)), MO.mk 1 false (some 4) none (MOp.mv (Od.t 26))]) MC.ret)))) [RV.t 4]
theorem c_dot : compF Tryz.prog 90 = some F_dot := by kernel_rfl
def F_shift : FnM := FnM.mk 12 (MC.seq (MC.lst [MO.mk 0 false (some 4) none (MOp.mv (Od.c (V.val (Value.int IntKind.i64 0))))]) (MC.seq (MC.lst [MO.mk 0 false (some 5) none (MOp.mv (Od.t 0)), MO.mk 1 false (some 6) none (MOp.mv (Od.t 1)), MO.mk 2 false (some 7) none (MOp.bin BinOp.sub (Od.t 6) (Od.c (V.val (Value.int IntKind.i64 1)))), MO.mk 3 false (some 8) none (MOp.bin BinOp.shl (Od.c (V.val (Value.int IntKind.i64 1))) (Od.t 7)), MO.mk 4 false (some 9) none (MOp.bin BinOp.add (Od.t 5) (Od.t 8)), MO.mk 5 false (some 10) none (MOp.mv (Od.t 1)), MO.mk 6 false (some 11) none (MOp.bin BinOp.shr (Od.t 9) (Od.t 10)), MO.mk 7 false (some 4) none (MOp.mv (Od.t 11))]) MC.ret)) [RV.t 4]
theorem c_shift : compF Tryz.prog 89 = some F_shift := by kernel_rfl
def F_row : FnM := FnM.mk 16 (MC.seq (MC.lst [MO.mk 0 false (some 6) none (MOp.mv (Od.c (V.lst true [])))]) (MC.seq (MC.lst [MO.mk 0 false (some 7) none (MOp.mv (Od.t 0)), MO.mk 1 false (some 8) none (MOp.mv (Od.t 1)), MO.mk 2 false (some 9) none (MOp.mv (Od.t 2)), MO.mk 3 false (some 10) none (MOp.bin BinOp.mul (Od.t 8) (Od.t 9)), MO.mk 4 false (some 11) none (MOp.mv (Od.t 1)), MO.mk 5 false (some 12) none (MOp.bin BinOp.add (Od.t 11) (Od.c (V.val (Value.int IntKind.i64 1)))), MO.mk 6 false (some 13) none (MOp.mv (Od.t 2)), MO.mk 7 false (some 14) none (MOp.bin BinOp.mul (Od.t 12) (Od.t 13)), MO.mk 8 false (some 15) none (MOp.sl 1 (Od.t 7) (some (Od.t 10)) (some (Od.t 14))), MO.mk 9 false (some 6) none (MOp.mv (Od.t 15))]) MC.ret)) [RV.t 6]
theorem c_row : compF Tryz.prog 86 = some F_row := by kernel_rfl
def F_rows : FnM := FnM.mk 14 (MC.seq (MC.lst [MO.mk 0 false (some 4) none (MOp.mv (Od.c (V.val (Value.int IntKind.i64 0))))]) (MC.seq (MC.seq (MC.lst [MO.mk 0 false (some 5) none (MOp.mv (Od.t 0)), MO.mk 1 false (some 6) none (MOp.len (Od.t 5)), MO.mk 2 false (some 7) none (MOp.mv (Od.t 1)), MO.mk 3 false (some 8) none (MOp.bin BinOp.rem (Od.t 6) (Od.t 7)), MO.mk 4 false (some 9) none (MOp.bin BinOp.neq (Od.t 8) (Od.c (V.val (Value.int IntKind.i64 0))))]) (MC.cond (Od.t 9) (MC.seq (MC.lst [MO.mk 0 false (some 4) none (MOp.mv (Od.c (V.val (Value.int IntKind.i64 0))))]) MC.ret) MC.skip)) (MC.seq (MC.lst [MO.mk 0 false (some 10) none (MOp.mv (Od.t 0)), MO.mk 1 false (some 11) none (MOp.len (Od.t 10)), MO.mk 2 false (some 12) none (MOp.mv (Od.t 1)), MO.mk 3 false (some 13) none (MOp.bin BinOp.quo (Od.t 11) (Od.t 12)), MO.mk 4 false (some 4) none (MOp.mv (Od.t 13))]) MC.ret))) [RV.t 4]
theorem c_rows : compF Tryz.prog 87 = some F_rows := by kernel_rfl
def F_matrix : FnM := FnM.mk 14 (MC.seq (MC.lst [MO.mk 0 false (some 2) none (MOp.box 27 (Od.t 0)), MO.mk 1 false (some 4) none (MOp.mv (Od.c (V.lst true [])))]) (MC.seq (MC.lst [MO.mk 0 false (some 5) none (MOp.fadr 7 (Od.t 2)), MO.mk 1 false (some 6) none (MOp.load false 1 (Od.t 5)), MO.mk 2 false (some 7) none (MOp.mv (Od.t 1)), MO.mk 3 false (some 8) none (MOp.fadr 2 (Od.t 2)), MO.mk 4 false (some 9) none (MOp.load false 1 (Od.t 8)), MO.mk 5 false (some 10) none (MOp.fadr 2 (Od.t 2)), MO.mk 6 false (some 11) none (MOp.load false 1 (Od.t 10)), MO.mk 7 false (some 12) none (MOp.bin BinOp.mul (Od.t 9) (Od.t 11)), MO.mk 8 false (some 13) none (MOp.call 86 [Od.t 6, Od.t 7, Od.t 12]), MO.mk 9 false (some 4) none (MOp.mv (Od.t 13))]) MC.ret)) [RV.t 4]
theorem c_matrix : compF Tryz.prog 91 = some F_matrix := by kernel_rfl
def F_cloneI : FnM := FnM.mk 8 (MC.seq (MC.lst [MO.mk 0 false (some 2) none (MOp.mv (Od.c (V.lst true [])))]) (MC.seq (MC.seq (MC.lst [MO.mk 0 false (some 3) none (MOp.mv (Od.t 0)), MO.mk 1 false (some 4) none (MOp.snil false (Od.t 3))]) (MC.cond (Od.t 4) (MC.seq (MC.lst [MO.mk 0 false (some 2) none (MOp.mv (Od.c (V.lst true [])))]) MC.ret) MC.skip)) (MC.seq (MC.lst [MO.mk 0 false (some 5) none MOp.emp, MO.mk 1 false (some 6) none (MOp.mv (Od.t 0)), MO.mk 2 false (some 7) none (MOp.app 3 1 8 (Od.t 5) (Od.t 6)), MO.mk 3 false (some 2) none (MOp.mv (Od.t 7))]) MC.ret))) [RV.t 2]
theorem c_cloneI : compF Tryz.prog 40 = some F_cloneI := by kernel_rfl
end Go.Proofs.YtadkhechobeccaaGreatDoor.Vm
namespace Go.Proofs.YtadkhechobeccaaGreatDoor.Vm
open Go.RowKit
theorem hmix : Tryz.prog.follows .mixedOrders = true := by kernel_rfl
theorem le_of {a b : Nat} (h : Nat.ble a b = true) : a ≤ b := Nat.le_of_ble_eq_true h
def w32 (n : Int) : Int := IntKind.i32.wrap n
def ints (l : List Int) : List V := l.map I
@[simp] theorem ints_len (l : List Int) : (ints l).length = l.length := by simp [ints]
theorem ints_get {l : List Int} {k : Nat} {x : Int} (h : l[k]? = some x) : (ints l)[k]? = some (I x) := by simp [ints, h]
/-- sums of products, wrapped -/
def dotK (a b : List Int) : Nat → Int
  | 0 => 0
  | k + 1 => w32 (dotK a b k + w32 ((a[k]?).getD 0 * (b[k]?).getD 0))
section
variable {T : Tbl} {M : Nat → Bool} {st : St} {K : V → St → Prop} {Kp : List PanicEntry → St → Prop}
theorem w64_w32 (n : Int) : IntKind.i64.wrap (IntKind.i32.wrap n) = w32 n := by
  unfold w32
  simp only [IntKind.wrap_i64, IntKind.wrap_i32]
  omega
theorem w32_w64 (n : Int) : w32 (IntKind.i64.wrap n) = w32 n := by
  unfold w32
  simp only [IntKind.wrap_i64, IntKind.wrap_i32]
  omega
theorem wrap_v (n : Int) (hK : K (I (w32 n)) st) : CallV Tryz.prog T M 88 [I n] st K Kp := by
  refine fun_ok hmix c_wrap (le_of rfl) ?_
  simp [F_wrap, w64_w32, hK]
theorem row_v (f : Bool) (l : List V) (at_ w : Int) (h1 : 0 ≤ at_ ∧ at_ ≤ 1000000) (h2 : 0 ≤ w ∧ w ≤ 1000000) (h3 : at_ * w + w ≤ l.length) (h4 : ∀ x ∈ l, x.cells.length = 1)
    (hK : ∀ g, K (.lst g ((l.drop (at_ * w).toNat).take w.toNat)) st) : CallV Tryz.prog T M 86 [.lst f l, I at_, I w] st K Kp := by
  refine fun_ok hmix c_row (le_of rfl) ?_
  have e0 : 0 ≤ at_ * w := Int.mul_nonneg h1.1 h2.1
  have e1 : at_ * w ≤ 1000000 * 1000000 := Int.mul_le_mul h1.2 h2.2 h2.1 (by omega)
  have e2 : (at_ + 1) * w = at_ * w + w := by rw [Int.add_mul, Int.one_mul]
  have e3 : (at_ * w + w).toNat - (at_ * w).toNat = w.toNat := by omega
  have e4 : (at_ * w).toNat ≤ (at_ * w + w).toNat := by omega
  have e5 : (at_ * w + w).toNat ≤ l.length := by omega
  simp [F_row, w64 (n := at_ * w) (by omega) (by omega), w64 (n := at_ + 1) (by omega) (by omega), w64 (n := at_ * w + w) (by omega) (by omega), e2, e0, e3, e5, show 0 ≤ at_ * w + w by omega]
  exact ⟨⟨by omega, h4⟩, hK _⟩
end
end Go.Proofs.YtadkhechobeccaaGreatDoor.Vm
namespace Go.Proofs.YtadkhechobeccaaGreatDoor.Vm
open Go.RowKit
def F_below : FnM := FnM.mk 16 (MC.seq (MC.lst [MO.mk 0 false (some 4) none (MOp.mv (Od.c (V.val (Value.int IntKind.i64 0))))]) (MC.seq (MC.seq (MC.lst [MO.mk 0 false (some 5) none (MOp.mv (Od.t 1)), MO.mk 1 false (some 6) none (MOp.bin BinOp.lss (Od.t 5) (Od.c (V.val (Value.int IntKind.i64 1))))]) (MC.cond (Od.t 6) (MC.seq (MC.lst [MO.mk 0 false (some 4) none (MOp.mv (Od.c (V.val (Value.int IntKind.i64 0))))]) MC.ret) MC.skip)) (MC.seq (MC.lst [MO.mk 0 false (some 7) none (MOp.mv (Od.t 0)), MO.mk 1 false (some 8) none (MOp.mv (Od.t 1)), MO.mk 2 false (some 9) none (MOp.bin BinOp.rem (Od.t 7) (Od.t 8)), MO.mk 3 false (some 0) none (MOp.mv (Od.t 9))]) (MC.seq (MC.seq (MC.lst [MO.mk 0 false (some 10) none (MOp.mv (Od.t 0)), MO.mk 1 false (some 11) none (MOp.bin BinOp.lss (Od.t 10) (Od.c (V.val (Value.int IntKind.i64 0))))]) (MC.cond (Od.t 11) (MC.lst [MO.mk 0 false (some 12) none (MOp.mv (Od.t 0)), MO.mk 1 false (some 13) none (MOp.mv (Od.t 1)), MO.mk 2 false (some 14) none (MOp.bin BinOp.add (Od.t 12) (Od.t 13)), MO.mk 3 false (some 0) none (MOp.mv (Od.t 14))]) MC.skip)) (MC.seq (MC.lst [MO.mk 0 false (some 15) none (MOp.mv (Od.t 0)), MO.mk 1 false (some 4) none (MOp.mv (Od.t 15))]) MC.ret))))) [RV.t 4]
theorem c_below : compF Tryz.prog 16 = some F_below := by kernel_rfl
def F_next : FnM := FnM.mk 64 (MC.seq (MC.lst [MO.mk 0 false (some 4) none (MOp.mv (Od.c (V.val (Value.int IntKind.i64 0))))]) (MC.seq (MC.lst [MO.mk 0 false (some 7) none (MOp.mv (Od.t 0)), MO.mk 1 false (some 8) none (MOp.nilck (Od.t 7)), MO.mk 2 false (some 9) none (MOp.fadr 1 (Od.t 8)), MO.mk 3 false (some 10) none (MOp.load false 1 (Od.t 9)), MO.mk 4 false (some 11) none (MOp.bin BinOp.add (Od.t 10) (Od.c (V.val (Value.int IntKind.i64 1)))), MO.mk 5 false (some 12) none (MOp.nilck (Od.t 7)), MO.mk 6 false (some 13) none (MOp.fadr 1 (Od.t 12)), MO.mk 7 false none none (MOp.store 1 (Od.t 13) (Od.t 11))]) (MC.seq (MC.seq (MC.lst [MO.mk 0 false (some 14) none (MOp.mv (Od.t 0)), MO.mk 1 false (some 15) none (MOp.nilck (Od.t 14)), MO.mk 2 false (some 16) none (MOp.fadr 0 (Od.t 15)), MO.mk 3 false (some 17) none (MOp.load false 1 (Od.t 16)), MO.mk 4 false (some 18) none (MOp.len (Od.t 17)), MO.mk 5 false (some 19) none (MOp.bin BinOp.eql (Od.t 18) (Od.c (V.val (Value.int IntKind.i64 0))))]) (MC.cond (Od.t 19) (MC.seq (MC.lst [MO.mk 0 false (some 20) none (MOp.mv (Od.t 0)), MO.mk 1 false (some 21) none (MOp.nilck (Od.t 20)), MO.mk 2 false (some 22) none (MOp.fadr 1 (Od.t 21)), MO.mk 3 false (some 23) none (MOp.load false 1 (Od.t 22)), MO.mk 4 false (some 24) none (MOp.bin BinOp.mul (Od.t 23) (Od.c (V.val (Value.int IntKind.i64 7919)))), MO.mk 5 false (some 25) none (MOp.mv (Od.t 1)), MO.mk 6 false (some 26) none (MOp.call 16 [Od.t 24, Od.t 25]), MO.mk 7 false (some 4) none (MOp.mv (Od.t 26))]) MC.ret) MC.skip)) (MC.seq (MC.flat [MO.mk 0 true (some 27) none (MOp.mv (Od.t 0)), MO.mk 1 true (some 28) none (MOp.nilck (Od.t 27)), MO.mk 2 true (some 29) none (MOp.fadr 1 (Od.t 28)), MO.mk 3 true (some 30) none (MOp.load false 1 (Od.t 29)), MO.mk 4 true (some 31) none (MOp.bin BinOp.sub (Od.t 30) (Od.c (V.val (Value.int IntKind.i64 1)))), MO.mk 5 true (some 32) none (MOp.mv (Od.t 0)), MO.mk 6 true (some 33) none (MOp.nilck (Od.t 32)), MO.mk 7 true (some 34) none (MOp.fadr 0 (Od.t 33)), MO.mk 8 true (some 35) none (MOp.load false 1 (Od.t 34)), MO.mk 9 true (some 36) none (MOp.len (Od.t 35)), MO.mk 10 true (some 37) none (MOp.bin BinOp.rem (Od.t 31) (Od.t 36)), MO.mk 11 true (some 5) none (MOp.mv (Od.t 37))]) (MC.seq (MC.flat [MO.mk 0 true (some 38) none (MOp.mv (Od.t 0)), MO.mk 1 true (some 39) none (MOp.nilck (Od.t 38)), MO.mk 2 true (some 40) none (MOp.fadr 1 (Od.t 39)), MO.mk 3 true (some 41) none (MOp.load false 1 (Od.t 40)), MO.mk 4 true (some 42) none (MOp.bin BinOp.sub (Od.t 41) (Od.c (V.val (Value.int IntKind.i64 1)))), MO.mk 5 true (some 43) none (MOp.mv (Od.t 0)), MO.mk 6 true (some 44) none (MOp.nilck (Od.t 43)), MO.mk 7 true (some 45) none (MOp.fadr 0 (Od.t 44)), MO.mk 8 true (some 46) none (MOp.load false 1 (Od.t 45)), MO.mk 9 true (some 47) none (MOp.len (Od.t 46)), MO.mk 10 true (some 48) none (MOp.bin BinOp.quo (Od.t 42) (Od.t 47)), MO.mk 11 true (some 6) none (MOp.mv (Od.t 48))]) (MC.seq (MC.lst [MO.mk 0 false (some 49) none (MOp.mv (Od.t 0)), MO.mk 1 false (some 50) none (MOp.nilck (Od.t 49)), MO.mk 2 false (some 51) none (MOp.fadr 0 (Od.t 50)), MO.mk 3 false (some 52) none (MOp.load false 1 (Od.t 51)), MO.mk 4 false (some 53) none (MOp.mv (Od.t 5)), MO.mk 5 false (some 54) none (MOp.iadr 1 (Od.t 52) (Od.t 53)), MO.mk 6 false (some 55) none (MOp.load false 1 (Od.t 54)), MO.mk 7 false (some 56) none (MOp.call 16 [Od.t 55, Od.c (V.val (Value.int IntKind.i64 1073741824))]), MO.mk 8 false (some 57) none (MOp.mv (Od.t 6)), MO.mk 9 false (some 58) none (MOp.mv (Od.t 5)), MO.mk 10 false (some 59) none (MOp.bin BinOp.add (Od.c (V.val (Value.int IntKind.i64 7919))) (Od.t 58)), MO.mk 11 false (some 60) none (MOp.bin BinOp.mul (Od.t 57) (Od.t 59)), MO.mk 12 false (some 61) none (MOp.bin BinOp.add (Od.t 56) (Od.t 60)), MO.mk 13 false (some 62) none (MOp.mv (Od.t 1)), MO.mk 14 false (some 63) none (MOp.call 16 [Od.t 61, Od.t 62]), MO.mk 15 false (some 4) none (MOp.mv (Od.t 63))]) MC.ret)))))) [RV.t 4]
theorem c_next : compF Tryz.prog 10 = some F_next := by kernel_rfl
def F_range : FnM := FnM.mk 19 (MC.seq (MC.lst [MO.mk 0 false (some 6) none (MOp.mv (Od.c (V.val (Value.int IntKind.i64 0))))]) (MC.seq (MC.seq (MC.lst [MO.mk 0 false (some 7) none (MOp.mv (Od.t 2)), MO.mk 1 false (some 8) none (MOp.mv (Od.t 1)), MO.mk 2 false (some 9) none (MOp.bin BinOp.lss (Od.t 7) (Od.t 8))]) (MC.cond (Od.t 9) (MC.seq (MC.lst [MO.mk 0 false (some 10) none (MOp.mv (Od.t 1)), MO.mk 1 false (some 6) none (MOp.mv (Od.t 10))]) MC.ret) MC.skip)) (MC.seq (MC.lst [MO.mk 0 false (some 11) none (MOp.mv (Od.t 1)), MO.mk 1 false (some 12) none (MOp.mv (Od.t 0)), MO.mk 2 false (some 13) none (MOp.mv (Od.t 2)), MO.mk 3 false (some 14) none (MOp.mv (Od.t 1)), MO.mk 4 false (some 15) none (MOp.bin BinOp.sub (Od.t 13) (Od.t 14)), MO.mk 5 false (some 16) none (MOp.bin BinOp.add (Od.t 15) (Od.c (V.val (Value.int IntKind.i64 1)))), MO.mk 6 false (some 17) none (MOp.call 10 [Od.t 12, Od.t 16]), MO.mk 7 false (some 18) none (MOp.bin BinOp.add (Od.t 11) (Od.t 17)), MO.mk 8 false (some 6) none (MOp.mv (Od.t 18))]) MC.ret))) [RV.t 6]
theorem c_range : compF Tryz.prog 9 = some F_range := by kernel_rfl
def F_flip : FnM := FnM.mk 9 (MC.seq (MC.lst [MO.mk 0 false (some 4) none (MOp.mv (Od.c (V.val (Value.bool false))))]) (MC.seq (MC.lst [MO.mk 0 false (some 5) none (MOp.mv (Od.t 0)), MO.mk 1 false (some 6) none (MOp.mv (Od.t 1)), MO.mk 2 false (some 7) none (MOp.call 10 [Od.t 5, Od.t 6]), MO.mk 3 false (some 8) none (MOp.bin BinOp.eql (Od.t 7) (Od.c (V.val (Value.int IntKind.i64 0)))), MO.mk 4 false (some 4) none (MOp.mv (Od.t 8))]) MC.ret)) [RV.t 4]
theorem c_flip : compF Tryz.prog 7 = some F_flip := by kernel_rfl
def F_pick : FnM := FnM.mk 12 (MC.seq (MC.lst [MO.mk 0 false (some 4) none (MOp.mv (Od.c (V.val (Value.int IntKind.i64 0))))]) (MC.seq (MC.lst [MO.mk 0 false (some 5) none (MOp.mv (Od.t 1)), MO.mk 1 false (some 6) none (MOp.mv (Od.t 0)), MO.mk 2 false (some 7) none (MOp.mv (Od.t 1)), MO.mk 3 false (some 8) none (MOp.len (Od.t 7)), MO.mk 4 false (some 9) none (MOp.call 10 [Od.t 6, Od.t 8]), MO.mk 5 false (some 10) none (MOp.iadr 1 (Od.t 5) (Od.t 9)), MO.mk 6 false (some 11) none (MOp.load false 1 (Od.t 10)), MO.mk 7 false (some 4) none (MOp.mv (Od.t 11))]) MC.ret)) [RV.t 4]
theorem c_pick : compF Tryz.prog 28 = some F_pick := by kernel_rfl
end Go.Proofs.YtadkhechobeccaaGreatDoor.Vm
namespace Go.Proofs.YtadkhechobeccaaGreatDoor.Vm
open Go.RowKit
/-- the block of a stream -/
def strm (f : Bool) (xs : List Int) (a : Int) : Blk := .row 25 2 [.agg [.lst f (ints xs), I a]]
section
variable {T : Tbl} {M : Nat → Bool} {st : St} {K : V → St → Prop} {Kp : List PanicEntry → St → Prop}
theorem below_v (x n : Int) (_hx : -9223372036854775808 ≤ x ∧ x ≤ 9223372036854775807) (hn : n ≤ 9223372036854775807) (hK : ∀ r, (n < 1 → r = 0) → (1 ≤ n → 0 ≤ r ∧ r < n) → K (I r) st) : CallV Tryz.prog T M 16 [I x, I n] st K Kp := by
  refine fun_ok hmix c_below (le_of rfl) ?_
  by_cases h : n < 1
  · simp [F_below, h]
    exact hK 0 (fun _ => rfl) (by omega)
  · have h0 : n ≠ 0 := by omega
    have hr := Int.tmod_lt_of_pos x (show 0 < n by omega)
    have hr2 : -n < x.tmod n := by
      have := Int.lt_tmod_of_pos x (show 0 < n by omega)
      exact this
    by_cases h2 : x.tmod n < 0
    · simp [F_below, h, h0, h2, w64 (n := x.tmod n + n) (by omega) (by omega)]
      exact hK _ (by omega) (by omega)
    · simp [F_below, h, h0, h2]
      exact hK _ (by omega) (by omega)
set_option maxRecDepth 10000 in
theorem next_v (s : Nat) (f : Bool) (xs : List Int) (a n : Int) (hs : st[s]? = some (strm f xs a)) (hM : M s = true) (hxs : xs.length ≤ 9223372036854775807) (hin : ∀ x ∈ xs, -9223372036854775808 ≤ x ∧ x ≤ 9223372036854775807) (ha : 0 ≤ a ∧ a ≤ 1000000000) (hn : n ≤ 9223372036854775807)
    (hK : ∀ r, (n < 1 → r = 0) → (1 ≤ n → 0 ≤ r ∧ r < n) → K (I r) (st.set s (strm f xs (a + 1)))) : CallV Tryz.prog T M 10 [.ptr s 1 0 0, I n] st K Kp := by
  have hg : ∀ x, (st.set s x)[s]? = some x := fun x => List.getElem?_set_self (List.getElem?_eq_some_iff.1 hs).1
  have hM' := upM_of (n := st.length) hM
  refine fun_ok hmix c_next (le_of rfl) ?_
  by_cases h : xs.length = 0
  · simp [F_next, hs, strm, hM', w64 (n := a + 1) (by omega) (by omega), hg, h, w64 (n := (a + 1) * 7919) (by omega) (by omega)]
    refine below_v _ _ (by omega) hn fun r h1 h2 => ?_
    simpa [strm] using hK r h1 h2
  · have h0 : (xs.length : Int) ≠ 0 := by omega
    have hz : ((xs.length : Int) == 0) = false := by simpa using h0
    have hq : 0 ≤ a.tmod xs.length := Int.tmod_nonneg _ ha.1
    have hq2 : a.tmod xs.length < xs.length := Int.tmod_lt_of_pos _ (by omega)
    have hd : 0 ≤ a.tdiv xs.length := Int.tdiv_nonneg ha.1 (by omega)
    have hd2 : a.tdiv xs.length ≤ a := Int.tdiv_le_self _ ha.1
    simp [F_next, hs, strm, hM', w64 (n := a + 1) (by omega) (by omega), hg, hz]
    refine wp_mflat [] [] ?_
    simp [hg, h, w64 (n := a) (by omega) (by omega)]
    refine wp_mflat [] [] ?_
    simp [hg, h, w64 (n := a) (by omega) (by omega), w64 (n := a.tdiv xs.length) (by omega) (by omega)]
    have hi : (a.tmod xs.length).toNat < xs.length := by omega
    have hb := hin _ (List.getElem_mem hi)
    have hm0 : 0 ≤ a.tdiv xs.length * (7919 + a.tmod xs.length) := Int.mul_nonneg hd (by omega)
    have hm2 : a.tmod xs.length ≤ a := by
      have h3 := Int.mul_tdiv_add_tmod a xs.length
      have h4 : 0 ≤ (xs.length : Int) * a.tdiv xs.length := Int.mul_nonneg (by omega) hd
      omega
    have hm1 : a.tdiv xs.length * (7919 + a.tmod xs.length) ≤ 1000000000 * 1000007919 := Int.mul_le_mul (by omega) (by omega) (by omega) (by omega)
    simp [hq, ints_get (List.getElem?_eq_getElem hi)]
    refine below_v _ _ hb (by omega) fun r h1 h2 => ?_
    have h2' := h2 (by omega)
    simp [w64 (n := 7919 + a.tmod xs.length) (by omega) (by omega), w64 (n := a.tdiv xs.length * (7919 + a.tmod xs.length)) (by omega) (by omega), w64 (n := r + a.tdiv xs.length * (7919 + a.tmod xs.length)) (by omega) (by omega)]
    refine below_v _ _ (by omega) hn fun r2 h3 h4 => ?_
    simpa [strm] using hK r2 h3 h4
theorem range_v (s : Nat) (f : Bool) (xs : List Int) (a lo hi : Int) (hs : st[s]? = some (strm f xs a)) (hM : M s = true) (hxs : xs.length ≤ 9223372036854775807) (hin : ∀ x ∈ xs, -9223372036854775808 ≤ x ∧ x ≤ 9223372036854775807) (ha : 0 ≤ a ∧ a ≤ 1000000000) (hlo : -1000000000000 ≤ lo) (hhi : hi ≤ 1000000000000) (hle : lo ≤ hi)
    (hK : ∀ r, lo ≤ r → r ≤ hi → K (I r) (st.set s (strm f xs (a + 1)))) : CallV Tryz.prog T M 9 [.ptr s 1 0 0, I lo, I hi] st K Kp := by
  refine fun_ok hmix c_range (le_of rfl) ?_
  have h0 : ¬ hi < lo := by omega
  simp [F_range, h0, w64 (n := hi - lo) (by omega) (by omega), w64 (n := hi - lo + 1) (by omega) (by omega)]
  refine next_v s f xs a _ hs (upM_of hM) hxs hin ha (by omega) fun r h1 h2 => ?_
  simp [w64 (n := lo + r) (by omega) (by omega)]
  exact hK _ (by omega) (by omega)
theorem flip_v (s : Nat) (f : Bool) (xs : List Int) (a n : Int) (hs : st[s]? = some (strm f xs a)) (hM : M s = true) (hxs : xs.length ≤ 9223372036854775807) (hin : ∀ x ∈ xs, -9223372036854775808 ≤ x ∧ x ≤ 9223372036854775807) (ha : 0 ≤ a ∧ a ≤ 1000000000) (hn : n ≤ 1000000)
    (hK : ∀ b, K (Bo b) (st.set s (strm f xs (a + 1)))) : CallV Tryz.prog T M 7 [.ptr s 1 0 0, I n] st K Kp := by
  refine fun_ok hmix c_flip (le_of rfl) ?_
  simp [F_flip]
  refine next_v s f xs a _ hs (upM_of hM) hxs hin ha (by omega) fun r h1 h2 => ?_
  simpa using hK _
end
end Go.Proofs.YtadkhechobeccaaGreatDoor.Vm
namespace Go.Proofs.YtadkhechobeccaaGreatDoor.Vm
open Go.RowKit
def F_sbytes : FnM := FnM.mk 24 (MC.seq (MC.lst [MO.mk 0 false (some 4) none (MOp.mv (Od.c (V.lst true [])))]) (MC.seq (MC.lst [MO.mk 0 false (some 5) none (MOp.mv (Od.c (V.lst true [])))]) (MC.seq (MC.seq (MC.lst [MO.mk 0 false (some 6) none (MOp.mv (Od.t 1)), MO.mk 1 false (some 7) none (MOp.mv (Od.c (V.val (Value.int IntKind.i64 0))))]) (MC.block 0 (MC.loop (MC.seq (MC.lst [MO.mk 0 false (some 8) none (MOp.bin BinOp.lss (Od.t 7) (Od.t 6))]) (MC.seq (MC.cond (Od.t 8) MC.skip (MC.exit 0)) (MC.seq (MC.block 1 (MC.seq (MC.lst [MO.mk 0 false (some 9) none (MOp.mv (Od.t 0)), MO.mk 1 false (some 10) none (MOp.call 7 [Od.t 9, Od.c (V.val (Value.int IntKind.i64 6))])]) (MC.cond (Od.t 10) (MC.lst [MO.mk 0 false (some 11) none (MOp.mv (Od.t 5)), MO.mk 1 false (some 12) none (MOp.mv (Od.t 0)), MO.mk 2 false (some 13) none (MOp.bsl 3 1 2 (V.val (Value.int IntKind.i64 0)) [(0, Od.c (V.val (Value.int IntKind.i64 (-128)))), (1, Od.c (V.val (Value.int IntKind.i64 127)))]), MO.mk 3 false (some 14) none (MOp.call 28 [Od.t 12, Od.t 13]), MO.mk 4 false (some 15) none (MOp.bsl 3 1 1 (V.val (Value.int IntKind.i64 0)) [(0, Od.t 14)]), MO.mk 5 false (some 16) none (MOp.app 3 1 8 (Od.t 11) (Od.t 15)), MO.mk 6 false (some 5) none (MOp.mv (Od.t 16))]) (MC.lst [MO.mk 0 false (some 17) none (MOp.mv (Od.t 5)), MO.mk 1 false (some 18) none (MOp.mv (Od.t 0)), MO.mk 2 false (some 19) none (MOp.call 9 [Od.t 18, Od.c (V.val (Value.int IntKind.i64 (-9))), Od.c (V.val (Value.int IntKind.i64 9))]), MO.mk 3 false (some 20) none (MOp.bsl 3 1 1 (V.val (Value.int IntKind.i64 0)) [(0, Od.t 19)]), MO.mk 4 false (some 21) none (MOp.app 3 1 8 (Od.t 17) (Od.t 20)), MO.mk 5 false (some 5) none (MOp.mv (Od.t 21))])))) (MC.lst [MO.mk 0 false (some 22) none (MOp.bin BinOp.add (Od.t 7) (Od.c (V.val (Value.int IntKind.i64 1)))), MO.mk 1 false (some 7) none (MOp.mv (Od.t 22))]))))))) (MC.seq (MC.lst [MO.mk 0 false (some 23) none (MOp.mv (Od.t 5)), MO.mk 1 false (some 4) none (MOp.mv (Od.t 23))]) MC.ret)))) [RV.t 4]
theorem c_sbytes : compF Tryz.prog 29 = some F_sbytes := by kernel_rfl
def F_gmodel : FnM := FnM.mk 111 (MC.seq (MC.lst [MO.mk 0 false (some 2) none (MOp.alloc 27 (V.agg [V.val (Value.int IntKind.i64 0), V.val (Value.int IntKind.i64 0), V.val (Value.int IntKind.i64 0), V.val (Value.int IntKind.i64 0), V.lst true [], V.lst true [], V.lst true [], V.lst true [], V.lst true [], V.lst true [], V.lst true []]))]) (MC.seq (MC.lst [MO.mk 0 false (some 5) none (MOp.mv (Od.t 0)), MO.mk 1 false (some 6) none (MOp.call 9 [Od.t 5, Od.c (V.val (Value.int IntKind.i64 1)), Od.c (V.val (Value.int IntKind.i64 3))]), MO.mk 2 false (some 7) none (MOp.mv (Od.t 0)), MO.mk 3 false (some 8) none (MOp.bsl 3 1 5 (V.val (Value.int IntKind.i64 0)) [(0, Od.c (V.val (Value.int IntKind.i64 2))), (1, Od.c (V.val (Value.int IntKind.i64 3))), (2, Od.c (V.val (Value.int IntKind.i64 5))), (3, Od.c (V.val (Value.int IntKind.i64 8))), (4, Od.c (V.val (Value.int IntKind.i64 16)))]), MO.mk 4 false (some 9) none (MOp.call 28 [Od.t 7, Od.t 8]), MO.mk 5 false (some 10) none (MOp.mv (Od.t 0)), MO.mk 6 false (some 11) none (MOp.bsl 3 1 5 (V.val (Value.int IntKind.i64 0)) [(0, Od.c (V.val (Value.int IntKind.i64 1))), (1, Od.c (V.val (Value.int IntKind.i64 2))), (2, Od.c (V.val (Value.int IntKind.i64 3))), (3, Od.c (V.val (Value.int IntKind.i64 4))), (4, Od.c (V.val (Value.int IntKind.i64 5)))]), MO.mk 7 false (some 12) none (MOp.call 28 [Od.t 10, Od.t 11]), MO.mk 8 false (some 13) none (MOp.bld [V.val (Value.int IntKind.i64 0), V.val (Value.int IntKind.i64 0), V.val (Value.int IntKind.i64 0), V.val (Value.int IntKind.i64 0), V.lst true [], V.lst true [], V.lst true [], V.lst true [], V.lst true [], V.lst true [], V.lst true []] [(0, 1, Od.t 6), (1, 1, Od.t 9), (2, 1, Od.t 12)]), MO.mk 9 false (some 3) none (MOp.alloc 27 (V.agg [V.val (Value.int IntKind.i64 0), V.val (Value.int IntKind.i64 0), V.val (Value.int IntKind.i64 0), V.val (Value.int IntKind.i64 0), V.lst true [], V.lst true [], V.lst true [], V.lst true [], V.lst true [], V.lst true [], V.lst true []])), MO.mk 10 false none none (MOp.store 11 (Od.t 3) (Od.t 13))]) (MC.seq (MC.lst [MO.mk 0 false (some 14) none (MOp.mv (Od.t 0)), MO.mk 1 false (some 15) none (MOp.fadr 1 (Od.t 3)), MO.mk 2 false (some 16) none (MOp.load false 1 (Od.t 15)), MO.mk 3 false (some 17) none (MOp.call 9 [Od.t 14, Od.c (V.val (Value.int IntKind.i64 1)), Od.t 16]), MO.mk 4 false (some 18) none (MOp.fadr 3 (Od.t 3)), MO.mk 5 false none none (MOp.store 1 (Od.t 18) (Od.t 17))]) (MC.seq (MC.seq (MC.lst [MO.mk 0 false (some 19) none (MOp.mv (Od.t 0)), MO.mk 1 false (some 20) none (MOp.call 7 [Od.t 19, Od.c (V.val (Value.int IntKind.i64 2))])]) (MC.cond (Od.t 20) (MC.lst [MO.mk 0 false (some 21) none (MOp.fadr 1 (Od.t 3)), MO.mk 1 false (some 22) none (MOp.load false 1 (Od.t 21)), MO.mk 2 false (some 23) none (MOp.fadr 3 (Od.t 3)), MO.mk 3 false none none (MOp.store 1 (Od.t 23) (Od.t 22))]) MC.skip)) (MC.seq (MC.seq (MC.lst [MO.mk 0 false (some 24) none (MOp.mv (Od.c (V.val (Value.int IntKind.i64 0))))]) (MC.block 0 (MC.loop (MC.seq (MC.lst [MO.mk 0 false (some 25) none (MOp.bin BinOp.lss (Od.t 24) (Od.c (V.val (Value.int IntKind.i64 4))))]) (MC.seq (MC.cond (Od.t 25) MC.skip (MC.exit 0)) (MC.seq (MC.block 1 (MC.tail [MO.mk 0 true (some 26) none (MOp.fadr 4 (Od.t 3)), MO.mk 1 true (some 27) none (MOp.load false 1 (Od.t 26)), MO.mk 2 true (some 28) none (MOp.mv (Od.t 0)), MO.mk 3 false (some 29) none (MOp.bsl 3 1 7 (V.val (Value.int IntKind.i64 0)) [(0, Od.c (V.val (Value.int IntKind.i64 1))), (1, Od.c (V.val (Value.int IntKind.i64 1))), (2, Od.c (V.val (Value.int IntKind.i64 2))), (3, Od.c (V.val (Value.int IntKind.i64 3))), (4, Od.c (V.val (Value.int IntKind.i64 5))), (5, Od.c (V.val (Value.int IntKind.i64 8))), (6, Od.c (V.val (Value.int IntKind.i64 15)))]), MO.mk 4 false (some 30) none (MOp.call 28 [Od.t 28, Od.t 29]), MO.mk 5 false (some 31) none (MOp.bsl 3 1 1 (V.val (Value.int IntKind.i64 0)) [(0, Od.t 30)]), MO.mk 6 false (some 32) none (MOp.app 3 1 8 (Od.t 27) (Od.t 31)), MO.mk 7 true (some 33) none (MOp.fadr 4 (Od.t 3))] [MO.mk 8 false none none (MOp.store 1 (Od.t 33) (Od.t 32))])) (MC.lst [MO.mk 0 false (some 34) none (MOp.bin BinOp.add (Od.t 24) (Od.c (V.val (Value.int IntKind.i64 1)))), MO.mk 1 false (some 24) none (MOp.mv (Od.t 34))]))))))) (MC.seq (MC.lst [MO.mk 0 false (some 4) none (MOp.mv (Od.c (V.val (Value.int IntKind.i64 3))))]) (MC.seq (MC.seq (MC.lst [MO.mk 0 false (some 35) none (MOp.fadr 0 (Od.t 3)), MO.mk 1 false (some 36) none (MOp.load false 1 (Od.t 35))]) (MC.block 2 (MC.seq (MC.lst [MO.mk 0 false (some 38) none (MOp.bin BinOp.eql (Od.t 36) (Od.c (V.val (Value.int IntKind.i64 2)))), MO.mk 1 false (some 37) none (MOp.mv (Od.t 38))]) (MC.cond (Od.t 37) (MC.lst [MO.mk 0 false (some 4) none (MOp.mv (Od.c (V.val (Value.int IntKind.i64 2))))]) (MC.seq (MC.lst [MO.mk 0 false (some 40) none (MOp.bin BinOp.eql (Od.t 36) (Od.c (V.val (Value.int IntKind.i64 3)))), MO.mk 1 false (some 39) none (MOp.mv (Od.t 40))]) (MC.cond (Od.t 39) (MC.lst [MO.mk 0 false (some 41) none (MOp.mv (Od.t 0)), MO.mk 1 false (some 42) none (MOp.call 9 [Od.t 41, Od.c (V.val (Value.int IntKind.i64 1)), Od.c (V.val (Value.int IntKind.i64 4))]), MO.mk 2 false (some 4) none (MOp.mv (Od.t 42))]) MC.skip)))))) (MC.seq (MC.tail [MO.mk 0 true (some 43) none (MOp.mv (Od.t 0)), MO.mk 1 true (some 44) none (MOp.fadr 1 (Od.t 3)), MO.mk 2 true (some 45) none (MOp.load false 1 (Od.t 44)), MO.mk 3 true (some 46) none (MOp.fadr 2 (Od.t 3)), MO.mk 4 true (some 47) none (MOp.load false 1 (Od.t 46)), MO.mk 5 true (some 48) none (MOp.bin BinOp.mul (Od.t 45) (Od.t 47)), MO.mk 7 true (some 50) none (MOp.mv (Od.t 0)), MO.mk 8 true (some 51) none (MOp.fadr 1 (Od.t 3)), MO.mk 9 true (some 52) none (MOp.load false 1 (Od.t 51)), MO.mk 10 true (some 53) none (MOp.fadr 2 (Od.t 3)), MO.mk 11 true (some 54) none (MOp.load false 1 (Od.t 53)), MO.mk 12 true (some 55) none (MOp.bin BinOp.mul (Od.t 52) (Od.t 54)), MO.mk 6 false (some 49) none (MOp.call 29 [Od.t 43, Od.t 48]), MO.mk 14 true (some 57) none (MOp.fadr 5 (Od.t 3)), MO.mk 13 false (some 56) none (MOp.call 29 [Od.t 50, Od.t 55]), MO.mk 15 false none none (MOp.store 1 (Od.t 57) (Od.t 49)), MO.mk 16 true (some 58) none (MOp.fadr 8 (Od.t 3))] [MO.mk 17 false none none (MOp.store 1 (Od.t 58) (Od.t 56))]) (MC.seq (MC.tail [MO.mk 0 true (some 59) none (MOp.mv (Od.t 0)), MO.mk 1 true (some 60) none (MOp.mv (Od.t 0)), MO.mk 4 true (some 63) none (MOp.fadr 2 (Od.t 3)), MO.mk 5 true (some 64) none (MOp.load false 1 (Od.t 63)), MO.mk 8 true (some 67) none (MOp.mv (Od.t 0)), MO.mk 9 true (some 68) none (MOp.mv (Od.t 4)), MO.mk 10 true (some 69) none (MOp.fadr 2 (Od.t 3)), MO.mk 11 true (some 70) none (MOp.load false 1 (Od.t 69)), MO.mk 12 true (some 71) none (MOp.bin BinOp.mul (Od.t 68) (Od.t 70)), MO.mk 13 true (some 72) none (MOp.fadr 2 (Od.t 3)), MO.mk 14 true (some 73) none (MOp.load false 1 (Od.t 72)), MO.mk 15 true (some 74) none (MOp.bin BinOp.mul (Od.t 71) (Od.t 73)), MO.mk 2 false (some 61) none (MOp.bsl 3 1 4 (V.val (Value.int IntKind.i64 0)) [(0, Od.c (V.val (Value.int IntKind.i64 1))), (1, Od.c (V.val (Value.int IntKind.i64 2))), (2, Od.c (V.val (Value.int IntKind.i64 4))), (3, Od.c (V.val (Value.int IntKind.i64 16)))]), MO.mk 3 false (some 62) none (MOp.call 28 [Od.t 60, Od.t 61]), MO.mk 6 false (some 65) none (MOp.bin BinOp.mul (Od.t 62) (Od.t 64)), MO.mk 7 false (some 66) none (MOp.call 29 [Od.t 59, Od.t 65]), MO.mk 17 true (some 76) none (MOp.fadr 6 (Od.t 3)), MO.mk 16 false (some 75) none (MOp.call 29 [Od.t 67, Od.t 74]), MO.mk 18 false none none (MOp.store 1 (Od.t 76) (Od.t 66)), MO.mk 19 true (some 77) none (MOp.fadr 7 (Od.t 3))] [MO.mk 20 false none none (MOp.store 1 (Od.t 77) (Od.t 75))]) (MC.seq (MC.seq (MC.lst [MO.mk 0 false (some 78) none (MOp.mv (Od.t 0)), MO.mk 1 false (some 79) none (MOp.bsl 3 1 4 (V.val (Value.int IntKind.i64 0)) [(0, Od.c (V.val (Value.int IntKind.i64 1))), (1, Od.c (V.val (Value.int IntKind.i64 2))), (2, Od.c (V.val (Value.int IntKind.i64 5))), (3, Od.c (V.val (Value.int IntKind.i64 64)))]), MO.mk 2 false (some 80) none (MOp.call 28 [Od.t 78, Od.t 79]), MO.mk 3 false (some 81) none (MOp.mv (Od.c (V.val (Value.int IntKind.i64 0))))]) (MC.block 3 (MC.loop (MC.seq (MC.lst [MO.mk 0 false (some 82) none (MOp.bin BinOp.lss (Od.t 81) (Od.t 80))]) (MC.seq (MC.cond (Od.t 82) MC.skip (MC.exit 3)) (MC.seq (MC.block 4 (MC.tail [MO.mk 0 true (some 83) none (MOp.fadr 9 (Od.t 3)), MO.mk 1 true (some 84) none (MOp.load false 1 (Od.t 83)), MO.mk 2 true (some 85) none (MOp.mv (Od.t 0)), MO.mk 3 false (some 86) none (MOp.bsl 3 1 5 (V.val (Value.int IntKind.i64 0)) [(0, Od.c (V.val (Value.int IntKind.i64 0))), (1, Od.c (V.val (Value.int IntKind.i64 1))), (2, Od.c (V.val (Value.int IntKind.i64 8))), (3, Od.c (V.val (Value.int IntKind.i64 64))), (4, Od.c (V.val (Value.int IntKind.i64 1000)))]), MO.mk 4 false (some 87) none (MOp.call 28 [Od.t 85, Od.t 86]), MO.mk 5 false (some 88) none (MOp.bsl 3 1 1 (V.val (Value.int IntKind.i64 0)) [(0, Od.t 87)]), MO.mk 6 false (some 89) none (MOp.app 3 1 8 (Od.t 84) (Od.t 88)), MO.mk 7 true (some 90) none (MOp.fadr 9 (Od.t 3))] [MO.mk 8 false none none (MOp.store 1 (Od.t 90) (Od.t 89))])) (MC.lst [MO.mk 0 false (some 91) none (MOp.bin BinOp.add (Od.t 81) (Od.c (V.val (Value.int IntKind.i64 1)))), MO.mk 1 false (some 81) none (MOp.mv (Od.t 91))]))))))) (MC.seq (MC.lst [MO.mk 0 false (some 92) none (MOp.mv (Od.t 0)), MO.mk 1 false (some 93) none (MOp.call 9 [Od.t 92, Od.c (V.val (Value.int IntKind.i64 1)), Od.c (V.val (Value.int IntKind.i64 40))]), MO.mk 2 false (some 94) none (MOp.bsl 3 1 1 (V.val (Value.int IntKind.i64 0)) [(0, Od.t 93)]), MO.mk 3 false (some 95) none (MOp.fadr 10 (Od.t 3)), MO.mk 4 false none none (MOp.store 1 (Od.t 95) (Od.t 94))]) (MC.seq (MC.seq (MC.lst [MO.mk 0 false (some 96) none (MOp.mv (Od.t 0)), MO.mk 1 false (some 97) none (MOp.bsl 3 1 4 (V.val (Value.int IntKind.i64 0)) [(0, Od.c (V.val (Value.int IntKind.i64 0))), (1, Od.c (V.val (Value.int IntKind.i64 1))), (2, Od.c (V.val (Value.int IntKind.i64 4))), (3, Od.c (V.val (Value.int IntKind.i64 63)))]), MO.mk 2 false (some 98) none (MOp.call 28 [Od.t 96, Od.t 97]), MO.mk 3 false (some 99) none (MOp.mv (Od.c (V.val (Value.int IntKind.i64 0))))]) (MC.block 5 (MC.loop (MC.seq (MC.lst [MO.mk 0 false (some 100) none (MOp.bin BinOp.lss (Od.t 99) (Od.t 98))]) (MC.seq (MC.cond (Od.t 100) MC.skip (MC.exit 5)) (MC.seq (MC.block 6 (MC.tail [MO.mk 0 true (some 101) none (MOp.fadr 10 (Od.t 3)), MO.mk 1 true (some 102) none (MOp.load false 1 (Od.t 101)), MO.mk 2 true (some 103) none (MOp.mv (Od.t 0)), MO.mk 3 false (some 104) none (MOp.bsl 3 1 4 (V.val (Value.int IntKind.i64 0)) [(0, Od.c (V.val (Value.int IntKind.i64 0))), (1, Od.c (V.val (Value.int IntKind.i64 1))), (2, Od.c (V.val (Value.int IntKind.i64 8))), (3, Od.c (V.val (Value.int IntKind.i64 1000)))]), MO.mk 4 false (some 105) none (MOp.call 28 [Od.t 103, Od.t 104]), MO.mk 5 false (some 106) none (MOp.bsl 3 1 1 (V.val (Value.int IntKind.i64 0)) [(0, Od.t 105)]), MO.mk 6 false (some 107) none (MOp.app 3 1 8 (Od.t 102) (Od.t 106)), MO.mk 7 true (some 108) none (MOp.fadr 10 (Od.t 3))] [MO.mk 8 false none none (MOp.store 1 (Od.t 108) (Od.t 107))])) (MC.lst [MO.mk 0 false (some 109) none (MOp.bin BinOp.add (Od.t 99) (Od.c (V.val (Value.int IntKind.i64 1)))), MO.mk 1 false (some 99) none (MOp.mv (Od.t 109))]))))))) (MC.seq (MC.lst [MO.mk 0 false (some 110) none (MOp.load true 11 (Od.t 3)), MO.mk 1 false none none (MOp.store 11 (Od.t 2) (Od.t 110))]) MC.ret))))))))))))) [RV.c 2 true 11]
theorem c_gmodel : compF Tryz.prog 6 = some F_gmodel := by kernel_rfl
end Go.Proofs.YtadkhechobeccaaGreatDoor.Vm
namespace Go.Proofs.YtadkhechobeccaaGreatDoor.Vm
open Go.RowKit
/-- block sb (below n) is a stream at place a; the other blocks below n are as in st -/
structure GS (n sb : Nat) (st s : St) (f : Bool) (xs : List Int) (a : Int) : Prop where
  same : Same n sb st s
  str : s[sb]? = some (strm f xs a)
  hsb : sb < n
  src : xs.length ≤ 9223372036854775807 ∧ ∀ x ∈ xs, -9223372036854775808 ≤ x ∧ x ≤ 9223372036854775807
/-- nothing but block sb is written -/
def But (sb : Nat) (s s' : St) : Prop := s'.length = s.length ∧ ∀ b, b ≠ sb → s'[b]? = s[b]?
theorem But.set (sb : Nat) (s : St) (x : Blk) : But sb s (s.set sb x) := ⟨by simp, fun b hb => List.getElem?_set_ne (Ne.symm hb)⟩
theorem OutS.but {n t k sb : Nat} {s s' : St} {v : V} {l : List V} (h : OutS n t k s v l) (hb : But sb s s') (hn : sb < n) : OutS n t k s' v l := h.keep fun b _ _ _ h1 _ => hb.2 b (by omega)
theorem get_but {sb b : Nat} {s s' : St} {x : Blk} (h : s[b]? = some x) (hb : But sb s s') (hn : b ≠ sb) : s'[b]? = some x := (hb.2 b hn).trans h
section
variable {n sb : Nat} {st s : St} {f : Bool} {xs : List Int} {a : Int} {T : Tbl} {M : Nat → Bool} {K : V → St → Prop} {Kp : List PanicEntry → St → Prop}
theorem GS.next (g : GS n sb st s f xs a) (a' : Int) : GS n sb st (s.set sb (strm f xs a')) f xs a' := ⟨g.same.set (Or.inl rfl) _, get_set g.str _, g.hsb, g.src⟩
theorem GS.more (g : GS n sb st s f xs a) (e : St) : GS n sb st (s ++ e) f xs a := ⟨g.same.more e, get_more g.str e, g.hsb, g.src⟩
theorem GS.set (g : GS n sb st s f xs a) {b : Nat} (hb : n ≤ b) (x : Blk) : GS n sb st (s.set b x) f xs a := ⟨g.same.set (Or.inr hb) x, get_ne g.str (by have := g.hsb; omega) x, g.hsb, g.src⟩
theorem GS.to (g : GS n sb st s f xs a) {s' : St} (hl : s.length ≤ s'.length) (h : ∀ b, b < n → s'[b]? = s[b]?) : GS n sb st s' f xs a := ⟨⟨Nat.le_trans g.same.len hl, fun b h1 h2 => (h b h1).trans (g.same.get b h1 h2)⟩, (h sb g.hsb).trans g.str, g.hsb, g.src⟩
theorem GS.up (g : GS n sb st s f xs a) (M : Nat → Bool) : upM n M s.length = true := by simp [upM, g.same.len]
theorem flip_g (g : GS n sb st s f xs a) (hM : M sb = true) (ha : 0 ≤ a ∧ a ≤ 1000000000) (k : Int) (hk : k ≤ 1000000) (hK : ∀ b s', GS n sb st s' f xs (a + 1) → But sb s s' → K (Bo b) s') : CallV Tryz.prog T M 7 [.ptr sb 1 0 0, I k] s K Kp :=
  flip_v sb f xs a k g.str hM g.src.1 g.src.2 ha hk fun b => hK b _ (g.next _) (But.set _ _ _)
theorem next_g (g : GS n sb st s f xs a) (hM : M sb = true) (ha : 0 ≤ a ∧ a ≤ 1000000000) (k : Int) (hk : 1 ≤ k ∧ k ≤ 1000000) (hK : ∀ r s', 0 ≤ r → r < k → GS n sb st s' f xs (a + 1) → But sb s s' → K (I r) s') : CallV Tryz.prog T M 10 [.ptr sb 1 0 0, I k] s K Kp :=
  next_v sb f xs a k g.str hM g.src.1 g.src.2 ha (by omega) fun r _ h2 => hK r _ (h2 hk.1).1 (h2 hk.1).2 (g.next _) (But.set _ _ _)
theorem range_g (g : GS n sb st s f xs a) (hM : M sb = true) (ha : 0 ≤ a ∧ a ≤ 1000000000) (lo hi : Int) (h1 : -1000000000000 ≤ lo) (h2 : hi ≤ 1000000000000) (h3 : lo ≤ hi) (hK : ∀ r s', lo ≤ r → r ≤ hi → GS n sb st s' f xs (a + 1) → But sb s s' → K (I r) s') : CallV Tryz.prog T M 9 [.ptr sb 1 0 0, I lo, I hi] s K Kp :=
  range_v sb f xs a lo hi g.str hM g.src.1 g.src.2 ha h1 h2 h3 fun r h4 h5 => hK r _ h4 h5 (g.next _) (But.set _ _ _)
/-- one of the numbers of a literal -/
theorem pick_g (g : GS n sb st s f xs a) (hM : M sb = true) (ha : 0 ≤ a ∧ a ≤ 1000000000) {b m : Nat} {l : List Int} (hb : s[b]? = some (.row 3 1 (ints l))) (hbs : b ≠ sb) (hm : l.length = m) (hl : 0 < m ∧ m ≤ 1000) (hK : ∀ x s', x ∈ l → GS n sb st s' f xs (a + 1) → But sb s s' → K (I x) s') :
    CallV Tryz.prog T M 28 [.ptr sb 1 0 0, .own b m 0 m] s K Kp := by
  subst hm
  refine fun_ok hmix c_pick (le_of rfl) ?_
  simp [F_pick, hb]
  refine next_g g (upM_of hM) ha _ (by omega) fun r s' h1 h2 g' hbut => ?_
  have hb' := get_but hb hbut hbs
  have hr : r.toNat < l.length := by omega
  simp [hb', h1, show r < (l.length : Int) by omega]
  simp [ints]
  exact hK _ _ (List.getElem_mem hr) g' hbut
theorem ints_cells (l : List Int) : ∀ x ∈ ints l, ∀ y ∈ x.cells, y.leaf = true ∧ y.pl = true := fun x hx y hy => by
  obtain ⟨z, -, rfl⟩ := List.mem_map.1 hx
  simp at hy
  subst hy
  exact ⟨rfl, rfl⟩
theorem ints_append (l m : List Int) : ints (l ++ m) = ints l ++ ints m := by simp [ints]
def BInv (n s0 m : Nat) (st : St) (f : Bool) (xs : List Int) (a : Int) (fr : Fr) (s : St) : Prop :=
  ∃ (k : Nat) (l : List Int) (a' : Int), k ≤ m ∧ l.length = k ∧ (∀ x ∈ l, -128 ≤ x ∧ x ≤ 127) ∧ a ≤ a' ∧ a' ≤ a + 2 * k ∧ GS n s0 st s f xs a' ∧ OutS n 3 1 s (fr.g 5) (ints l) ∧ fr.df = [] ∧ fr.g 0 = .ptr s0 1 0 0 ∧ fr.g 6 = I m ∧ fr.g 7 = I k
theorem sbytes_v (s0 : Nat) (m : Nat) (hm : m ≤ 400) (hs : st[s0]? = some (strm f xs a)) (hM : M s0 = true) (src : xs.length ≤ 9223372036854775807 ∧ ∀ x ∈ xs, -9223372036854775808 ≤ x ∧ x ≤ 9223372036854775807) (ha : 0 ≤ a ∧ a ≤ 100000000)
    (hK : ∀ g l a', l.length = m → (∀ x ∈ l, -128 ≤ x ∧ x ≤ 127) → a ≤ a' → a' ≤ a + 2 * m → K (.lst g (ints l)) (st.set s0 (strm f xs a'))) : CallV Tryz.prog T M 29 [.ptr s0 1 0 0, I m] st K Kp := by
  have hlt : s0 < st.length := (List.getElem?_eq_some_iff.1 hs).1
  refine CallV.give (fun_ok hmix c_sbytes (le_of rfl) ?_)
  simp [F_sbytes]
  refine wp_mloop (BInv st.length s0 m st f xs a) (fun fr _ => m - nat (fr.g 7))
    ⟨0, [], a, by simp, rfl, by simp, by simp, by simp, ⟨Same.refl (Nat.le_refl _), hs, hlt, src⟩, by simpa [ints] using OutS.nil _ _ _ _, by simp, by simp, by simp, by simp⟩ ?_
  rintro fr s ⟨k, l, a', hk, hl, hr, ha1, ha2, g, o, hdf, g0, g6, g7⟩
  have hup : upM st.length M s0 = true := upM_of hM
  by_cases hlt2 : k < m
  · simp [g6, g7, g0, hlt2]
    refine flip_g g hup (by omega) 6 (by omega) fun b s1 g1 b1 => ?_
    have o1 := o.but b1 hlt
    have fin : ∀ (a2 : Int) (s2 : St) (x : Int) (fr' : Fr) {K' : V → St → Prop}, GS st.length s0 st s2 f xs a2 → a' ≤ a2 → a2 ≤ a' + 2 → OutS st.length 3 1 s2 (fr.g 5) (ints l) → -128 ≤ x ∧ x ≤ 127 →
        (∀ v s3, OutS st.length 3 1 s3 v (ints (l ++ [x])) → GS st.length s0 st s3 f xs a2 → K' v s3) → obind2 (mApp (liftM (upM st.length M)) 3 1 8 (s2 ++ [.row 3 1 [I x]]) (fr.g 5) (.own s2.length 1 0 1)) K' := fun a2 s2 x fr' K' g2 h1 h2 o2 hx hK' => by
      refine app_out (o2.more _) (by have := g2.same.len; simp; omega) (news := [I x]) (by simp) (by simp) (Or.inl (by simp)) (fun b _ hb _ j => by simp [upM, hb]) (by simp; omega) (by simp; omega) fun v s3 o3 hl3 hb3 _ _ => ?_
      exact hK' v s3 (by rw [ints_append]; exact o3) ((g2.more _).to hl3 hb3)
    have last : ∀ (a2 : Int) (s3 : St) (x : Int) (v : V) (fr' : Fr), GS st.length s0 st s3 f xs a2 → a' ≤ a2 → a2 ≤ a' + 2 → OutS st.length 3 1 s3 v (ints (l ++ [x])) → -128 ≤ x ∧ x ≤ 127 → fr'.g 5 = v → fr'.df = [] → fr'.g 0 = .ptr s0 1 0 0 → fr'.g 6 = I m → fr'.g 7 = I ((k : Int) + 1) → BInv st.length s0 m st f xs a fr' s3 := fun a2 s3 x v fr' g3 h1 h2 o3 hx e5 e0 e1 e6 e7 =>
      ⟨k + 1, l ++ [x], a2, by omega, by simp [hl], fun y hy => by
        rcases List.mem_append.1 hy with hy | hy
        · exact hr y hy
        · simp at hy; subst hy; exact hx, by omega, by push_cast; omega, g3, by rw [e5]; exact o3, e0, e1, e6, by rw [e7]; simp⟩
    cases b with
    | true =>
      simp
      have e1 : (s1 ++ [Blk.row 3 1 [I (-128), I 127]])[s1.length]? = some (.row 3 1 (ints [-128, 127])) := by simp [ints]
      have hne : List.length s1 ≠ s0 := Nat.ne_of_gt (Nat.lt_of_lt_of_le hlt g1.same.len)
      refine pick_g (g1.more _) hup (by omega) e1 hne rfl (by simp) fun x s2 hx g2 b2 => ?_
      have o2 := (o1.more _).but b2 hlt
      have hx' : -128 ≤ x ∧ x ≤ 127 := by simp at hx; omega
      simp
      refine fin (a' + 1 + 1) s2 x fr g2 (by omega) (by omega) o2 hx' fun v s3 o3 g3 => ?_
      simp [w64 (n := (k : Int) + 1) (by omega) (by omega)]
      exact ⟨last (a' + 1 + 1) s3 x v _ g3 (by omega) (by omega) o3 hx' (by simp) (by simp [hdf]) (by simp [g0]) (by simp [g6]) (by simp), by omega⟩
    | false =>
      simp
      refine range_g g1 hup (by omega) (-9) 9 (by omega) (by omega) (by omega) fun x s2 hx1 hx2 g2 b2 => ?_
      have o2 := o1.but b2 hlt
      simp
      refine fin (a' + 1 + 1) s2 x fr g2 (by omega) (by omega) o2 (by omega) fun v s3 o3 g3 => ?_
      simp [w64 (n := (k : Int) + 1) (by omega) (by omega)]
      exact ⟨last (a' + 1 + 1) s3 x v _ g3 (by omega) (by omega) o3 (by omega) (by simp) (by simp [hdf]) (by simp [g0]) (by simp [g6]) (by simp), by omega⟩
  · obtain rfl : k = m := by omega
    simp [g6, g7, hdf]
    obtain ⟨gg, hfr⟩ := o.frz (ints_cells l)
    refine ⟨_, hfr, g.same.low g.str (by simp [V.low]), ?_⟩
    rw [g.same.take g.str]
    exact hK gg l a' hl hr ha1 ha2
end
end Go.Proofs.YtadkhechobeccaaGreatDoor.Vm
namespace Go.Proofs.YtadkhechobeccaaGreatDoor.Vm
open Go.RowKit
def F_refEntry : FnM := FnM.mk 89 (MC.seq (MC.lst [MO.mk 0 false (some 3) none (MOp.box 27 (Od.t 0)), MO.mk 1 false (some 6) none (MOp.mv (Od.c (V.lst true [])))]) (MC.seq (MC.lst [MO.mk 0 false (some 14) none (MOp.fadr 2 (Od.t 3)), MO.mk 1 false (some 15) none (MOp.load false 1 (Od.t 14)), MO.mk 2 false (some 7) none (MOp.mv (Od.t 15))]) (MC.seq (MC.lst [MO.mk 0 false (some 16) none (MOp.mv (Od.t 2)), MO.mk 1 false (some 17) none (MOp.fadr 6 (Od.t 3)), MO.mk 2 false (some 18) none (MOp.load false 1 (Od.t 17)), MO.mk 3 false (some 19) none (MOp.len (Od.t 18)), MO.mk 4 false (some 20) none (MOp.mv (Od.t 7)), MO.mk 5 false (some 21) none (MOp.bin BinOp.quo (Od.t 19) (Od.t 20)), MO.mk 6 false (some 22) none (MOp.bin BinOp.rem (Od.t 16) (Od.t 21)), MO.mk 7 false (some 8) none (MOp.mv (Od.t 22))]) (MC.seq (MC.lst [MO.mk 0 false (some 9) none (MOp.mv (Od.c (V.lst true []))), MO.mk 1 false (some 10) none (MOp.mv (Od.c (V.lst true [])))]) (MC.seq (MC.seq (MC.lst [MO.mk 0 false (some 23) none (MOp.mv (Od.t 7)), MO.mk 1 false (some 24) none (MOp.mv (Od.c (V.val (Value.int IntKind.i64 0))))]) (MC.block 0 (MC.loop (MC.seq (MC.lst [MO.mk 0 false (some 25) none (MOp.bin BinOp.lss (Od.t 24) (Od.t 23))]) (MC.seq (MC.cond (Od.t 25) MC.skip (MC.exit 0)) (MC.seq (MC.block 1 (MC.seq (MC.lst [MO.mk 0 false (some 26) none (MOp.mv (Od.t 24)), MO.mk 1 false (some 11) none (MOp.mv (Od.t 26))]) (MC.flat [MO.mk 0 true (some 27) none (MOp.mv (Od.t 9)), MO.mk 1 true (some 28) none (MOp.fadr 5 (Od.t 3)), MO.mk 2 true (some 29) none (MOp.load false 1 (Od.t 28)), MO.mk 3 true (some 30) none (MOp.mv (Od.t 1)), MO.mk 4 true (some 31) none (MOp.mv (Od.t 7)), MO.mk 5 true (some 32) none (MOp.bin BinOp.mul (Od.t 30) (Od.t 31)), MO.mk 6 true (some 33) none (MOp.mv (Od.t 11)), MO.mk 7 true (some 34) none (MOp.bin BinOp.add (Od.t 32) (Od.t 33)), MO.mk 8 true (some 35) none (MOp.iadr 1 (Od.t 29) (Od.t 34)), MO.mk 9 true (some 36) none (MOp.load false 1 (Od.t 35)), MO.mk 10 true (some 37) none (MOp.fadr 6 (Od.t 3)), MO.mk 11 true (some 38) none (MOp.load false 1 (Od.t 37)), MO.mk 12 true (some 39) none (MOp.mv (Od.t 8)), MO.mk 13 true (some 40) none (MOp.mv (Od.t 7)), MO.mk 14 true (some 41) none (MOp.bin BinOp.mul (Od.t 39) (Od.t 40)), MO.mk 15 true (some 42) none (MOp.mv (Od.t 11)), MO.mk 16 true (some 43) none (MOp.bin BinOp.add (Od.t 41) (Od.t 42)), MO.mk 17 true (some 44) none (MOp.iadr 1 (Od.t 38) (Od.t 43)), MO.mk 18 true (some 45) none (MOp.load false 1 (Od.t 44)), MO.mk 19 true (some 46) none (MOp.bin BinOp.add (Od.t 36) (Od.t 45)), MO.mk 20 false (some 47) none (MOp.bsl 3 1 1 (V.val (Value.int IntKind.i64 0)) [(0, Od.t 46)]), MO.mk 21 false (some 48) none (MOp.app 3 1 8 (Od.t 27) (Od.t 47)), MO.mk 22 false (some 9) none (MOp.mv (Od.t 48))]))) (MC.lst [MO.mk 0 false (some 49) none (MOp.bin BinOp.add (Od.t 24) (Od.c (V.val (Value.int IntKind.i64 1)))), MO.mk 1 false (some 24) none (MOp.mv (Od.t 49))]))))))) (MC.seq (MC.seq (MC.lst [MO.mk 0 false (some 50) none (MOp.fadr 0 (Od.t 3)), MO.mk 1 false (some 51) none (MOp.load false 1 (Od.t 50)), MO.mk 2 false (some 52) none (MOp.bin BinOp.neq (Od.t 51) (Od.c (V.val (Value.int IntKind.i64 1))))]) (MC.cond (Od.t 52) (MC.seq (MC.lst [MO.mk 0 false (some 53) none (MOp.mv (Od.t 9)), MO.mk 1 false (some 6) none (MOp.mv (Od.t 53))]) MC.ret) MC.skip)) (MC.seq (MC.seq (MC.lst [MO.mk 0 false (some 54) none (MOp.mv (Od.c (V.val (Value.int IntKind.i64 0))))]) (MC.block 2 (MC.loop (MC.seq (MC.lst [MO.mk 0 false (some 55) none (MOp.bin BinOp.lss (Od.t 54) (Od.c (V.val (Value.int IntKind.i64 3))))]) (MC.seq (MC.cond (Od.t 55) MC.skip (MC.exit 2)) (MC.seq (MC.block 3 (MC.seq (MC.lst [MO.mk 0 false (some 56) none (MOp.mv (Od.t 54)), MO.mk 1 false (some 12) none (MOp.mv (Od.t 56))]) (MC.seq (MC.lst [MO.mk 0 false (some 57) none (MOp.mv (Od.t 7)), MO.mk 1 false (some 58) none (MOp.mv (Od.c (V.val (Value.int IntKind.i64 0))))]) (MC.block 4 (MC.loop (MC.seq (MC.lst [MO.mk 0 false (some 59) none (MOp.bin BinOp.lss (Od.t 58) (Od.t 57))]) (MC.seq (MC.cond (Od.t 59) MC.skip (MC.exit 4)) (MC.seq (MC.block 5 (MC.seq (MC.lst [MO.mk 0 false (some 60) none (MOp.mv (Od.t 58)), MO.mk 1 false (some 13) none (MOp.mv (Od.t 60))]) (MC.flat [MO.mk 0 true (some 61) none (MOp.mv (Od.t 10)), MO.mk 1 true (some 62) none (MOp.fadr 7 (Od.t 3)), MO.mk 2 true (some 63) none (MOp.load false 1 (Od.t 62)), MO.mk 3 true (some 64) none (MOp.mv (Od.t 12)), MO.mk 4 true (some 65) none (MOp.mv (Od.t 7)), MO.mk 5 true (some 66) none (MOp.bin BinOp.mul (Od.t 64) (Od.t 65)), MO.mk 6 true (some 67) none (MOp.mv (Od.t 7)), MO.mk 7 true (some 68) none (MOp.bin BinOp.mul (Od.t 66) (Od.t 67)), MO.mk 8 true (some 69) none (MOp.mv (Od.t 12)), MO.mk 9 true (some 70) none (MOp.bin BinOp.add (Od.t 69) (Od.c (V.val (Value.int IntKind.i64 1)))), MO.mk 10 true (some 71) none (MOp.mv (Od.t 7)), MO.mk 11 true (some 72) none (MOp.bin BinOp.mul (Od.t 70) (Od.t 71)), MO.mk 12 true (some 73) none (MOp.mv (Od.t 7)), MO.mk 13 true (some 74) none (MOp.bin BinOp.mul (Od.t 72) (Od.t 73)), MO.mk 14 true (some 75) none (MOp.sl 1 (Od.t 63) (some (Od.t 68)) (some (Od.t 74))), MO.mk 15 true (some 76) none (MOp.mv (Od.t 13)), MO.mk 16 true (some 77) none (MOp.mv (Od.t 9)), MO.mk 18 true (some 79) none (MOp.fadr 4 (Od.t 3)), MO.mk 19 true (some 80) none (MOp.load false 1 (Od.t 79)), MO.mk 20 true (some 81) none (MOp.iadr 1 (Od.t 80) (Od.c (V.val (Value.int IntKind.i64 0)))), MO.mk 21 true (some 82) none (MOp.load false 1 (Od.t 81)), MO.mk 17 false (some 78) none (MOp.call 47 [Od.t 75, Od.t 76, Od.t 77]), MO.mk 22 false (some 83) none (MOp.call 83 [Od.t 78, Od.t 82]), MO.mk 23 false (some 84) none (MOp.bsl 3 1 1 (V.val (Value.int IntKind.i64 0)) [(0, Od.t 83)]), MO.mk 24 false (some 85) none (MOp.app 3 1 8 (Od.t 61) (Od.t 84)), MO.mk 25 false (some 10) none (MOp.mv (Od.t 85))]))) (MC.lst [MO.mk 0 false (some 86) none (MOp.bin BinOp.add (Od.t 58) (Od.c (V.val (Value.int IntKind.i64 1)))), MO.mk 1 false (some 58) none (MOp.mv (Od.t 86))]))))))))) (MC.lst [MO.mk 0 false (some 87) none (MOp.bin BinOp.add (Od.t 54) (Od.c (V.val (Value.int IntKind.i64 1)))), MO.mk 1 false (some 54) none (MOp.mv (Od.t 87))]))))))) (MC.seq (MC.lst [MO.mk 0 false (some 88) none (MOp.mv (Od.t 10)), MO.mk 1 false (some 6) none (MOp.mv (Od.t 88))]) MC.ret)))))))) [RV.t 6]
theorem c_refEntry : compF Tryz.prog 60 = some F_refEntry := by kernel_rfl
def F_refRow : FnM := FnM.mk 34 (MC.seq (MC.lst [MO.mk 0 false (some 6) none (MOp.mv (Od.c (V.val (Value.int IntKind.i64 0))))]) (MC.seq (MC.lst [MO.mk 0 false (some 7) none (MOp.mv (Od.c (V.val (Value.int IntKind.i64 0))))]) (MC.seq (MC.seq (MC.lst [MO.mk 0 false (some 10) none (MOp.mv (Od.t 2)), MO.mk 1 false (some 11) none (MOp.len (Od.t 10)), MO.mk 2 false (some 12) none (MOp.mv (Od.c (V.val (Value.int IntKind.i64 0))))]) (MC.block 0 (MC.loop (MC.seq (MC.lst [MO.mk 0 false (some 13) none (MOp.bin BinOp.lss (Od.t 12) (Od.t 11))]) (MC.seq (MC.cond (Od.t 13) MC.skip (MC.exit 0)) (MC.seq (MC.block 1 (MC.seq (MC.lst [MO.mk 0 false (some 14) none (MOp.mv (Od.t 12)), MO.mk 1 false (some 15) none (MOp.iadr 1 (Od.t 10) (Od.t 12)), MO.mk 2 false (some 16) none (MOp.load false 1 (Od.t 15)), MO.mk 3 false (some 8) none (MOp.mv (Od.t 14)), MO.mk 4 false (some 9) none (MOp.mv (Od.t 16))]) (MC.lst [MO.mk 0 false (some 17) none (MOp.mv (Od.t 7)), MO.mk 1 false (some 18) none (MOp.mv (Od.t 0)), MO.mk 2 false (some 19) none (MOp.mv (Od.t 1)), MO.mk 3 false (some 20) none (MOp.mv (Od.t 2)), MO.mk 4 false (some 21) none (MOp.len (Od.t 20)), MO.mk 5 false (some 22) none (MOp.bin BinOp.mul (Od.t 19) (Od.t 21)), MO.mk 6 false (some 23) none (MOp.mv (Od.t 8)), MO.mk 7 false (some 24) none (MOp.bin BinOp.add (Od.t 22) (Od.t 23)), MO.mk 8 false (some 25) none (MOp.iadr 1 (Od.t 18) (Od.t 24)), MO.mk 9 false (some 26) none (MOp.load false 1 (Od.t 25)), MO.mk 10 false (some 27) none (MOp.mv (Od.t 9)), MO.mk 11 false (some 28) none (MOp.bin BinOp.mul (Od.t 26) (Od.t 27)), MO.mk 12 false (some 29) none (MOp.call 84 [Od.t 28]), MO.mk 13 false (some 30) none (MOp.bin BinOp.add (Od.t 17) (Od.t 29)), MO.mk 14 false (some 31) none (MOp.call 84 [Od.t 30]), MO.mk 15 false (some 7) none (MOp.mv (Od.t 31))]))) (MC.lst [MO.mk 0 false (some 32) none (MOp.bin BinOp.add (Od.t 12) (Od.c (V.val (Value.int IntKind.i64 1)))), MO.mk 1 false (some 12) none (MOp.mv (Od.t 32))]))))))) (MC.seq (MC.lst [MO.mk 0 false (some 33) none (MOp.mv (Od.t 7)), MO.mk 1 false (some 6) none (MOp.mv (Od.t 33))]) MC.ret)))) [RV.t 6]
theorem c_refRow : compF Tryz.prog 47 = some F_refRow := by kernel_rfl
def F_refShift : FnM := FnM.mk 13 (MC.seq (MC.lst [MO.mk 0 false (some 4) none (MOp.mv (Od.c (V.val (Value.int IntKind.i64 0))))]) (MC.seq (MC.flat [MO.mk 0 true (some 5) none (MOp.mv (Od.t 0)), MO.mk 1 true (some 6) none (MOp.mv (Od.t 1)), MO.mk 2 true (some 7) none (MOp.bin BinOp.sub (Od.t 6) (Od.c (V.val (Value.int IntKind.i64 1)))), MO.mk 3 true (some 8) none (MOp.bin BinOp.shl (Od.c (V.val (Value.int IntKind.i64 1))) (Od.t 7)), MO.mk 4 true (some 9) none (MOp.bin BinOp.add (Od.t 5) (Od.t 8)), MO.mk 5 true (some 10) none (MOp.mv (Od.t 1)), MO.mk 6 true (some 11) none (MOp.bin BinOp.shl (Od.c (V.val (Value.int IntKind.i64 1))) (Od.t 10)), MO.mk 7 false (some 12) none (MOp.call 111 [Od.t 9, Od.t 11]), MO.mk 8 false (some 4) none (MOp.mv (Od.t 12))]) MC.ret)) [RV.t 4]
theorem c_refShift : compF Tryz.prog 83 = some F_refShift := by kernel_rfl
def F_floorDiv : FnM := FnM.mk 16 (MC.seq (MC.lst [MO.mk 0 false (some 4) none (MOp.mv (Od.c (V.val (Value.int IntKind.i64 0))))]) (MC.seq (MC.lst [MO.mk 0 false (some 6) none (MOp.mv (Od.t 0)), MO.mk 1 false (some 7) none (MOp.mv (Od.t 1)), MO.mk 2 false (some 8) none (MOp.bin BinOp.quo (Od.t 6) (Od.t 7)), MO.mk 3 false (some 5) none (MOp.mv (Od.t 8))]) (MC.seq (MC.seq (MC.lst [MO.mk 0 false (some 9) none (MOp.mv (Od.t 0)), MO.mk 1 false (some 10) none (MOp.mv (Od.t 1)), MO.mk 2 false (some 11) none (MOp.bin BinOp.rem (Od.t 9) (Od.t 10)), MO.mk 3 false (some 12) none (MOp.bin BinOp.lss (Od.t 11) (Od.c (V.val (Value.int IntKind.i64 0))))]) (MC.cond (Od.t 12) (MC.lst [MO.mk 0 false (some 13) none (MOp.mv (Od.t 5)), MO.mk 1 false (some 14) none (MOp.bin BinOp.sub (Od.t 13) (Od.c (V.val (Value.int IntKind.i64 1)))), MO.mk 2 false (some 5) none (MOp.mv (Od.t 14))]) MC.skip)) (MC.seq (MC.lst [MO.mk 0 false (some 15) none (MOp.mv (Od.t 5)), MO.mk 1 false (some 4) none (MOp.mv (Od.t 15))]) MC.ret)))) [RV.t 4]
theorem c_floorDiv : compF Tryz.prog 111 = some F_floorDiv := by kernel_rfl
def F_wrapped : FnM := FnM.mk 7 (MC.seq (MC.lst [MO.mk 0 false (some 2) none (MOp.mv (Od.c (V.val (Value.int IntKind.i64 0))))]) (MC.seq (MC.lst [MO.mk 0 false (some 3) none (MOp.mv (Od.t 0)), MO.mk 1 false (some 4) none (MOp.conv IntKind.u32 (Od.t 3)), MO.mk 2 false (some 5) none (MOp.conv IntKind.i32 (Od.t 4)), MO.mk 3 false (some 6) none (MOp.conv IntKind.i64 (Od.t 5)), MO.mk 4 false (some 2) none (MOp.mv (Od.t 6))]) MC.ret)) [RV.t 2]
theorem c_wrapped : compF Tryz.prog 84 = some F_wrapped := by kernel_rfl
def F_within : FnM := FnM.mk 15 (MC.seq (MC.lst [MO.mk 0 false (some 6) none (MOp.mv (Od.c (V.val (Value.bool false))))]) (MC.seq (MC.lst [MO.mk 0 false (some 7) none (MOp.mv (Od.t 0)), MO.mk 1 false (some 8) none (MOp.mv (Od.t 1)), MO.mk 2 false (some 9) none (MOp.bin BinOp.geq (Od.t 7) (Od.t 8)), MO.mk 3 false (some 10) none (MOp.mv (Od.t 9)), MO.mk 4 false (some 11) (some (10, true)) (MOp.mv (Od.t 0)), MO.mk 5 false (some 12) (some (10, true)) (MOp.mv (Od.t 2)), MO.mk 6 false (some 13) (some (10, true)) (MOp.bin BinOp.leq (Od.t 11) (Od.t 12)), MO.mk 7 false (some 14) none (MOp.pick (Od.t 10) (Od.t 13) (Od.c (V.val (Value.bool false)))), MO.mk 8 false (some 6) none (MOp.mv (Od.t 14))]) MC.ret)) [RV.t 6]
theorem c_within : compF Tryz.prog 56 = some F_within := by kernel_rfl
end Go.Proofs.YtadkhechobeccaaGreatDoor.Vm
namespace Go.Proofs.YtadkhechobeccaaGreatDoor.Vm
open Go.RowKit Go.Sort
section
variable {α : Type} [Inhabited α] {enc : α → Value} {w : World} {g n : Nat} {os : Array Obj} {cur : Array Value} {e : TypeId} {fr : Nat × Nat}
theorem sorted_heap (d : Array α) (hb : w.heap[g]? = some (.cells cur e fr)) : (sortWorld enc w g 0 n d os).heap[g]? = some (.cells (putCells enc 0 d cur) e fr) := by
  have hg : g < w.heap.size := (Array.getElem?_eq_some_iff.1 hb).1
  unfold sortWorld
  rw [heap_grow_old _ _ (by simpa using hg)]
  simp [putRow, mapBlock, Sort.ahead, Array.getElem?_modify, hb, onCells]
theorem sorted_grown (d : Array α) : w.grownBy (sortWorld enc w g 0 n d os) (some g) := by
  unfold sortWorld
  refine ⟨rfl, rfl, rfl, by simp, fun k hk hne => ?_⟩
  rw [heap_grow_old _ _ (by simpa using hk)]
  have : g ≠ k := fun e => hne (by rw [e])
  simp [putRow, mapBlock, Sort.ahead, Array.getElem?_modify, this]
theorem holds_row {d : Array α} (hb : w.heap[g]? = some (.cells cur e (0, 0))) (h : ∀ j, j < d.size → cur[j]? = some (enc d[j]!)) : Holds enc w g 0 d := fun j hj => by
  refine ⟨?_, by simp [World.frozen?, hb]⟩
  simp only [World.cell?, hb, Nat.zero_add, Option.isSome_none, Bool.false_eq_true, if_false]
  exact h j hj
theorem put_at {d : Array α} {j : Nat} (hj : j < d.size) (hc : j < cur.size) : (putCells enc 0 d cur)[j]? = some (enc d[j]!) := by
  simp [putCells, hc, hj]
end
section
variable {P : Program} {T : Tbl} {M : Nat → Bool} {st : St} {K : V → St → Prop} {Kp : List PanicEntry → St → Prop} {α : Type} [Inhabited α] {enc : α → Value}
/-- the elements of a row -/
def encs (enc : α → Value) (d : Array α) : List V := d.toList.map fun x => .val (enc x)
theorem encs_get {d : Array α} {j : Nat} (hj : j < d.size) : (encs enc d)[j]? = some (.val (enc d[j]!)) := by simp [encs, hj]
theorem encs_mem {d : Array α} {j : Nat} {x : V} (h : (encs enc d)[j]? = some x) : j < d.size ∧ x = .val (enc d[j]!) := by
  have hj : j < d.size := by have := (List.getElem?_eq_some_iff.1 h).1; simpa [encs] using this
  rw [encs_get hj] at h
  exact ⟨hj, (Option.some.inj h).symm⟩
theorem mid_args {E : Env} {w : World} {mid : List Value} {x : V} {us' : List Value} (hn : us'.length = mid.length + 1) (h : ∀ (i : Nat) (y : V) (u : Value), (mid.map V.val ++ [x])[i]? = some y → us'[i]? = some u → Rel E st w y u) : ∃ u, us' = mid ++ [u] ∧ Rel E st w x u := by
  have hu : us'[mid.length]? = some us'[mid.length] := List.getElem?_eq_getElem (by omega)
  refine ⟨us'[mid.length], List.ext_getElem? fun i => ?_, h mid.length x _ (by simp) hu⟩
  by_cases hi : i < mid.length
  · have h1 : us'[i]? = some us'[i] := List.getElem?_eq_getElem (by omega)
    have h0 : (mid.map V.val ++ [x])[i]? = some (.val mid[i]) := by rw [List.getElem?_append_left (by simpa using hi), List.getElem?_map, List.getElem?_eq_getElem hi]; rfl
    have h2 := h i _ _ h0 h1
    rw [List.getElem?_append_left hi, h1, h2.lit, List.getElem?_eq_getElem hi]
  · by_cases e : i = mid.length
    · subst e; rw [hu]; simp
    · rw [List.getElem?_eq_none (by omega), List.getElem?_eq_none (by simp; omega)]
/-- a function of the library that sorts a row -/
theorem CallV.sorted {f g b t : Nat} {caps : List V} {d : Array α} {R : Array α → Prop} (mid : List Value) (hx : entersX P f = true) (hone : ∀ x, (enc x).oneCell' = true) (hb : st[b]? = some (.row t 1 (encs enc d))) (h0 : 0 < d.size) (hM : M b = true)
    (h : ∀ B w0 E w u cap, Rep B w0 E st w → Rel E st w (.fn g caps) u → (∀ b' t' k' xs', st[b']? = some (.row t' k' xs') → b' ≠ b → 0 < E.κ b' → E.φ b' ≠ E.φ b) → ¬ E.Z (E.φ b) → Holds enc w (E.φ b) 0 d → E.φ b < w.heap.size → Calls P f (Value.slice (some ⟨E.φ b, 0, none⟩) d.size cap :: (mid ++ [u])).toArray w fun e w' => e = .returned (.tuple #[]) ∧ ∃ d' n os, R d' ∧ d'.size = d.size ∧ w' = sortWorld enc w (E.φ b) 0 n d' os)
    (hK : ∀ d', R d' → d'.size = d.size → K (.tup []) (st.set b (.row t 1 (encs enc d')))) : CallV P T M f (.own b d.size 0 d.size :: (mid.map V.val ++ [.fn g caps])) st K Kp := by
  refine ⟨hx, fun B w0 E w us hR hT hu => ?_⟩
  obtain ⟨hu1, hu2⟩ := hu
  match us, hu1 with
  | u1 :: us', hu1 =>
    have r1 := hu2 0 _ _ rfl rfl
    obtain ⟨u2, rfl, r2⟩ := mid_args (us' := us') (by simpa using hu1) fun i y u h1 h2 => hu2 (i + 1) y u h1 h2
    obtain ⟨⟨k0, k1, k2, k3, k4⟩, k5⟩ := hR.ok b t 1 _ hb
    have hlen : (encs enc d).length = d.size := by simp [encs]
    have hκ : 0 < E.κ b := by omega
    obtain ⟨f1, cur, f2, f3, f4⟩ := k4 hκ
    have hcur : ∀ j, j < d.size → cur[j]? = some (enc d[j]!) := fun j hj => by
      obtain ⟨u, q1, q2⟩ := f4 j _ (encs_get hj) 0 _ rfl
      rw [q2.lit] at q1
      simpa using q1
    cases r1 with
    | pure r1 => cases r1
    | own _ _ _ _ _ hbl h1 hh =>
      obtain ⟨-, g2⟩ := hh t 1 _ hb
      obtain ⟨g3, A, rfl, g4⟩ := g2 hlen.symm
      obtain rfl := g4 (by omega)
      have hap : ∀ b' t' k' xs', st[b']? = some (.row t' k' xs') → b' ≠ b → 0 < E.κ b' → E.φ b' ≠ E.φ b := fun b' t' k' xs' h1 h2 h3 h4 => h2 (hR.inj b' b t' k' xs' t 1 _ h1 hb h3 hκ h4)
      have hc := h B w0 E w u2 (E.κ b - 0) hR r2 hap f1 (holds_row f2 hcur) (hR.mem hb hκ)
      simp only [Nat.zero_mul]
      refine Calls.mono hc fun e w' ⟨he, d', n, os, hR', hs, hw'⟩ => ?_
      subst he
      subst hw'
      have hlen' : (encs enc d').length = d'.size := by simp [encs]
      have hcs : cur.size = E.κ b := by omega
      obtain ⟨q1, q2⟩ := Rep.one_name (M := fun b _ => M b) (st' := st.set b (.row t 1 (encs enc d'))) hR (n := b) (g := E.φ b) (c := E.κ b) (t := t) (k := 1) (xs := encs enc d') (cur := putCells enc 0 d' cur) (row := some (E.φ b))
        (Or.inr ⟨_, hb, by omega, fun _ => ⟨rfl, rfl⟩, rfl, Or.inr ⟨rfl, hκ, fun p _ hMp => by simp only [hM] at hMp; cases hMp⟩⟩) (sorted_grown d') (sorted_heap d' f2) (Or.inl rfl) (by omega) k1 (by omega) (by simp [putCells, hcs]) (fun i x hx => by
          obtain ⟨-, rfl⟩ := encs_mem hx
          refine ⟨rfl, fun j y hy => ?_⟩
          match j, hy with
          | 0, hy => cases hy; exact hone _) (fun i x hx j y hy => by
          obtain ⟨hi, rfl⟩ := encs_mem hx
          match j, hy with
          | 0, hy =>
            cases hy
            refine ⟨enc d'[i]!, ?_, .pure (.val _)⟩
            rw [Nat.mul_one, Nat.add_zero]
            exact put_at hi (by omega))
      exact ⟨_, _, .tup [], q1, q2, .tup [] [] rfl (fun i y u hy => by simp at hy), hK d' hR' hs⟩
/-- a row of ints that is frozen, or lies in another block than b -/
def Src (st : St) (b : Nat) (v : V) (sc : List Int) : Prop := (∃ f, v = .lst f (sc.map fun x => .val (.int .i64 x))) ∨ ∃ b2 t2, v = .own b2 sc.length 0 sc.length ∧ b2 ≠ b ∧ st[b2]? = some (.row t2 1 (sc.map fun x => .val (.int .i64 x)))
/-- what a box with a row of ints holds -/
theorem box_sees {E : Env} {w : World} {B : Nat} {w0 : World} {b b' t' : Nat} {v : V} {sc : List Int} {u : Value} (hR : Rep B w0 E st w) (hv : Src st b v sc) (hap : ∀ b' t' k' xs', st[b']? = some (.row t' k' xs') → b' ≠ b → 0 < E.κ b' → E.φ b' ≠ E.φ b) (hnz : ¬ E.Z (E.φ b)) (hb : st[b']? = some (.row t' 1 [v])) (hu : Rel E st w (.ptr b' 1 0 0) u) (h0 : 0 < sc.length) :
    ∃ sb so cap, u = .pointer (some ⟨E.φ b', 0, none⟩) ∧ 0 < E.κ b' ∧ E.φ b' < w.heap.size ∧ w.cell? ⟨E.φ b', 0, none⟩ = some (.slice (some ⟨sb, so, none⟩) sc.length cap) ∧ sb ≠ E.φ b ∧ sb < w.heap.size ∧ ∀ i x, sc[i]? = some x → w.cell? ⟨sb, so + i, none⟩ = some (.int .i64 x) := by
  obtain ⟨⟨k0, k1, k2, k3, k4⟩, k5⟩ := hR.ok b' t' 1 _ hb
  cases hu with
  | pure h => cases h
  | ptr _ _ _ _ _ hbl h1 hh =>
    obtain ⟨-, g2⟩ := hh t' 1 _ hb
    obtain ⟨-, hκ, rfl⟩ := g2 rfl
    obtain ⟨f1, cur, f2, f3, f4⟩ := k4 hκ
    have hvc : v.cells[0]? = some v := by rcases hv with ⟨f, rfl⟩ | ⟨b2, t2, rfl, -⟩ <;> rfl
    obtain ⟨u, q1, q2⟩ := f4 0 _ rfl 0 _ hvc
    have hcell : w.cell? ⟨E.φ b', 0, none⟩ = some u := by
      simp only [World.cell?, f2, Option.isSome_none, Bool.false_eq_true, if_false]
      simpa using q1
    rcases hv with ⟨f, rfl⟩ | ⟨b2, t2, rfl, hne, hb2⟩
    · cases q2 with
      | pure q2 =>
        generalize hxs : (sc.map fun x => V.val (.int .i64 x)) = xs at q2
        cases q2 with
        | nil f A c h =>
          have : sc = [] := by simpa using hxs
          simp [this] at h0
        | lst f xs p n c k us hn hc hf hs hZ hk hl hw hr =>
          subst hxs
          obtain ⟨pb, po, ps⟩ := p
          simp at hs hn
          subst hs
          subst hn
          refine ⟨pb, po, c, by simp, hκ, hR.mem hb hκ, hcell, fun e => hnz (e ▸ hZ), hR.zlt _ hZ, fun i x hx => ?_⟩
          have hx' : (sc.map fun x => V.val (.int .i64 x))[i]? = some (.val (.int .i64 x)) := by simp [hx]
          have e1 := hw i _ hx' 0 _ rfl
          have e2 := hr i _ hx' 0 _ rfl
          have hk1 : k = 1 := (hk i _ hx').symm.trans rfl
          subst hk1
          generalize us i 0 = v at e1 e2
          cases e2 with
          | val => simpa using e1
    · obtain ⟨⟨p0, p1, p2, p3, p4⟩, p5⟩ := hR.ok b2 t2 1 _ hb2
      have hlen : (sc.map fun x => V.val (.int .i64 x)).length = sc.length := by simp
      have hκ2 : 0 < E.κ b2 := by omega
      obtain ⟨r1, cur2, r2, r3, r4⟩ := p4 hκ2
      cases q2 with
      | pure q2 => cases q2
      | own _ _ _ _ _ _ _ hh2 =>
        obtain ⟨-, g3⟩ := hh2 t2 1 _ hb2
        obtain ⟨-, A, rfl, g4⟩ := g3 hlen.symm
        obtain rfl := g4 (by omega)
        refine ⟨E.φ b2, 0, _, by simp, hκ, hR.mem hb hκ, by simpa using hcell, hap b2 t2 1 _ hb2 hne hκ2, hR.mem hb2 hκ2, fun i x hx => ?_⟩
        have hx' : (sc.map fun x => V.val (.int .i64 x))[i]? = some (.val (.int .i64 x)) := by simp [hx]
        obtain ⟨y, e1, e2⟩ := r4 i _ hx' 0 _ rfl
        rw [e2.lit] at e1
        simp only [World.cell?, r2, Option.isSome_none, Bool.false_eq_true, if_false]
        simpa using e1
/-- a cell of another block, behind a sort -/
theorem sort_other {w : World} {g n : Nat} {d : Array α} {os : Array Obj} {a : Addr} (h : a.block ≠ g) (hb : a.block < w.heap.size) : (sortWorld enc w g 0 n d os).cell? a = w.cell? a := by
  have e : (sortWorld enc w g 0 n d os).heap[a.block]? = w.heap[a.block]? := by
    unfold sortWorld
    rw [heap_grow_old _ _ (by simpa using hb)]
    have : g ≠ a.block := fun e => h e.symm
    simp [putRow, mapBlock, Sort.ahead, Array.getElem?_modify, this]
  simp only [World.cell?, e]
end
end Go.Proofs.YtadkhechobeccaaGreatDoor.Vm
namespace Go.Proofs.YtadkhechobeccaaGreatDoor.Vm
open Go.RowKit
end Go.Proofs.YtadkhechobeccaaGreatDoor.Vm
namespace Go.Proofs.YtadkhechobeccaaGreatDoor
open Go.RowKit
theorem all_inB {l : List Int} {lo hi : Int} (h : ∀ x ∈ l, lo ≤ x ∧ x ≤ hi) : l.all (inB lo hi) = true := by
  rw [List.all_eq_true]
  intro x hx
  have := h x hx
  simp only [inB, Bool.and_eq_true, decide_eq_true_eq]
  exact this
theorem inB_true {lo hi n : Int} (h : lo ≤ n ∧ n ≤ hi) : inB lo hi n = true := by
  simp only [inB, Bool.and_eq_true, decide_eq_true_eq]
  exact h
theorem five {D : Int} (h : 1 ≤ D ∧ D ≤ 5) : D = 1 ∨ D = 2 ∨ D = 3 ∨ D = 4 ∨ D = 5 := by omega
theorem rowsM_mul {n d r : Nat} (hd : 1 ≤ d) (h : n = r * d) : rowsM n d = r := by
  subst h
  unfold rowsM
  rw [if_pos (Nat.mul_mod_left _ _), Nat.mul_div_cancel _ (by omega)]
section
variable {m : LModel} (g : GenM m)
include g
theorem GenM.sized : sizedM m.kind m.vocab m.width = 0 := by
  unfold sizedM
  rw [inB_true g.kind, inB_true g.vocab, inB_true g.width]
  rfl
theorem GenM.formed : formM m = true := by
  obtain ⟨D1, D2⟩ := g.width
  obtain ⟨⟨r, r1, r2, hr⟩, -⟩ := g.place
  obtain ⟨⟨q, q1, q2, k1, k2, hq⟩, -⟩ := g.mix
  have hp : rowsM m.place.length m.width.toNat = r.toNat := rowsM_mul (by omega) (by
    have : ((r.toNat * m.width.toNat : Nat) : Int) = r * m.width := by push_cast; rw [Int.toNat_of_nonneg (by omega), Int.toNat_of_nonneg (by omega)]
    omega)
  have hm : mixM m.kind m.width m.mix.length = true := by
    unfold mixM
    by_cases c1 : m.kind = 1
    · rw [if_pos c1, hq, k1 c1]
      simp
    · rw [if_neg c1]
      by_cases c2 : m.kind = 2
      · rw [if_pos c2, hq, k2 c2]
        simp
      · rw [if_neg c2]
        have h3 : rowsM m.mix.length (m.width * m.width).toNat = q.toNat := rowsM_mul (by rcases five ⟨D1, D2⟩ with e | e | e | e | e <;> rw [e] <;> decide) (by
          have : ((q.toNat * (m.width * m.width).toNat : Nat) : Int) = q * m.width * m.width := by
            push_cast
            rw [Int.toNat_of_nonneg (by omega), Int.toNat_of_nonneg (Int.mul_nonneg (by omega) (by omega)), Int.mul_assoc]
          omega)
        rw [h3, Int.toNat_of_nonneg (by omega)]
        exact inB_true ⟨q1, q2⟩
  unfold formM
  rw [hm, hp, Int.toNat_of_nonneg (by omega), inB_true ⟨r1, r2⟩, inB_true (show (1 : Int) ≤ (m.soft.length : Int) ∧ (m.soft.length : Int) ≤ 64 by have := g.soft.1; omega), inB_true (show (1 : Int) ≤ (m.odds.length : Int) ∧ (m.odds.length : Int) ≤ 64 by have := g.odds.1; omega), g.cuts.1, g.embed.1, g.out.1]
  simp
theorem GenM.vals : valM m = true := by
  obtain ⟨-, ho, x0, hx, hx1⟩ := g.odds
  have hfl : ([m.embed, m.place, m.mix, m.out].flatten).all (inB (-128) 127) = true := by
    simp [List.all_append, all_inB g.embed.2, all_inB g.place.2, all_inB g.mix.2, all_inB g.out.2]
  have hz : (x0 == 0) = false := by simp; omega
  unfold valM
  rw [all_inB g.cuts.2, hfl, all_inB g.soft.2, all_inB ho, hx, Option.getD_some, hz]
  rfl
theorem GenM.ok : chkM m = 0 := by
  unfold chkM
  rw [if_pos g.sized, if_pos (inB_true g.top), if_pos g.formed, if_pos g.vals]
theorem GenM.lens : m.cuts.length = 4 ∧ m.embed.length ≤ 80 ∧ m.place.length ≤ 80 ∧ m.mix.length ≤ 100 ∧ m.out.length ≤ 80 ∧ m.soft.length ≤ 64 ∧ m.odds.length ≤ 64 := by
  obtain ⟨⟨r, r1, r2, hr⟩, -⟩ := g.place
  obtain ⟨⟨q, q1, q2, k1, k2, hq⟩, -⟩ := g.mix
  have hv := vd_small g.vocab g.width
  have he := g.embed.1
  have ho := g.out.1
  refine ⟨g.cuts.1, by omega, ?_, ?_, by omega, g.soft.1.2, g.odds.1.2⟩
  · rcases five g.width with e | e | e | e | e <;> rw [e] at hr <;> omega
  · rcases five g.width with e | e | e | e | e <;> rw [e] at hq <;> omega
theorem GenM.sums : sumLen [m.embed, m.place, m.mix, m.out] ≤ 1000000 ∧ sumLen [m.soft, m.odds] ≤ 1000000 := by
  obtain ⟨h1, h2, h3, h4, h5, h6, h7⟩ := g.lens
  constructor <;> simp only [sumLen, List.map_cons, List.map_nil, List.sum_cons, List.sum_nil] <;> omega
end
end Go.Proofs.YtadkhechobeccaaGreatDoor
namespace Go.Proofs.YtadkhechobeccaaGreatDoor
open Go.RowKit Go.ChangeShapes
theorem laid_out : laidOutB Tryz.prog = true := by kernel_rfl
theorem readable_ints : Tryz.prog.readableRec 22 = true := by kernel_rfl
theorem row_ints : 22 < Tryz.prog.types.size := of_decide_eq_true (by kernel_rfl)
theorem cells_int : Tryz.prog.cellsOf 3 = 1 := by kernel_rfl
set_option maxRecDepth 100000 in
theorem li_of {H : Type} {enc : TypeId × Value → H} {W : World} {base : Nat} {v : Value} {d : DataW H} {p : List MemPlace}
    (hv : Value.okWide Tryz.prog W .any base 22 v) (h : DataW.Trod enc Tryz.prog W 0 (fun _ => true) true 22 v d p) : ∃ xs, LI W v xs := by
  obtain ⟨A, n, c, rfl⟩ := Go.WideShapes.okWide_slice Tryz.underlying22 hv
  obtain ⟨fuel, hf⟩ := h
  rcases open_ints Tryz.underlying22 Tryz.underlying3 cells_int hf with ⟨hcs, -⟩ | ⟨a, len, cap, zs, hcs, -, hle, hmax, hall, -, hcell, hwf⟩
  · simp [Value.cells] at hcs
    obtain ⟨rfl, rfl, rfl⟩ := hcs
    exact ⟨[], Sl.nil_ W, Nat.zero_le _, fun x hx => by cases hx⟩
  · simp [Value.cells] at hcs
    obtain ⟨rfl, rfl, rfl⟩ := hcs
    simp only [if_true] at hall
    have hl : (zs.take n).length = n := by rw [List.length_take]; omega
    refine ⟨zs.take n, ⟨some a, c, by rw [i64s_length, hl], by rw [i64s_length, hl]; exact hle, hmax, fun h0 => ?_⟩, by rw [hl]; omega, fun x hx => ?_⟩
    · rw [i64s_length, hl] at h0
      obtain ⟨b, off, rfl, hc⟩ := ints_at hcell (by omega)
      refine ⟨b, off, rfl, fun j u hu => ?_⟩
      have hj : j < n := by
        have := (List.getElem?_eq_some_iff.1 hu).1
        rwa [i64s_length, hl] at this
      rw [i64s_at (by rw [hl]; exact hj)] at hu
      injection hu with hu
      subst hu
      rw [hc j (by omega)]
      simp [hj]
    · exact bounds_i64 (hwf x (List.mem_of_mem_take hx))
end Go.Proofs.YtadkhechobeccaaGreatDoor
